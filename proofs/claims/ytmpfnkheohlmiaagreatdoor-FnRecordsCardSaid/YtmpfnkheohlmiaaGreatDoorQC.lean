/- The walks of the functions on names and program cards: each returns what the plain function on the text's bytes says; memory is as it was. The walks of the functions that compare, measure and copy columns and cards: what each returns, and that memory has at most new blocks. The walks of the laws' own functions on lists of texts: what each returns, and which rows it writes. The walks of the laws' own functions on lists of texts that come in: their size, their copy. The walks of the helpers of the laws over layouts and records: what each returns. -/
import Derived.Test.YtmpfnkheohlmiaaGreatDoorProg
import Derived.Test.YtmpfnkheohlmiaaGreatDoorQA
import Derived.Deep.QuietTactic
import Derived.BigQuiet
import Derived.Deep.RegionHeld3
import Derived.Laws.IdiomStrings
namespace Go.Proofs.YtmpfnkheohlmiaaGreatDoor
open Go.RowKit
set_option maxRecDepth 100000

theorem impl_isSmall (c : Int) (w : World) : Calls Tryz.prog 143 #[.int .u8 c] w fun e w' => e = .returned (.bool (smallB c)) ∧ w = w' := by
  go_enter Tryz.func143, Tryz.ntmps143
  go_wp2
  all_goals go_ret
  all_goals exact ⟨ret_bool (by unfold smallB; simp [*]; try omega), rfl⟩
theorem impl_isDigit (c : Int) (w : World) : Calls Tryz.prog 144 #[.int .u8 c] w fun e w' => e = .returned (.bool (digitB c)) ∧ w = w' := by
  go_enter Tryz.func144, Tryz.ntmps144
  go_wp2
  all_goals go_ret
  all_goals exact ⟨ret_bool (by unfold digitB; simp [*]; try omega), rfl⟩
theorem spec_l01Small (c : Int) (w : World) : Calls Tryz.prog 147 #[.int .u8 c] w fun e w' => e = .returned (.bool (smallB c)) ∧ w = w' := by
  go_enter Tryz.func147, Tryz.ntmps147
  go_wp2
  all_goals go_ret
  all_goals exact ⟨ret_bool (by unfold smallB; simp [*]; try omega), rfl⟩
theorem spec_l01Digit (c : Int) (w : World) : Calls Tryz.prog 105 #[.int .u8 c] w fun e w' => e = .returned (.bool (digitB c)) ∧ w = w' := by
  go_enter Tryz.func105, Tryz.ntmps105
  go_wp2
  all_goals go_ret
  all_goals exact ⟨ret_bool (by unfold digitB; simp [*]; try omega), rfl⟩

set_option maxHeartbeats 400000 in
theorem impl_IsName (s : ByteArray) (hs : s.size ≤ maxLen) (w : World) :
    Calls Tryz.prog 110 #[.string s] w fun e w' => e = .returned (.bool (isNameL s.data.toList)) ∧ w = w' := by
  unfold maxLen at hs
  have hl := Lib.hid (len_bytes s)
  by_cases h0 : s.size < 1 ∨ 12 < s.size
  · have hf := Lib.hid (isName_len (l := s.data.toList) (by rw [hl.out]; exact h0))
    rcases h0 with h0 | h0
    all_goals
      go_enter Tryz.func110, Tryz.ntmps110
      go_wp2_with fail
      go_ret
      exact ⟨ret_bool (by rw [hf.out]), rfl⟩
  obtain ⟨h1, h2⟩ := not_or.1 h0
  clear h0
  have g0 := Lib.hid (get_bytes s 0 (by omega))
  cases h3 : smallB (s[0].toNat : Int)
  · have hf := Lib.hid (isName_first g0.out h3)
    go_enter Tryz.func110, Tryz.ntmps110
    go_wp2_with (go_at_call 143; ((with_reducible refine (impl_isSmall _ _).mono ?_); rintro e w' ⟨rfl, rfl⟩))
    go_ret
    exact ⟨ret_bool (by rw [hf.out]), rfl⟩
  · go_enter Tryz.func110, Tryz.ntmps110
    go_wp2_with (go_at_call 143; ((with_reducible refine (impl_isSmall _ _).mono ?_); rintro e w' ⟨rfl, rfl⟩))
    go_loop [3] (fun i => ∃ k : Nat, k ≤ s.size ∧ i = .int .i64 k ∧ Hid ((s.data.toList.take k).all (fun c => nameB c.toNat) = true)) (fun i => s.size - (intOf i).toNat)
    case atStart => exact ⟨0, by omega, rfl, by simp [Hid]⟩
    case round =>
      obtain ⟨k, hk, rfl, hall⟩ := hrel
      by_cases hlt : k < s.size
      · have hget := Lib.hid (get_bytes s k hlt)
        go_wp2_with (first | (go_at_call 143; ((with_reducible refine (impl_isSmall _ _).mono ?_); rintro e w' ⟨rfl, rfl⟩)) | (go_at_call 144; ((with_reducible refine (impl_isDigit _ _).mono ?_); rintro e w' ⟨rfl, rfl⟩)))
        all_goals first
          | (go_round
             case rel => exact ⟨k + 1, by omega, by go_num, all_succ hget.out hall.out (by simp_all [nameB])⟩
             case measure => simp [intOf]; omega)
          | (go_ret; exact ⟨ret_bool (by rw [isName_not hget.out (by simp_all [nameB])]), rfl⟩)
      · go_wp2_with fail
        go_ret
        exact ⟨ret_bool (by rw [isName_yes (by rw [hl.out]; exact h1) (by rw [hl.out]; exact h2) g0.out h3 (by rw [hl.out]; omega) hall.out]), rfl⟩

set_option maxHeartbeats 400000 in
theorem spec_IsName (s : ByteArray) (hs : s.size ≤ maxLen) (w : World) :
    Calls Tryz.prog 118 #[.string s] w fun e w' => e = .returned (.bool (isNameL s.data.toList)) ∧ w = w' := by
  unfold maxLen at hs
  have hl := Lib.hid (len_bytes s)
  by_cases hE : s.size = 0
  · have hf := Lib.hid (isName_len (l := s.data.toList) (by rw [hl.out]; omega))
    obtain ⟨e1, e2⟩ := empty_text hE
    go_enter Tryz.func118, Tryz.ntmps118
    go_wp2_with fail
    go_ret
    exact ⟨ret_bool (by rw [hf.out]), rfl⟩
  obtain ⟨e1, e2⟩ := full_text hE
  by_cases h2 : 12 < s.size
  · have hf := Lib.hid (isName_len (l := s.data.toList) (by rw [hl.out]; omega))
    go_enter Tryz.func118, Tryz.ntmps118
    go_wp2_with fail
    go_ret
    exact ⟨ret_bool (by rw [hf.out]), rfl⟩
  have g0 := Lib.hid (get_bytes s 0 (by omega))
  cases h3 : smallB (s[0].toNat : Int)
  · have hf := Lib.hid (isName_first g0.out h3)
    go_enter Tryz.func118, Tryz.ntmps118
    go_wp2_with (go_at_call 147; ((with_reducible refine (spec_l01Small _ _).mono ?_); rintro e w' ⟨rfl, rfl⟩))
    go_ret
    exact ⟨ret_bool (by rw [hf.out]), rfl⟩
  · go_enter Tryz.func118, Tryz.ntmps118
    go_wp2_with (go_at_call 147; ((with_reducible refine (spec_l01Small _ _).mono ?_); rintro e w' ⟨rfl, rfl⟩))
    go_loop [3] (fun i => ∃ k : Nat, k ≤ s.size ∧ i = .int .i64 k ∧ Hid ((s.data.toList.take k).all (fun c => nameB c.toNat) = true)) (fun i => s.size - (intOf i).toNat)
    case atStart => exact ⟨0, by omega, rfl, by simp [Hid]⟩
    case round =>
      obtain ⟨k, hk, rfl, hall⟩ := hrel
      by_cases hlt : k < s.size
      · have hget := Lib.hid (get_bytes s k hlt)
        go_wp2_with (first | (go_at_call 147; ((with_reducible refine (spec_l01Small _ _).mono ?_); rintro e w' ⟨rfl, rfl⟩)) | (go_at_call 105; ((with_reducible refine (spec_l01Digit _ _).mono ?_); rintro e w' ⟨rfl, rfl⟩)))
        all_goals first
          | (go_round
             case rel => exact ⟨k + 1, by omega, by go_num, all_succ hget.out hall.out (by simp_all [nameB])⟩
             case measure => simp [intOf]; omega)
          | (go_ret; exact ⟨ret_bool (by rw [isName_not hget.out (by simp_all [nameB])]), rfl⟩)
      · go_wp2_with fail
        go_ret
        exact ⟨ret_bool (by rw [isName_yes (by rw [hl.out]; omega) (by rw [hl.out]; exact h2) g0.out h3 (by rw [hl.out]; omega) hall.out]), rfl⟩

theorem impl_inside (n low high : Int) (w : World) : Calls Tryz.prog 62 #[.int .i64 n, .int .i64 low, .int .i64 high] w fun e w' => e = .returned (.bool (inB n low high)) ∧ w = w' := by
  go_enter Tryz.func62, Tryz.ntmps62
  go_wp2
  all_goals go_ret
  all_goals exact ⟨ret_bool (by unfold inB; simp [*]; try omega), rfl⟩
theorem spec_l00In (n low high : Int) (w : World) : Calls Tryz.prog 82 #[.int .i64 n, .int .i64 low, .int .i64 high] w fun e w' => e = .returned (.bool (inB n low high)) ∧ w = w' := by
  go_enter Tryz.func82, Tryz.ntmps82
  go_wp2
  all_goals go_ret
  all_goals exact ⟨ret_bool (by unfold inB; simp [*]; try omega), rfl⟩


end Go.Proofs.YtmpfnkheohlmiaaGreatDoor
namespace Go.Proofs.YtmpfnkheohlmiaaGreatDoor
open Go.RowKit
set_option maxRecDepth 100000
set_option linter.unusedVariables false
set_option linter.unusedSimpArgs false
set_option linter.unnecessarySimpa false

set_option maxHeartbeats 400000 in
theorem spec_l00Same (a b : Option Addr) (ca cb : Nat) (xs ys : List Int) (w : World) (hx : RI w a xs) (hy : RI w b ys) (h1 : xs.length ≤ maxLen) (h2 : ys.length ≤ maxLen) :
    Calls Tryz.prog 60 #[.slice a xs.length ca, .slice b ys.length cb] w fun e w' => e = .returned (.bool (eqB xs ys)) ∧ Below w.heap.size w w' := by
  unfold maxLen at h1 h2
  by_cases hl : xs.length = ys.length
  · generalize hn : xs.length = n at *
    have hl' := Lib.hid hl
    have hn' := Lib.hid hn
    clear hl hn
    rw [← hl'.out] at h2 ⊢
    go_enter Tryz.func60, Tryz.ntmps60
    go_wp2_with fail
    go_loopw [5] (fun i wr => ∃ k : Nat, k ≤ n ∧ i = .int .i64 k ∧ Hid (xs.take k = ys.take k) ∧ Below w.heap.size w wr) (fun i _ => n - (intOf i).toNat)
    case atStart => exact ⟨0, by omega, rfl, Lib.hid rfl, Below.refl _ _⟩
    case round =>
      obtain ⟨k, hk, rfl, hall, hb⟩ := hrel
      by_cases hlt : k < n
      · obtain ⟨x, hxk⟩ := get_some (l := xs) (k := k) (by rw [hn'.out]; exact hlt)
        obtain ⟨y, hyk⟩ := get_some (l := ys) (k := k) (by rw [← hl'.out]; exact hlt)
        obtain ⟨b1, o1, rfl, hc1⟩ := (hx.kept hb).at hxk
        obtain ⟨b2, o2, rfl, hc2⟩ := (hy.kept hb).at hyk
        have hxk' := Lib.hid hxk
        have hyk' := Lib.hid hyk
        clear hxk hyk
        go_wp2_with fail
        go_quiet (fail)
        go_wp2_with fail
        · go_ret
          have hne := ‹(x != y) = true›
          exact ⟨ret_bool (eqB_no (ne_of_at hxk'.out hyk'.out (by simpa using hne))).symm, below_drewN hb _⟩
        · go_roundw
          case rel =>
            have he := ‹(x != y) = false›
            exact ⟨k + 1, by omega, by go_num, Lib.hid (take_eq_succ hxk'.out hyk'.out hall.out (by simpa using he)), below_drewN hb _⟩
          case measure => simp [intOf]; omega
      · go_wp2_with fail
        go_ret
        exact ⟨ret_bool (eqB_yes (xs := xs) (ys := ys) (eq_of_take (by rw [hn'.out]; omega) (by rw [← hl'.out]; omega) hall.out)).symm, hb⟩
  · have hne := Lib.hid (eqB_no (xs := xs) (ys := ys) (fun e => hl (by rw [e])))
    have hd : ((xs.length : Int) != (ys.length : Int)) = true := by simp; omega
    go_enter Tryz.func60, Tryz.ntmps60
    go_wp2_with fail
    go_ret
    exact ⟨ret_bool (by rw [hne.out]), Below.refl _ _⟩



theorem spec_SameCard_at (a b : Option Addr) (ca cb : Nat) (xs ys : List Int) (w : World) (hx : RI w a xs) (hy : RI w b ys) (h1 : xs.length ≤ maxLen) (h2 : ys.length ≤ maxLen) :
    Calls Tryz.prog 20 #[.agg #[.slice a xs.length ca], .agg #[.slice b ys.length cb]] w fun e w' => e = .returned (.bool (eqB xs ys)) ∧ Below w.heap.size w w' := by
  have hb2 := below_alloc2 w (.cells #[.slice a xs.length ca] 32) (.cells #[.slice b ys.length cb] 32)
  have hc := spec_l00Same a b ca cb xs ys _ (hx.kept hb2) (hy.kept hb2) h1 h2
  have HC := Lib.hid hc
  have HB := Lib.hid hb2
  clear hc hb2
  go_enter Tryz.func20, Tryz.ntmps20
  go_wp2_with (go_at_call 60; ((with_reducible refine HC.out.mono ?_); rintro e w' ⟨rfl, hb⟩))
  all_goals
    go_ret
    exact ⟨ret_bool (by simp_all), bthen HB.out hb⟩



theorem spec_SameCard (a : Option Addr) (c : Nat) (x : List Int) (b : Option Addr) (d : Nat) (y : List Int) (w : World) (hx : RI w a x) (hy : RI w b y) (h1 : x.length ≤ maxLen) (h2 : y.length ≤ maxLen) :
    Calls Tryz.prog 20 #[.agg #[.slice a x.length c], .agg #[.slice b y.length d]] w fun e w' => e = .returned (.bool (eqB x y)) ∧ Below w.heap.size w w' := spec_SameCard_at a b c d x y w hx hy h1 h2
theorem Tryz.info_int64 : (Tryz.prog.info? 2).map (fun i => (i.zero, i.size, i.bytes)) = some (some (.int .i64 0), 1, 8) := by kernel_rfl

end Go.Proofs.YtmpfnkheohlmiaaGreatDoor
namespace Go.Proofs.YtmpfnkheohlmiaaGreatDoor
open Go.RowKit
set_option maxRecDepth 100000
set_option linter.unusedVariables false
set_option linter.unusedSimpArgs false
set_option linter.unnecessarySimpa false

theorem Tryz.info_byte : (Tryz.prog.info? 5).map (fun i => (i.zero, i.size, i.bytes)) = some (some (.int .u8 0), 1, 1) := by kernel_rfl
theorem Tryz.info_string : (Tryz.prog.info? 9).map (fun i => (i.zero, i.size, i.bytes)) = some (some (.string ⟨#[]⟩), 1, 16) := by kernel_rfl
/-- a letter of a number -/
def digU (k : Nat) : UInt8 := UInt8.ofNat (48 + k % 10)
theorem digU_is (k : Nat) : ((digU k).toNat : Int) = 48 + (k : Int) % 10 := by
  unfold digU; rw [UInt8.toNat_ofNat', Nat.mod_eq_of_lt (by omega)]; omega
/-- the digits of a number ahead of a text -/
def digS (k : Nat) (s : ByteArray) : ByteArray := if h : k = 0 then s else digS (k / 10) (⟨#[digU k]⟩ ++ s)
termination_by k
decreasing_by omega
theorem digS_zero (s : ByteArray) : digS 0 s = s := by rw [digS]; simp
theorem digS_step {k : Nat} (h : 0 < k) (s : ByteArray) : digS k s = digS (k / 10) (⟨#[digU k]⟩ ++ s) := by rw [digS]; simp [Nat.ne_of_gt h]
/-- the mark k as a text -/
def markS (k : Int) : ByteArray := ⟨#[109]⟩ ++ digS k.toNat ⟨#[]⟩
def marksS (k : Int) (n : Nat) : List ByteArray := (List.range n).map fun (j : Nat) => markS (k + (j : Int))
theorem marksS_length (k : Int) (n : Nat) : (marksS k n).length = n := by simp [marksS]
theorem marksS_at (k : Int) {n j : Nat} (h : j < n) : (marksS k n)[j]? = some (markS (k + j)) := by simp [marksS, h]
def markUpS (k : Int) (ss : List ByteArray) (j : Nat) : List ByteArray := marksS k j ++ ss.drop j
theorem markUpS_zero (k : Int) (ss : List ByteArray) : markUpS k ss 0 = ss := by simp [markUpS, marksS]
theorem markUpS_all (k : Int) (ss : List ByteArray) {j : Nat} (h : j = ss.length) : markUpS k ss j = marksS k ss.length := by subst h; simp [markUpS]
theorem markUpS_set (k : Int) (ss : List ByteArray) {j : Nat} (h : j < ss.length) : ((markUpS k ss j).map Value.string).set j (.string (markS (k + j))) = (markUpS k ss (j + 1)).map Value.string := by
  have h1 : (marksS k j).length = j := marksS_length k j
  rw [markUpS, markUpS, List.map_append, List.set_append_right _ _ (by simp [h1]), List.length_map, h1, Nat.sub_self, List.drop_eq_getElem_cons h, List.map_cons, List.set_cons_zero]
  simp [marksS, List.range_succ]
theorem markUpS_at (k : Int) (ss : List ByteArray) {j : Nat} (h : j < ss.length) : ∃ v, ((markUpS k ss j).map Value.string)[j]? = some v := by
  have h1 : (marksS k j).length = j := marksS_length k j
  exact get_some (by simp [markUpS, h1]; omega)
end Go.Proofs.YtmpfnkheohlmiaaGreatDoor
namespace Go.Proofs.YtmpfnkheohlmiaaGreatDoor
open Go.RowKit
set_option maxRecDepth 100000
set_option linter.unusedVariables false
set_option linter.unusedSimpArgs false
set_option linter.unnecessarySimpa false

/-- how many things a list of texts holds: the texts, and their letters -/
def textsSz (ss : List ByteArray) : Nat := ss.length + (ss.map ByteArray.size).sum
def textsUp (ss : List ByteArray) (k : Nat) : Nat := ((ss.take k).map ByteArray.size).sum
theorem textsUp_succ {ss : List ByteArray} {k : Nat} {x : ByteArray} (h : ss[k]? = some x) : textsUp ss (k + 1) = textsUp ss k + x.size := by
  unfold textsUp; rw [List.take_add_one, h]; simp
theorem textsUp_le (ss : List ByteArray) (k : Nat) : textsUp ss k ≤ (ss.map ByteArray.size).sum := by
  have h : (ss.map ByteArray.size).sum = ((ss.take k).map ByteArray.size).sum + ((ss.drop k).map ByteArray.size).sum := by rw [← List.sum_append, ← List.map_append, List.take_append_drop]
  unfold textsUp
  omega
theorem textsUp_all {ss : List ByteArray} {k : Nat} (h : ss.length ≤ k) : textsUp ss k = (ss.map ByteArray.size).sum := by unfold textsUp; rw [List.take_of_length_le h]
theorem textsSz_at {ss : List ByteArray} {k : Nat} {x : ByteArray} (h : ss[k]? = some x) : x.size + ss.length ≤ textsSz ss := by
  have h1 := textsUp_le ss (k + 1)
  rw [textsUp_succ h] at h1
  unfold textsSz; omega
theorem textsSz_len (ss : List ByteArray) : ss.length ≤ textsSz ss := by unfold textsSz; omega
theorem textsSz_mem {us : List ByteArray} {u : ByteArray} (h : u ∈ us) (hm : textsSz us ≤ 1048576) : u.size ≤ 1048576 := by
  obtain ⟨k, hk⟩ := List.getElem?_of_mem h
  have := textsSz_at hk
  omega
end Go.Proofs.YtmpfnkheohlmiaaGreatDoor
namespace Go.Proofs.YtmpfnkheohlmiaaGreatDoor
open Go.RowKit
set_option maxRecDepth 100000
set_option linter.unusedVariables false
set_option linter.unusedSimpArgs false
set_option linter.unnecessarySimpa false

theorem laws_f6big (a : Option Addr) (n c : Nat) (w : World) (hn : n ≤ maxLen) :
    Calls Tryz.prog 4 #[.slice a n c] w fun e w' => e = .returned (.bool (decide (4096 < n))) ∧ w' = w := by
  unfold maxLen at hn
  by_cases h : 4096 < n
  · have hd : decide ((4096 : Int) < (n : Int)) = true := decide_eq_true (by omega)
    have hd2 : decide (4096 < n) = true := decide_eq_true h
    go_enter Tryz.func4, Tryz.ntmps4
    go_wp2_with fail
    go_ret
    exact ⟨by first | rfl | exact ret_bool (by simp [*]), rfl⟩
  · have hd : decide ((4096 : Int) < (n : Int)) = false := decide_eq_false (by omega)
    have hd2 : decide (4096 < n) = false := decide_eq_false h
    go_enter Tryz.func4, Tryz.ntmps4
    go_wp2_with fail
    go_ret
    exact ⟨by first | rfl | exact ret_bool (by simp [*]), rfl⟩
set_option maxHeartbeats 400000 in
theorem laws_f6texts (a b : Option Addr) (ca cb : Nat) (xs ys : List ByteArray) (w : World) (hx : RS w a xs) (hy : RS w b ys) (h1 : xs.length ≤ maxLen) (h2 : ys.length ≤ maxLen) :
    Calls Tryz.prog 21 #[.slice a xs.length ca, .slice b ys.length cb] w fun e w' => e = .returned (.bool (eqB xs ys)) ∧ Below w.heap.size w w' := by
  unfold maxLen at h1 h2
  by_cases hl : xs.length = ys.length
  · generalize hn : xs.length = n at *
    have hl' := Lib.hid hl
    have hn' := Lib.hid hn
    clear hl hn
    rw [← hl'.out] at h2 ⊢
    go_enter Tryz.func21, Tryz.ntmps21
    go_wp2_with fail
    go_loopw [5] (fun i wr => ∃ k : Nat, k ≤ n ∧ i = .int .i64 k ∧ Hid (xs.take k = ys.take k) ∧ Below w.heap.size w wr) (fun i _ => n - (intOf i).toNat)
    case atStart => exact ⟨0, by omega, rfl, Lib.hid rfl, Below.refl _ _⟩
    case round =>
      obtain ⟨k, hk, rfl, hall, hb⟩ := hrel
      by_cases hlt : k < n
      · obtain ⟨x, hxk⟩ := get_some (l := xs) (k := k) (by rw [hn'.out]; exact hlt)
        obtain ⟨y, hyk⟩ := get_some (l := ys) (k := k) (by rw [← hl'.out]; exact hlt)
        obtain ⟨b1, o1, rfl, hc1⟩ := (hx.kept hb).at hxk
        obtain ⟨b2, o2, rfl, hc2⟩ := (hy.kept hb).at hyk
        have hxk' := Lib.hid hxk
        have hyk' := Lib.hid hyk
        clear hxk hyk
        go_wp2_with fail
        go_quiet (fail)
        go_wp2_with fail
        · go_ret
          exact ⟨ret_bool (eqB_no (ne_of_at hxk'.out hyk'.out (fun e => by subst e; simp_all))).symm, below_drewN hb _⟩
        · go_roundw
          case rel =>
            have he : x = y := by
              rename_i hh
              have h2 : x.toList = y.toList := by simpa using hh
              rw [toList_eq, toList_eq] at h2
              exact ByteArray.ext (Array.ext' h2)
            exact ⟨k + 1, by omega, by go_num, Lib.hid (take_eq_succ hxk'.out hyk'.out hall.out he), below_drewN hb _⟩
          case measure => simp [intOf]; omega
      · go_wp2_with fail
        go_ret
        exact ⟨ret_bool (eqB_yes (xs := xs) (ys := ys) (eq_of_take (by rw [hn'.out]; omega) (by rw [← hl'.out]; omega) hall.out)).symm, hb⟩
  · have hne := Lib.hid (eqB_no (xs := xs) (ys := ys) (fun e => hl (by rw [e])))
    have hd : ((xs.length : Int) != (ys.length : Int)) = true := by simp; omega
    go_enter Tryz.func21, Tryz.ntmps21
    go_wp2_with fail
    go_ret
    exact ⟨ret_bool (by rw [hne.out]), Below.refl _ _⟩
end Go.Proofs.YtmpfnkheohlmiaaGreatDoor
