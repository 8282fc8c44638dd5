/- The walks of the functions on the fields of a card, in both packages: what each returns, and that memory has at most new blocks. The walks of the laws' own functions on items and layouts, and of the comparison of layouts: what each returns, and that memory has at most new blocks. -/
import Derived.Test.YtcbjfgjlhjjpiaaGreatDoorQE
import Derived.Test.YtcbjfgjlhjjpiaaGreatDoorQA
import Derived.Deep.RegionHeld3
import Derived.Laws.StructEq
namespace Go.Proofs.YtcbjfgjlhjjpiaaGreatDoor
open Go.RowKit
set_option maxRecDepth 100000
set_option linter.unusedVariables false
set_option linter.unusedSimpArgs false
set_option linter.unnecessarySimpa false

/-- is it a field of n columns? -/
def fieldB (f t n : Int) : Bool := decide (0 ≤ f) && decide (f < t) && decide (t ≤ n)
theorem fieldB_yes {f t n : Int} (h : fieldB f t n = true) : 0 ≤ f ∧ f < t ∧ t ≤ n := by
  unfold fieldB at h; simp only [Bool.and_eq_true, decide_eq_true_eq] at h; exact ⟨h.1.1, h.1.2, h.2⟩
theorem fieldB_1 {f t n : Int} (h : ¬ 0 ≤ f) : fieldB f t n = false := by unfold fieldB; simp [h]
theorem fieldB_2 {f t n : Int} (h : ¬ f < t) : fieldB f t n = false := by unfold fieldB; simp [h]
theorem fieldB_3 {f t n : Int} (h : ¬ t ≤ n) : fieldB f t n = false := by unfold fieldB; simp [h]
theorem fieldB_ok {f t n : Int} (h : 0 ≤ f) (h2 : f < t) (h3 : t ≤ n) : fieldB f t n = true := by unfold fieldB; simp [h, h2, h3]
/-- the code of a card and a field -/
def fieldI (xs : List Int) (f t : Int) : Int := if validCardL xs then (if fieldB f t xs.length then 0 else 2) else 1
theorem field_bad {xs : List Int} (f t : Int) (h : validCardL xs = false) : fieldI xs f t = 1 := by unfold fieldI; rw [h]; rfl
theorem field_range {xs : List Int} {f t : Int} (h : validCardL xs = true) (h2 : fieldB f t xs.length = false) : fieldI xs f t = 2 := by unfold fieldI; rw [h, h2]; rfl
theorem field_ok {xs : List Int} {f t : Int} (h : validCardL xs = true) (h2 : fieldB f t xs.length = true) : fieldI xs f t = 0 := by unfold fieldI; rw [h, h2]; rfl
theorem field_zero {xs : List Int} {f t : Int} (h : fieldI xs f t = 0) : validCardL xs = true ∧ fieldB f t xs.length = true := by
  cases h1 : validCardL xs
  · rw [field_bad f t h1] at h; cases h
  · cases h2 : fieldB f t xs.length
    · rw [field_range h1 h2] at h; cases h
    · exact ⟨rfl, rfl⟩

theorem impl_isField (f t n : Int) (w : World) : Calls Tryz.prog 146 #[.agg #[.int .i64 f, .int .i64 t], .int .i64 n] w fun e w' => e = .returned (.bool (fieldB f t n)) ∧ Below w.heap.size w w' := by
  have hb1 := Lib.hid (below_alloc (w := w) (.cells #[.int .i64 f, .int .i64 t] 46))
  by_cases h1 : 0 ≤ f
  · by_cases h2 : f < t
    · by_cases h3 : t ≤ n
      · go_enter Tryz.func146, Tryz.ntmps146
        go_wp2_with fail
        go_ret
        exact ⟨ret_bool (by rw [fieldB_ok h1 h2 h3]), hb1.out⟩
      · go_enter Tryz.func146, Tryz.ntmps146
        go_wp2_with fail
        go_ret
        exact ⟨ret_bool (by rw [fieldB_3 (f := f) (t := t) (n := n) (by omega)]), hb1.out⟩
    · go_enter Tryz.func146, Tryz.ntmps146
      go_wp2_with fail
      go_ret
      exact ⟨ret_bool (by rw [fieldB_2 (f := f) (t := t) (n := n) (by omega)]), hb1.out⟩
  · go_enter Tryz.func146, Tryz.ntmps146
    go_wp2_with fail
    go_ret
    exact ⟨ret_bool (by rw [fieldB_1 (f := f) (t := t) (n := n) (by omega)]), hb1.out⟩
theorem spec_l02Field (f t n : Int) (w : World) : Calls Tryz.prog 148 #[.agg #[.int .i64 f, .int .i64 t], .int .i64 n] w fun e w' => e = .returned (.bool (fieldB f t n)) ∧ Below w.heap.size w w' := by
  have hb1 := Lib.hid (below_alloc (w := w) (.cells #[.int .i64 f, .int .i64 t] 46))
  by_cases h1 : 0 ≤ f
  · by_cases h2 : f < t
    · by_cases h3 : t ≤ n
      · go_enter Tryz.func148, Tryz.ntmps148
        go_wp2_with fail
        go_ret
        exact ⟨ret_bool (by rw [fieldB_ok h1 h2 h3]), hb1.out⟩
      · go_enter Tryz.func148, Tryz.ntmps148
        go_wp2_with fail
        go_ret
        exact ⟨ret_bool (by rw [fieldB_3 (f := f) (t := t) (n := n) (by omega)]), hb1.out⟩
    · go_enter Tryz.func148, Tryz.ntmps148
      go_wp2_with fail
      go_ret
      exact ⟨ret_bool (by rw [fieldB_2 (f := f) (t := t) (n := n) (by omega)]), hb1.out⟩
  · go_enter Tryz.func148, Tryz.ntmps148
    go_wp2_with fail
    go_ret
    exact ⟨ret_bool (by rw [fieldB_1 (f := f) (t := t) (n := n) (by omega)]), hb1.out⟩
theorem laws_toField (f t : Int) (w : World) : Calls Tryz.prog 172 #[.agg #[.int .i64 f, .int .i64 t]] w fun e w' => e = .returned (.agg #[.int .i64 f, .int .i64 t]) ∧ Below w.heap.size w w' := by
  go_enter Tryz.func172, Tryz.ntmps172
  go_wp2_with fail
  exact bodyPost_ret (v := .agg #[.int .i64 f, .int .i64 t]) (by simp [results, Tryz.results172, go_sem]) rfl ⟨rfl, below_alloc3 w _ _ _⟩
/-- the columns of a field -/
def partL (xs : List Int) (f t : Int) : List Int := (xs.drop f.toNat).take (t - f).toNat
theorem partL_length {xs : List Int} {f t : Int} (h : fieldB f t xs.length = true) : (partL xs f t).length = (t - f).toNat := by
  obtain ⟨h1, h2, h3⟩ := fieldB_yes h
  unfold partL; simp; omega
theorem ri_sub {w : World} {b o : Nat} {xs : List Int} (h : RI w (some ⟨b, o, none⟩) xs) (f m : Nat) : RI w (some ⟨b, o + f, none⟩) ((xs.drop f).take m) := by
  intro j u hj
  rw [List.map_take, List.map_drop, List.getElem?_take] at hj
  split at hj
  · rw [List.getElem?_drop] at hj
    obtain ⟨b', o', ha, hc⟩ := h _ _ hj
    simp only [Option.some.injEq, Addr.mk.injEq] at ha
    obtain ⟨rfl, rfl, _⟩ := ha
    exact ⟨b, o + f, rfl, by rw [Nat.add_assoc]; exact hc⟩
  · cases hj
set_option maxHeartbeats 400000 in
theorem spec_l02Part_at (b o : Nat) (a : Option Addr) (c : Nat) (xs : List Int) (f t : Int) (w : World) (hp : w.cell? ⟨b, o, none⟩ = some (.slice a xs.length c)) (hx : RI w a xs) (hn : xs.length ≤ maxLen) (hcap : xs.length ≤ c) (hf : fieldB f t xs.length = true) :
    Calls Tryz.prog 99 #[.pointer (some ⟨b, o, none⟩), .agg #[.int .i64 f, .int .i64 t]] w fun e w' => ∃ a' c', e = .returned (.slice a' (partL xs f t).length c') ∧ RI w' a' (partL xs f t) ∧ Below w.heap.size w w' := by
  have hm : xs.length ≤ 9223372036854775807 := by simpa [maxLen] using hn
  have hbl := World.block_lt_of_cell? _ _ hp
  have hb1 := Lib.hid (below_alloc (w := w) (.cells #[.int .i64 f, .int .i64 t] 46))
  have hp1 := keep hb1.out hp
  obtain ⟨h1, h2, h3⟩ := fieldB_yes hf
  obtain ⟨x, hx0⟩ := get_some (l := xs) (k := 0) (by omega)
  obtain ⟨b1, o1, rfl, hc1⟩ := hx.at hx0
  obtain ⟨f, rfl⟩ := Int.eq_ofNat_of_zero_le h1
  obtain ⟨t, rfl⟩ := Int.eq_ofNat_of_zero_le (show 0 ≤ t by omega)
  have h2' : f ≤ t := by omega
  have h3' : t ≤ xs.length := by omega
  have h4' : t ≤ c := by omega
  go_enter Tryz.func99, Tryz.ntmps99
  go_wp2_with fail
  go_quiet (fail)
  go_wp2_with fail
  go_ret
  have hl : (partL xs (f : Int) (t : Int)).length = t - f := by rw [partL_length hf]; omega
  exact ⟨some ⟨b1, o1 + f, Option.none⟩, c - f, by rw [hl]; rfl, ((ri_sub hx f ((t : Int) - f).toNat).kept (below_drewN hb1.out _)), below_drewN hb1.out _⟩
theorem spec_l02Part (b : Nat) (a : Option Addr) (c : Nat) (xs : List Int) (f t : Int) (w : World) (hp : w.cell? ⟨b, 0, none⟩ = some (.slice a xs.length c)) (hx : RI w a xs) (hn : xs.length ≤ maxLen) (hcap : xs.length ≤ c) (hf : fieldB f t xs.length = true) :
    Calls Tryz.prog 99 #[.pointer (some ⟨b, 0, none⟩), .agg #[.int .i64 f, .int .i64 t]] w fun e w' => ∃ a' c', e = .returned (.slice a' (partL xs f t).length c') ∧ RI w' a' (partL xs f t) ∧ Below w.heap.size w w' := spec_l02Part_at b 0 a c xs f t w hp hx hn hcap hf
/-- is the field of a card blank? -/
def blankFieldB (xs : List Int) (f t : Int) : Bool := if fieldI xs f t == 0 then !((partL xs f t).any fun m => m != 0) else false
theorem blankField_no {xs : List Int} {f t : Int} (h : (fieldI xs f t == 0) = false) : blankFieldB xs f t = false := by unfold blankFieldB; rw [h]; rfl
theorem blankField_yes {xs : List Int} {f t : Int} (h : fieldI xs f t = 0) : blankFieldB xs f t = !((partL xs f t).any fun m => m != 0) := by unfold blankFieldB; rw [h]; rfl
theorem partL_small {xs : List Int} (f t : Int) {n : Nat} (h : xs.length ≤ n) : (partL xs f t).length ≤ n := by unfold partL; simp; omega
def partOfL (xs : List Int) (f t : Int) : List Int := if fieldI xs f t == 0 then partL xs f t else []
theorem partOf_no {xs : List Int} {f t : Int} (h : (fieldI xs f t == 0) = false) : partOfL xs f t = [] := by unfold partOfL; rw [h]; rfl
theorem partOf_yes {xs : List Int} {f t : Int} (h : fieldI xs f t = 0) : partOfL xs f t = partL xs f t := by unfold partOfL; rw [h]; rfl
theorem partOfL_len (xs : List Int) (f t : Int) (h : xs.length ≤ 1048576) : (partOfL xs f t).length ≤ 1048576 := by
  unfold partOfL; split
  · exact partL_small f t h
  · simp
theorem OI.cap {lo hi e c : Nat} {w : World} {a : Option Addr} {xs : List Int} (h : OI lo hi w e a c xs) : xs.length ≤ c := by
  obtain ⟨a', c', hv, _, hc, _⟩ := own_slice h.1
  simp only [Value.slice.injEq] at hv
  omega
end Go.Proofs.YtcbjfgjlhjjpiaaGreatDoor
namespace Go.Proofs.YtcbjfgjlhjjpiaaGreatDoor
open Go.RowKit
set_option maxRecDepth 100000
set_option linter.unusedVariables false
set_option linter.unusedSimpArgs false
set_option linter.unnecessarySimpa false

set_option maxHeartbeats 400000 in
theorem laws_toItem (x : Itm) (w : World) : Calls Tryz.prog 127 #[.agg #[.string x.name, .int .i64 x.kind, .int .i64 x.fr, .int .i64 x.to]] w fun e w' => e = .returned (.agg #[.string x.name, .int .i64 x.kind, .int .i64 x.fr, .int .i64 x.to]) ∧ Below w.heap.size w w' := by
  obtain ⟨s, k, f, t⟩ := x
  have hb3 := Lib.hid (below_alloc3 w (.cells #[.string s, .int .i64 k, .int .i64 f, .int .i64 t] 153) (.cells #[.string ⟨#[]⟩, .int .i64 0, .int .i64 0, .int .i64 0] 48) (.cells #[.string s, .int .i64 k, .int .i64 0, .int .i64 0] 48))
  go_enter Tryz.func127, Tryz.ntmps127
  go_wp2_with fail
  refine (laws_toField f t _).mono ?_
  rintro e w2 ⟨rfl, hb⟩
  (have hc0 := keep (p := ⟨w.heap.size + 1, 0, none⟩) (v := .string ⟨#[]⟩) hb (by simp [go_sem, *]); have hf0 := keepf (p := ⟨w.heap.size + 1, 0, none⟩) (v := .string ⟨#[]⟩) hb (by simp [go_sem, *]) (by simp [go_sem, *]); have hl0 := World.block_lt_of_cell? _ _ hc0; have hc1 := keep (p := ⟨w.heap.size + 1, 1, none⟩) (v := .int .i64 0) hb (by simp [go_sem, *]); have hf1 := keepf (p := ⟨w.heap.size + 1, 1, none⟩) (v := .int .i64 0) hb (by simp [go_sem, *]) (by simp [go_sem, *]); have hl1 := World.block_lt_of_cell? _ _ hc1; have hc2 := keep (p := ⟨w.heap.size + 1, 2, none⟩) (v := .int .i64 0) hb (by simp [go_sem, *]); have hf2 := keepf (p := ⟨w.heap.size + 1, 2, none⟩) (v := .int .i64 0) hb (by simp [go_sem, *]) (by simp [go_sem, *]); have hl2 := World.block_lt_of_cell? _ _ hc2; have hc3 := keep (p := ⟨w.heap.size + 1, 3, none⟩) (v := .int .i64 0) hb (by simp [go_sem, *]); have hf3 := keepf (p := ⟨w.heap.size + 1, 3, none⟩) (v := .int .i64 0) hb (by simp [go_sem, *]) (by simp [go_sem, *]); have hl3 := World.block_lt_of_cell? _ _ hc3; have hc4 := keep (p := ⟨w.heap.size + 2, 0, none⟩) (v := .string s) hb (by simp [go_sem, *]); have hf4 := keepf (p := ⟨w.heap.size + 2, 0, none⟩) (v := .string s) hb (by simp [go_sem, *]) (by simp [go_sem, *]); have hl4 := World.block_lt_of_cell? _ _ hc4; have hc5 := keep (p := ⟨w.heap.size + 2, 1, none⟩) (v := .int .i64 k) hb (by simp [go_sem, *]); have hf5 := keepf (p := ⟨w.heap.size + 2, 1, none⟩) (v := .int .i64 k) hb (by simp [go_sem, *]) (by simp [go_sem, *]); have hl5 := World.block_lt_of_cell? _ _ hc5; have hc6 := keep (p := ⟨w.heap.size + 2, 2, none⟩) (v := .int .i64 0) hb (by simp [go_sem, *]); have hf6 := keepf (p := ⟨w.heap.size + 2, 2, none⟩) (v := .int .i64 0) hb (by simp [go_sem, *]) (by simp [go_sem, *]); have hl6 := World.block_lt_of_cell? _ _ hc6; have hc7 := keep (p := ⟨w.heap.size + 2, 3, none⟩) (v := .int .i64 0) hb (by simp [go_sem, *]); have hf7 := keepf (p := ⟨w.heap.size + 2, 3, none⟩) (v := .int .i64 0) hb (by simp [go_sem, *]) (by simp [go_sem, *]); have hl7 := World.block_lt_of_cell? _ _ hc7)
  have hb2 := Lib.hid (bthen hb3.out hb)
  clear hb
  go_wp2_with fail
  refine bodyPost_ret (v := .agg #[.string s, .int .i64 k, .int .i64 f, .int .i64 t]) (by simp [results, Tryz.results127, go_sem, *]) rfl ⟨rfl, ?_⟩
  repeat (refine Below.setCell ?_ (by dsimp only; omega) _)
  exact hb2.out
theorem laws_szItem (x : Itm) (left : Int) (h0 : 0 ≤ left) (h1 : left ≤ 1048576) (hn : x.name.size ≤ maxLen) (w : World) :
    Calls Tryz.prog 122 #[.agg #[.string x.name, .int .i64 x.kind, .int .i64 x.fr, .int .i64 x.to], .int .i64 left] w fun e w' => e = .returned (.int .i64 (szI left x.name.size)) ∧ Below w.heap.size w w' := by
  unfold maxLen at hn
  obtain ⟨s, k, f, t⟩ := x
  simp only at hn ⊢
  have hb1 := Lib.hid (below_alloc (w := w) (.cells #[.string s, .int .i64 k, .int .i64 f, .int .i64 t] 153))
  by_cases h : left - (s.size : Int) < 0
  · have hs := Lib.hid (show szI left s.size = -1 by unfold szI; rw [if_pos h])
    go_enter Tryz.func122, Tryz.ntmps122
    go_wp2_with fail
    go_ret
    exact ⟨ret_int (by rw [hs.out]), hb1.out⟩
  · have hs := Lib.hid (show szI left s.size = left - s.size by unfold szI; rw [if_neg h])
    go_enter Tryz.func122, Tryz.ntmps122
    go_wp2_with fail
    go_ret
    exact ⟨ret_int (by rw [hs.out]), hb1.out⟩
set_option maxHeartbeats 400000 in
theorem laws_szItemS (a : Option Addr) (c : Nat) (xs : List Itm) (left : Int) (w : World) (hx : RT w a xs) (h0 : 0 ≤ left) (h1 : left ≤ 1048576) (hn : xs.length ≤ maxLen ∧ ∀ x ∈ xs, x.name.size ≤ maxLen) :
    Calls Tryz.prog 59 #[.slice a xs.length c, .int .i64 left] w fun e w' => e = .returned (.int .i64 (szI left (itemsSz xs))) ∧ Below w.heap.size w w' := by
  obtain ⟨hn, hns⟩ := hn
  unfold maxLen at hn
  have hns' := Lib.hid hns
  clear hns
  have hd := itemsSz_len xs
  by_cases hneg : left - (xs.length : Int) < 0
  · have hs := Lib.hid (show szI left (itemsSz xs) = -1 by unfold szI; rw [if_pos (by omega)])
    clear hd
    go_enter Tryz.func59, Tryz.ntmps59
    go_wp2_with fail
    go_ret
    exact ⟨ret_int (by rw [hs.out]), Below.refl _ _⟩
  · have hde := Lib.hid (show itemsSz xs = xs.length + (xs.map fun x => x.name.size).sum from rfl)
    generalize hN : xs.length = n at *
    have hN' := Lib.hid hN
    clear hN hd
    go_enter Tryz.func59, Tryz.ntmps59
    go_wp2_with fail
    go_loopw [1, 5] (fun l i wr => ∃ k : Nat, k ≤ n ∧ i = .int .i64 k ∧ Hid ((n : Int) + namesUp xs k ≤ left) ∧ l = .int .i64 (left - n - namesUp xs k) ∧ Below w.heap.size w wr) (fun _ i _ => n - (intOf i).toNat)
    case atStart => exact ⟨0, by omega, rfl, Lib.hid (by simp [namesUp]; omega), by simp [namesUp], Below.refl _ _⟩
    case round =>
      obtain ⟨k, hk, rfl, hle, rfl, hb⟩ := hrel
      by_cases hlt : k < n
      · obtain ⟨x, hxk⟩ := get_some (l := xs) (k := k) (by rw [hN'.out]; exact hlt)
        obtain ⟨b1, o1, rfl, hc0, hc1, hc2, hc3⟩ := (hx.kept hb).at hxk
        have hxk' := Lib.hid hxk
        have hsucc := Lib.hid (namesUp_succ hxk)
        have hl0 := hle.out
        generalize hL : namesUp xs k = L at *
        have hL' := Lib.hid hL
        have hlm : x.name.size ≤ maxLen := hns'.out x (List.mem_of_getElem? hxk)
        clear hxk hL
        by_cases hsm : left - n - L - (x.name.size : Int) < 0
        · have hz : szI (left - n - L) x.name.size = -1 := by unfold szI; rw [if_pos hsm]
          have hc := (laws_szItem x (left - n - L) (by omega) (by omega) hlm wr)
          rw [hz] at hc
          have hcl := Lib.hid hc
          clear hz hc
          go_wp2_with (go_at_call 122; ((with_reducible refine hcl.out.mono ?_); rintro e w' ⟨rfl, hb'⟩))
          go_ret
          have hle2 := namesUp_le xs (k + 1)
          have h3 := hsucc.out
          have h4 := hde.out
          exact ⟨ret_int (by unfold szI; rw [if_pos (by omega)]), bthen hb hb'⟩
        · have hz : szI (left - n - L) x.name.size = left - n - L - x.name.size := by unfold szI; rw [if_neg hsm]
          have hc := (laws_szItem x (left - n - L) (by omega) (by omega) hlm wr)
          rw [hz] at hc
          have hcl := Lib.hid hc
          clear hz hc
          have hnn : 0 ≤ left - n - L - (x.name.size : Int) := by omega
          have hnn2 : left - n - L - (x.name.size : Int) ≤ 1048576 := by omega
          go_wp2_with (go_at_call 122; ((with_reducible refine hcl.out.mono ?_); rintro e w' ⟨rfl, hb'⟩))
          go_roundw
          case rel =>
            have h3 := hsucc.out
            exact ⟨k + 1, by omega, by go_num, Lib.hid (by omega), by rw [h3]; go_num, bthen hb hb'⟩
          case measure => simp [intOf]; omega
      · go_wp2_with fail
        go_ret
        have h3 := namesUp_all (xs := xs) (k := k) (by rw [hN'.out]; omega)
        have h4 := hde.out
        have h5 := hle.out
        exact ⟨ret_int (by unfold szI; rw [if_neg (by omega)]; omega), hb⟩
theorem laws_szLayout (wd : Int) (a : Option Addr) (c : Nat) (xs : List Itm) (left : Int) (w : World) (hx : RT w a xs) (h0 : 0 ≤ left) (h1 : left ≤ 1048576) (hn : xs.length ≤ maxLen ∧ ∀ x ∈ xs, x.name.size ≤ maxLen) :
    Calls Tryz.prog 7 #[.agg #[.int .i64 wd, .slice a xs.length c], .int .i64 left] w fun e w' => e = .returned (.int .i64 (szI left (itemsSz xs))) ∧ Below w.heap.size w w' := by
  have hb1 := Lib.hid (below_alloc (w := w) (.cells #[.int .i64 wd, .slice a xs.length c] 24))
  by_cases h : szI left (itemsSz xs) < 0
  · have hs := Lib.hid (szI_neg h)
    go_enter Tryz.func7, Tryz.ntmps7
    go_wp2_with (go_at_call 59; ((with_reducible refine (laws_szItemS _ _ _ _ _ (hx.kept hb1.out) h0 h1 hn).mono ?_); rintro e w' ⟨rfl, hb⟩))
    go_ret
    exact ⟨ret_int (by rw [hs.out]), bthen hb1.out hb⟩
  · go_enter Tryz.func7, Tryz.ntmps7
    go_wp2_with (go_at_call 59; ((with_reducible refine (laws_szItemS _ _ _ _ _ (hx.kept hb1.out) h0 h1 hn).mono ?_); rintro e w' ⟨rfl, hb⟩))
    go_ret
    exact ⟨rfl, bthen hb1.out hb⟩
theorem laws_szLayout_over (wd : Int) (a : Option Addr) (c : Nat) (x : List Itm) (left : Int) (w : World) (hx : RT w a x) (h0 : 0 ≤ left) (h1 : left ≤ 1048576) (hn : x.length ≤ maxLen ∧ ∀ y ∈ x, y.name.size ≤ maxLen) (h : left < (itemsSz x : Int)) :
    Calls Tryz.prog 7 #[.agg #[.int .i64 wd, .slice a x.length c], .int .i64 left] w fun e w' => e = .returned (.int .i64 (-1)) ∧ Below w.heap.size w w' :=
  (laws_szLayout wd a c x left w hx h0 h1 hn).mono fun e w' h' => ⟨by rw [h'.1]; unfold szI; rw [if_pos (by omega)], h'.2⟩
theorem laws_szLayout_ok (wd : Int) (a : Option Addr) (c : Nat) (x : List Itm) (left : Int) (w : World) (hx : RT w a x) (h0 : 0 ≤ left) (h1 : left ≤ 1048576) (hn : x.length ≤ maxLen ∧ ∀ y ∈ x, y.name.size ≤ maxLen) (h : (itemsSz x : Int) ≤ left) :
    Calls Tryz.prog 7 #[.agg #[.int .i64 wd, .slice a x.length c], .int .i64 left] w fun e w' => e = .returned (.int .i64 (left - (itemsSz x : Int))) ∧ Below w.heap.size w w' :=
  (laws_szLayout wd a c x left w hx h0 h1 hn).mono fun e w' h' => ⟨by rw [h'.1]; unfold szI; rw [if_neg (by omega)], h'.2⟩
theorem laws_eqField_same (f t : Int) (w : World) : Calls Tryz.prog 178 #[.agg #[.int .i64 f, .int .i64 t], .agg #[.int .i64 f, .int .i64 t]] w fun e w' => e = .returned (.bool true) ∧ Below w.heap.size w w' := by
  have hb2 := Lib.hid (below_alloc2 w (.cells #[.int .i64 f, .int .i64 t] 46) (.cells #[.int .i64 f, .int .i64 t] 46))
  go_enter Tryz.func178, Tryz.ntmps178
  go_wp2_with fail
  go_ret
  exact ⟨rfl, hb2.out⟩
theorem laws_eqItem_same (x : Itm) (w : World) : Calls Tryz.prog 141 #[.agg #[.string x.name, .int .i64 x.kind, .int .i64 x.fr, .int .i64 x.to], .agg #[.string x.name, .int .i64 x.kind, .int .i64 x.fr, .int .i64 x.to]] w fun e w' => e = .returned (.bool true) ∧ Below w.heap.size w w' := by
  obtain ⟨s, k, f, t⟩ := x
  have hb2 := Lib.hid (below_alloc2 w (.cells #[.string s, .int .i64 k, .int .i64 f, .int .i64 t] 48) (.cells #[.string s, .int .i64 k, .int .i64 f, .int .i64 t] 48))
  go_enter Tryz.func141, Tryz.ntmps141
  go_wp2_with (go_at_call 178; ((with_reducible refine (laws_eqField_same _ _ _).mono ?_); rintro e w' ⟨rfl, hb⟩))
  go_ret
  exact ⟨rfl, bthen hb2.out hb⟩
theorem Tryz.info_item : (Tryz.prog.info? 48).map (fun i => (i.zero, i.size, i.bytes)) = some (some (.agg #[.string ⟨#[]⟩, .int .i64 0, .int .i64 0, .int .i64 0]), 4, 40) := by kernel_rfl
set_option maxHeartbeats 1000000 in
theorem laws_toItemS (a : Option Addr) (c : Nat) (xs : List Itm) (w : World) (hx : RT w a xs) (hn : itemsSz xs ≤ 1048576) :
    Calls Tryz.prog 66 #[.slice a xs.length c] w fun e w' => ∃ a' c', e = .returned (.slice a' xs.length c') ∧ w'.ownsRow w.heap.size 48 4 (.slice a' xs.length c') xs.length (itemsV xs) ∧ Below w.heap.size w w' := by
  obtain ⟨i0, hi, hz0, hz1, hz2⟩ := info_parts Tryz.info_item
  have hdl := itemsSz_len xs
  generalize hN : xs.length = n at *
  have hN' := Lib.hid hN
  clear hN
  have hm := Lib.hid (show n ≤ maxLen by simp [maxLen]; omega)
  go_enter Tryz.func66, Tryz.ntmps66
  go_wp2_with (at_make; refine wpList_make_full _ rfl _ _ 33 rfl w.heap.size 48 i0 (.agg #[.string ⟨#[]⟩, .int .i64 0, .int .i64 0, .int .i64 0]) 4 Tryz.underlying33 hi hz0 hz1 _ _ _ _ n rfl rfl rfl rfl (by rw [hz2]; omega) hm.out (by exact Nat.le_refl _) ?_; intro w1 hown hgrow)
  obtain ⟨M, hM, hown0⟩ : ∃ M : List Value, M.length = n * 4 ∧ w1.ownsRow w.heap.size 48 4 (.slice (some ⟨w.heap.size, 0, none⟩) n n) n (itemsV (xs.take 0) ++ M.drop 0) := ⟨_, hown.1, by simpa [itemsV] using hown⟩
  have hb0 : Below w.heap.size w w1 := (Below.refl _ _).grown hgrow (Nat.le_refl _) (by simp)
  have hM' := Lib.hid hM
  clear hown hgrow hM
  go_loopw [4] (fun i wr => ∃ k : Nat, k ≤ n ∧ i = .int .i64 k ∧ wr.ownsRow w.heap.size 48 4 (.slice (some ⟨w.heap.size, 0, none⟩) n n) n (itemsV (xs.take k) ++ M.drop (k * 4)) ∧ Below w.heap.size w wr) (fun i _ => n - (intOf i).toNat)
  case atStart => exact ⟨0, by omega, rfl, hown0, hb0⟩
  case round =>
    obtain ⟨k, hk, rfl, hown, hb⟩ := hrel
    by_cases hlt : k < n
    · obtain ⟨x, hxk⟩ := get_some (l := xs) (k := k) (by rw [hN'.out]; exact hlt)
      obtain ⟨b1, o1, rfl, hc0, hc1, hc2, hc3⟩ := (hx.kept hb).at hxk
      have hxk' := Lib.hid hxk
      have hP : (itemsV (xs.take k)).length = k * 4 := by rw [itemsV_length, List.length_take, hN'.out, Nat.min_eq_left (by omega)]
      have hs4 := Lib.hid (fun (p q r s : Value) => set4 (M := M) (a := p) (b := q) (c := r) (d := s) hP (by rw [hM'.out]; omega))
      have hxs := Lib.hid (show xs.take (k + 1) = xs.take k ++ [x] by rw [List.take_add_one, hxk]; rfl)
      obtain ⟨v0, hv0⟩ := cell4 (M := M) (j := 0) hP (by omega) (by rw [hM'.out]; omega)
      obtain ⟨v1, hv1⟩ := cell4 (M := M) (j := 1) hP (by omega) (by rw [hM'.out]; omega)
      obtain ⟨v2, hv2⟩ := cell4 (M := M) (j := 2) hP (by omega) (by rw [hM'.out]; omega)
      obtain ⟨v3, hv3⟩ := cell4 (M := M) (j := 3) hP (by omega) (by rw [hM'.out]; omega)
      clear hxk hP
      go_wp2_with fail
      refine (laws_toItem x _).mono ?_
      rintro e w2 ⟨rfl, hb2⟩
      have hown2 := (OV.of hown).kept hb2
      have hd0 := (hown2.1.cellAt (k * 4 + 0) (by omega)).trans hv0
      have hd1 := (hown2.1.cellAt (k * 4 + 1) (by omega)).trans hv1
      have hd2 := (hown2.1.cellAt (k * 4 + 2) (by omega)).trans hv2
      have hd3 := (hown2.1.cellAt (k * 4 + 3) (by omega)).trans hv3
      rw [Nat.add_zero] at hd0
      have he0 := hown2.1.frozenAt (k * 4)
      have he1 := hown2.1.frozenAt (k * 4 + 1)
      have he2 := hown2.1.frozenAt (k * 4 + 2)
      have he3 := hown2.1.frozenAt (k * 4 + 3)
      have hB := Lib.hid (bthen hb hb2)
      have hown3 := Lib.hid hown2.1
      clear hv0 hv1 hv2 hv3 hb2 hown2 hown
      go_wp2_with fail
      go_roundw
      case rel =>
        refine ⟨k + 1, by omega, by go_num, ?_, (((hB.out.setCell (Nat.le_refl _) _).setCell (Nat.le_refl _) _).setCell (Nat.le_refl _) _).setCell (Nat.le_refl _) _⟩
        have h9 := ((((hown3.out.stored (k * 4) (.string x.name)).1.stored (k * 4 + 1) (.int .i64 x.kind)).1.stored (k * 4 + 2) (.int .i64 x.fr)).1.stored (k * 4 + 3) (.int .i64 x.to)).1
        rw [hs4.out] at h9
        rw [hxs.out, itemsV_append, itemsV_one, show (k + 1) * 4 = k * 4 + 4 by omega]
        exact h9
      case measure => simp [intOf]; omega
    · go_wp2_with fail
      go_ret
      have e : k = n := by omega
      subst e
      rw [List.take_of_length_le (by rw [hN'.out]; exact Nat.le_refl _), List.drop_of_length_le (by rw [hM'.out]; exact Nat.le_refl _), List.append_nil] at hown
      exact ⟨_, _, rfl, hown, hb⟩
set_option maxHeartbeats 400000 in
theorem laws_toLayout (wd : Int) (a : Option Addr) (c : Nat) (xs : List Itm) (w : World) (hx : RT w a xs) (hn : itemsSz xs ≤ 1048576) :
    Calls Tryz.prog 10 #[.agg #[.int .i64 wd, .slice a xs.length c]] w fun e w' => ∃ a' c', e = .returned (.agg #[.int .i64 wd, .slice a' xs.length c']) ∧ w'.ownsRow w.heap.size 48 4 (.slice a' xs.length c') xs.length (itemsV xs) ∧ Below w.heap.size w w' := by
  have hb3 := Lib.hid (below_alloc3 w (.cells #[.int .i64 wd, .slice a xs.length c] 24) (.cells #[.int .i64 0, .slice none 0 0] 35) (.cells #[.int .i64 wd, .slice none 0 0] 35))
  go_enter Tryz.func10, Tryz.ntmps10
  go_wp2_with fail
  refine (laws_toItemS a c xs _ (hx.kept hb3.out) hn).mono ?_
  rintro e w4 ⟨a4, c4, rfl, hown, hb4⟩
  (have hc0 := keep (p := ⟨w.heap.size + 1, 0, none⟩) (v := .int .i64 0) hb4 (by simp [go_sem, *]); have hf0 := keepf (p := ⟨w.heap.size + 1, 0, none⟩) (v := .int .i64 0) hb4 (by simp [go_sem, *]) (by simp [go_sem, *]); have hl0 := World.block_lt_of_cell? _ _ hc0; have hc1 := keep (p := ⟨w.heap.size + 1, 1, none⟩) (v := .slice none 0 0) hb4 (by simp [go_sem, *]); have hf1 := keepf (p := ⟨w.heap.size + 1, 1, none⟩) (v := .slice none 0 0) hb4 (by simp [go_sem, *]) (by simp [go_sem, *]); have hl1 := World.block_lt_of_cell? _ _ hc1; have hc2 := keep (p := ⟨w.heap.size + 2, 0, none⟩) (v := .int .i64 wd) hb4 (by simp [go_sem, *]); have hf2 := keepf (p := ⟨w.heap.size + 2, 0, none⟩) (v := .int .i64 wd) hb4 (by simp [go_sem, *]) (by simp [go_sem, *]); have hl2 := World.block_lt_of_cell? _ _ hc2; have hc3 := keep (p := ⟨w.heap.size + 2, 1, none⟩) (v := .slice none 0 0) hb4 (by simp [go_sem, *]); have hf3 := keepf (p := ⟨w.heap.size + 2, 1, none⟩) (v := .slice none 0 0) hb4 (by simp [go_sem, *]) (by simp [go_sem, *]); have hl3 := World.block_lt_of_cell? _ _ hc3)
  have hown' := Lib.hid hown
  have hb4' := Lib.hid (bthen hb3.out hb4)
  clear hown hb4
  go_wp2_with fail
  refine bodyPost_ret (v := .agg #[.int .i64 wd, .slice a4 xs.length c4]) (by simp [results, Tryz.results10, go_sem, *]) rfl ⟨_, _, rfl, ?_, ?_⟩
  · refine own_mono (B' := w.heap.size + 3) ?_ (by omega)
    have h9 : w4.ownsRow (w.heap.size + 3) 48 4 (.slice a4 xs.length c4) xs.length (itemsV xs) := by simpa using hown'.out
    repeat (refine ownsRow_setCell_below ?_ (by dsimp only; omega) _)
    exact h9
  · repeat (refine Below.setCell ?_ (by dsimp only; omega) _)
    exact hb4'.out
set_option maxHeartbeats 1000000 in
theorem laws_eqItemS_same (a b : Option Addr) (ca cb : Nat) (xs : List Itm) (w : World) (hx : RT w a xs) (hy : RT w b xs) (h1 : itemsSz xs ≤ 1048576) :
    Calls Tryz.prog 73 #[.slice a xs.length ca, .slice b xs.length cb] w fun e w' => e = .returned (.bool true) ∧ Below w.heap.size w w' := by
  have hdl := itemsSz_len xs
  generalize hN : xs.length = n at *
  have hN' := Lib.hid hN
  clear hN
  go_enter Tryz.func73, Tryz.ntmps73
  go_wp2_with fail
  go_loopw [5] (fun i wr => ∃ k : Nat, k ≤ n ∧ i = .int .i64 k ∧ Below w.heap.size w wr) (fun i _ => n - (intOf i).toNat)
  case atStart => exact ⟨0, by omega, rfl, Below.refl _ _⟩
  case round =>
    obtain ⟨k, hk, rfl, hb⟩ := hrel
    by_cases hlt : k < n
    · obtain ⟨x, hxk⟩ := get_some (l := xs) (k := k) (by rw [hN'.out]; exact hlt)
      obtain ⟨b1, o1, rfl, hc0, hc1, hc2, hc3⟩ := (hx.kept hb).at hxk
      obtain ⟨b2, o2, rfl, hd0, hd1, hd2, hd3⟩ := (hy.kept hb).at hxk
      clear hxk
      go_wp2_with fail
      go_region_with (go_at_call 141; ((with_reducible refine (laws_eqItem_same x _).mono ?_); rintro e wq ⟨rfl, hbq⟩))
      all_goals
        go_wp2_with fail
        go_roundw
        case rel => exact ⟨k + 1, by omega, by go_num, bthen (bthen hb (Below.refl _ _).drew) hbq⟩
        case measure => simp [intOf]; omega
    · go_wp2_with fail
      go_ret
      exact ⟨rfl, hb⟩
theorem laws_eqLayout_same (wd : Int) (a b : Option Addr) (ca cb : Nat) (xs : List Itm) (w : World) (hx : RT w a xs) (hy : RT w b xs) (h1 : itemsSz xs ≤ 1048576) :
    Calls Tryz.prog 14 #[.agg #[.int .i64 wd, .slice a xs.length ca], .agg #[.int .i64 wd, .slice b xs.length cb]] w fun e w' => e = .returned (.bool true) ∧ Below w.heap.size w w' := by
  have hb2 := Lib.hid (below_alloc2 w (.cells #[.int .i64 wd, .slice a xs.length ca] 35) (.cells #[.int .i64 wd, .slice b xs.length cb] 35))
  go_enter Tryz.func14, Tryz.ntmps14
  go_wp2_with (go_at_call 73; ((with_reducible refine (laws_eqItemS_same _ _ _ _ _ _ (hx.kept hb2.out) (hy.kept hb2.out) h1).mono ?_); rintro e w' ⟨rfl, hb⟩))
  go_ret
  exact ⟨rfl, bthen hb2.out hb⟩
def sameLayB (u v : Int) (xs ys : List Itm) : Bool := (u == v) && eqB xs ys
theorem sameLay_1 {u v : Int} (xs ys : List Itm) (h : (u == v) = false) : sameLayB u v xs ys = false := by unfold sameLayB; rw [h]; rfl
theorem sameLay_2 {u v : Int} (xs ys : List Itm) (h : (u == v) = true) : sameLayB u v xs ys = eqB xs ys := by unfold sameLayB; rw [h]; rfl
theorem item_neq (x y : Itm) (w : World) : (binOp .neq 48 (.agg #[.string x.name, .int .i64 x.kind, .int .i64 x.fr, .int .i64 x.to]) (.agg #[.string y.name, .int .i64 y.kind, .int .i64 y.fr, .int .i64 y.to])).run Tryz.prog w = .ok (.bool (itNe x y)) w := by
  obtain ⟨s, k, f, t⟩ := x
  obtain ⟨s', k', f', t'⟩ := y
  go_simp
  have hs : s.toList = s'.toList ↔ s = s' := ⟨fun h => ByteArray.ext (Array.toList_inj.1 (by rwa [toList_eq, toList_eq] at h)), fun h => by rw [h]⟩
  unfold itNe
  by_cases h1 : s = s'
  · by_cases h2 : k = k'
    · by_cases h3 : f = f'
      · by_cases h4 : t = t'
        · simp [h1, h2, h3, h4]
        · simp [h1, h2, h3, h4]
      · simp [h1, h2, h3]
    · simp [h1, h2]
  · simp [hs, h1]
set_option maxHeartbeats 1000000 in
theorem slices_Equal_items (a b : Option Addr) (ca cb : Nat) (xs ys : List Itm) (w : World) (hx : RT w a xs) (hy : RT w b ys) (h1 : itemsSz xs ≤ 1048576) (h2 : itemsSz ys ≤ 1048576) :
    Calls Tryz.prog 120 #[.slice a xs.length ca, .slice b ys.length cb] w fun e w' => e = .returned (.bool (eqB xs ys)) ∧ Below w.heap.size w w' := by
  have hd1 := itemsSz_len xs
  have hd2 := itemsSz_len ys
  by_cases hl : xs.length = ys.length
  · generalize hn : xs.length = n at *
    have hl' := Lib.hid hl
    have hn' := Lib.hid hn
    clear hl hn
    rw [← hl'.out] at hd2 ⊢
    go_enter Tryz.func120, Tryz.ntmps120
    go_wp2_with fail
    go_loopw [13] (fun i wr => ∃ k : Nat, k ≤ n ∧ i = .int .i64 k ∧ Hid (xs.take k = ys.take k) ∧ Below w.heap.size w wr) (fun i _ => n - (intOf i).toNat)
    case atStart => exact ⟨0, by omega, rfl, Lib.hid rfl, Below.refl _ _⟩
    case round =>
      obtain ⟨k, hk, rfl, hall, hb⟩ := hrel
      by_cases hlt : k < n
      · obtain ⟨x, hxk⟩ := get_some (l := xs) (k := k) (by rw [hn'.out]; exact hlt)
        obtain ⟨y, hyk⟩ := get_some (l := ys) (k := k) (by rw [← hl'.out]; exact hlt)
        obtain ⟨b1, o1, rfl, hc0, hc1, hc2, hc3⟩ := (hx.kept hb).at hxk
        obtain ⟨b2, o2, rfl, hd0, hd1, hd2, hd3⟩ := (hy.kept hb).at hyk
        have hxk' := Lib.hid hxk
        have hyk' := Lib.hid hyk
        have hneq := fun w => item_neq x y w
        clear hxk hyk
        cases hxy : itNe x y
        · rw [hxy] at hneq
          go_wp2_with fail
          first | go_quiet (fail) | fail
          go_wp2_with fail
          go_roundw
          case rel => exact ⟨k + 1, by omega, by go_num, Lib.hid (take_eq_succ hxk'.out hyk'.out hall.out (itNe_no hxy)), below_drewN hb _⟩
          case measure => simp [intOf]; omega
        · rw [hxy] at hneq
          go_wp2_with fail
          first | go_quiet (fail) | fail
          go_wp2_with fail
          go_ret
          exact ⟨ret_bool (eqB_no (ne_of_at hxk'.out hyk'.out (itNe_yes hxy))).symm, below_drewN hb _⟩
      · go_wp2_with fail
        go_ret
        exact ⟨ret_bool (eqB_yes (xs := xs) (ys := ys) (eq_of_take (by rw [hn'.out]; omega) (by rw [← hl'.out]; omega) hall.out)).symm, hb⟩
  · have hne := Lib.hid (eqB_no (xs := xs) (ys := ys) (fun e => hl (by rw [e])))
    have hd : ((xs.length : Int) != (ys.length : Int)) = true := by simp; omega
    go_enter Tryz.func120, Tryz.ntmps120
    go_wp2_with fail
    go_ret
    exact ⟨ret_bool (by rw [hne.out]), Below.refl _ _⟩
set_option maxHeartbeats 400000 in
theorem impl_SameLayout (u : Int) (a : Option Addr) (c : Nat) (x : List Itm) (v : Int) (b : Option Addr) (d : Nat) (y : List Itm) (w : World) (hx : RT w a x) (hy : RT w b y) (h1 : itemsSz x ≤ 1048576) (h2 : itemsSz y ≤ 1048576) :
    Calls Tryz.prog 53 #[.agg #[.int .i64 u, .slice a x.length c], .agg #[.int .i64 v, .slice b y.length d]] w fun e w' => e = .returned (.bool (sameLayB u v x y)) ∧ Below w.heap.size w w' := by
  have hb2 := Lib.hid (below_alloc2 w (.cells #[.int .i64 u, .slice a x.length c] 35) (.cells #[.int .i64 v, .slice b y.length d] 35))
  cases h : (u == v)
  · have hf := Lib.hid (sameLay_1 x y h)
    go_enter Tryz.func53, Tryz.ntmps53
    go_wp2_with fail
    go_ret
    exact ⟨ret_bool (by rw [hf.out]), hb2.out⟩
  · have hf := Lib.hid (sameLay_2 x y h)
    go_enter Tryz.func53, Tryz.ntmps53
    go_wp2_with (go_at_call 120; ((with_reducible refine (slices_Equal_items _ _ _ _ _ _ _ (hx.kept hb2.out) (hy.kept hb2.out) h1 h2).mono ?_); rintro e w' ⟨rfl, hb⟩))
    go_ret
    exact ⟨ret_bool (by rw [hf.out]), bthen hb2.out hb⟩
set_option maxHeartbeats 1000000 in
theorem spec_SameLayout (u : Int) (a : Option Addr) (c : Nat) (x : List Itm) (v : Int) (b : Option Addr) (d : Nat) (y : List Itm) (w : World) (hx : RT w a x) (hy : RT w b y) (h1 : itemsSz x ≤ 1048576) (h2 : itemsSz y ≤ 1048576) :
    Calls Tryz.prog 34 #[.agg #[.int .i64 u, .slice a x.length c], .agg #[.int .i64 v, .slice b y.length d]] w fun e w' => e = .returned (.bool (sameLayB u v x y)) ∧ Below w.heap.size w w' := by
  have hb2 := Lib.hid (below_alloc2 w (.cells #[.int .i64 u, .slice a x.length c] 35) (.cells #[.int .i64 v, .slice b y.length d] 35))
  cases h : (u == v)
  · have hf := Lib.hid (sameLay_1 x y h)
    have h' : (u != v) = true := by rw [bne, h]; rfl
    go_enter Tryz.func34, Tryz.ntmps34
    go_wp2_with fail
    go_ret
    exact ⟨ret_bool (by rw [hf.out]), hb2.out⟩
  · have hf := Lib.hid (sameLay_2 x y h)
    have h' : (u != v) = false := by rw [bne, h]; rfl
    have hd1 := itemsSz_len x
    have hd2 := itemsSz_len y
    by_cases hl : x.length = y.length
    · have hca : ((w.alloc (.cells #[.int .i64 u, .slice a x.length c] 35)).alloc (.cells #[.int .i64 v, .slice b y.length d] 35)).cell? ⟨w.heap.size, 1, none⟩ = some (.slice a x.length c) := by simp [go_sem]
      have hcb : ((w.alloc (.cells #[.int .i64 u, .slice a x.length c] 35)).alloc (.cells #[.int .i64 v, .slice b y.length d] 35)).cell? ⟨w.heap.size + 1, 1, none⟩ = some (.slice b y.length d) := by simp [go_sem]
      have hx2 := hx.kept hb2.out
      have hy2 := hy.kept hb2.out
      generalize hn : x.length = n at *
      have hl' := Lib.hid hl
      have hn' := Lib.hid hn
      clear hl hn
      rw [← hl'.out] at hd2 hca hcb hb2 hx2 hy2 ⊢
      go_enter Tryz.func34, Tryz.ntmps34
      go_wp2_with fail
      generalize hW : ((w.alloc (.cells #[.int .i64 u, .slice a n c] 35)).alloc (.cells #[.int .i64 v, .slice b n d] 35)) = W0 at *
      clear hW
      go_loopw [5] (fun i wr => ∃ k : Nat, k ≤ n ∧ i = .int .i64 k ∧ Hid (x.take k = y.take k) ∧ Below W0.heap.size W0 wr) (fun i _ => n - (intOf i).toNat)
      case atStart => exact ⟨0, by omega, rfl, Lib.hid rfl, Below.refl _ _⟩
      case round =>
        obtain ⟨k, hk, rfl, hall, hb⟩ := hrel
        have hcar := keep hb hca
        have hcbr := keep hb hcb
        by_cases hlt : k < n
        · obtain ⟨p, hxk⟩ := get_some (l := x) (k := k) (by rw [hn'.out]; exact hlt)
          obtain ⟨q, hyk⟩ := get_some (l := y) (k := k) (by rw [← hl'.out]; exact hlt)
          obtain ⟨b1, o1, rfl, hc0, hc1, hc2, hc3⟩ := (hx2.kept hb).at hxk
          obtain ⟨b2, o2, rfl, hd0, hd1, hd2, hd3⟩ := (hy2.kept hb).at hyk
          have hxk' := Lib.hid hxk
          have hyk' := Lib.hid hyk
          have hneq := fun w => item_neq p q w
          clear hxk hyk
          cases hxy : itNe p q
          · rw [hxy] at hneq
            go_wp2_with fail
            first | go_quiet (fail) | fail
            go_wp2_with fail
            go_roundw
            case rel => exact ⟨k + 1, by omega, by go_num, Lib.hid (take_eq_succ hxk'.out hyk'.out hall.out (itNe_no hxy)), below_drewN hb _⟩
            case measure => simp [intOf]; omega
          · rw [hxy] at hneq
            go_wp2_with fail
            first | go_quiet (fail) | fail
            go_wp2_with fail
            go_ret
            exact ⟨ret_bool (by rw [hf.out]; exact (eqB_no (ne_of_at hxk'.out hyk'.out (itNe_yes hxy))).symm), below_drewN (bthen hb2.out hb) _⟩
        · go_wp2_with fail
          go_ret
          exact ⟨ret_bool (by rw [hf.out]; exact (eqB_yes (xs := x) (ys := y) (eq_of_take (by rw [hn'.out]; omega) (by rw [← hl'.out]; omega) hall.out)).symm), bthen hb2.out hb⟩
    · have hne := Lib.hid (eqB_no (xs := x) (ys := y) (fun e => hl (by rw [e])))
      have hd : ((x.length : Int) != (y.length : Int)) = true := by simp; omega
      go_enter Tryz.func34, Tryz.ntmps34
      go_wp2_with fail
      go_ret
      exact ⟨ret_bool (by rw [hf.out, hne.out]), hb2.out⟩
end Go.Proofs.YtcbjfgjlhjjpiaaGreatDoor
