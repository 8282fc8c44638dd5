/- The walks of the functions that verify cards: what each returns, and that memory has at most new blocks. -/
import Derived.Test.YtoeohebobmkobaaKeyed
import Derived.Test.YtoeohebobmkobaaKeyedS
import Derived.Deep.QuietTactic
import Derived.BigQuiet
namespace Go.Proofs.Ytoeohebobmkobaa
open Go.RowKit
set_option maxRecDepth 100000
set_option linter.unusedVariables false
set_option linter.unusedSimpArgs false
set_option linter.unnecessarySimpa false

theorem zip_get {α β : Type} {xs : List α} {ys : List β} {k : Nat} {x : α} {y : β} (hx : xs[k]? = some x) (hy : ys[k]? = some y) : (xs.zip ys)[k]? = some (x, y) := by
  rw [List.getElem?_zip_eq_some]; exact ⟨hx, hy⟩
def neP (p : Int × Int) : Bool := !(p.1 == p.2)
theorem wrong_hit {xs ys : List Int} {k : Nat} {x y : Int} (hx : xs[k]? = some x) (hy : ys[k]? = some y) (h : ((xs.zip ys).take k).all (fun p => !neP p) = true) (hne : ¬ x = y) : wrongI xs ys = k :=
  firstB_hit (p := neP) (zip_get hx hy) h (by simpa [neP] using hne)
theorem wrong_none {xs ys : List Int} {k : Nat} (hk : xs.length ≤ k) (h : ((xs.zip ys).take k).all (fun p => !neP p) = true) : wrongI xs ys = -1 :=
  firstB_none (p := neP) (by rw [List.length_zip]; omega) h
theorem wrong_next {xs ys : List Int} {k : Nat} {x y : Int} (hx : xs[k]? = some x) (hy : ys[k]? = some y) (h : Hid (((xs.zip ys).take k).all (fun p => !neP p) = true)) (he : x = y) : Hid (((xs.zip ys).take (k + 1)).all (fun p => !neP p) = true) :=
  all_succ (zip_get hx hy) h.out (by simp [neP, he])
theorem punchedL_size {s u : ByteArray} {xs : List Int} (h : punchedC s u = 0) : (punchedL s u xs).length = s.size := by rw [punched_ok xs h, progUp_length _ _ _ (Nat.le_refl _)]
theorem impl_verified_bad (s : ByteArray) (a : Option Addr) (c : Nat) (xs : List Int) (b : Option Addr) (d : Nat) (ys : List Int) (u : ByteArray) (w : World) (hx : RI w a xs) (hs : s.size ≤ 1048576) (hu : u.size ≤ 1048576) (hl : xs.length = s.size) (h0 : ¬ punchedC s u = 0) :
    Calls Try.prog 48 #[.string s, .agg #[.slice a xs.length c], .agg #[.slice b ys.length d], .string u] w fun e w' => e = .returned (.tuple #[.int .i64 0, .int .i64 (punchedC s u)]) ∧ Below w.heap.size w w' := by
  have hb1 := Lib.hid (below_alloc2 w (.cells #[.slice a xs.length c] 28) (.cells #[.slice b ys.length d] 28))
  have hpq := Lib.hid (impl_punched s a c xs u _ (hx.kept hb1.out) hs hu hl)
  have hne : (punchedC s u != 0) = true := by simpa using h0
  clear hl h0
  go_enter Try.func48, Try.ntmps48
  go_wp2_with fail
  refine hpq.out.mono ?_
  rintro e w2 ⟨a2, c2, rfl, hown, hb⟩
  have hB := Lib.hid (bthen hb1.out hb)
  clear hown hb hpq
  go_wp2_with fail
  go_ret2
  exact ⟨rfl, bthen hB.out (below_alloc _)⟩
set_option maxHeartbeats 1000000 in
theorem impl_verified (s : ByteArray) (a : Option Addr) (c : Nat) (xs : List Int) (b : Option Addr) (d : Nat) (ys : List Int) (u : ByteArray) (w : World) (hx : RI w a xs) (hy : RI w b ys) (hs : s.size ≤ 1048576) (hu : u.size ≤ 1048576) (hl : xs.length = s.size) (hl2 : ys.length = s.size) (h0 : punchedC s u = 0) :
    Calls Try.prog 48 #[.string s, .agg #[.slice a xs.length c], .agg #[.slice b ys.length d], .string u] w fun e w' => e = .returned (.tuple #[.int .i64 (wrongI (punchedL s u xs) ys), .int .i64 0]) ∧ Below w.heap.size w w' := by
  have hb1 := Lib.hid (below_alloc2 w (.cells #[.slice a xs.length c] 28) (.cells #[.slice b ys.length d] 28))
  have hpq := impl_punched s a c xs u _ (hx.kept hb1.out) hs hu hl
  have hzl := Lib.hid (punchedL_size (xs := xs) h0)
  rw [h0] at hpq
  have hpq' := Lib.hid hpq
  have hl2' := Lib.hid hl2
  clear hl h0 hpq hl2
  generalize punchedL s u xs = zs at *
  have hzn : zs.length ≤ 1048576 := by rw [hzl.out]; exact hs
  go_enter Try.func48, Try.ntmps48
  go_wp2_with fail
  refine hpq'.out.mono ?_
  rintro e w2 ⟨a2, c2, rfl, hown, hb⟩
  (have hc0 := keep (p := ⟨w.heap.size, 0, none⟩) (v := .slice a xs.length c) hb (by simp [go_sem, *]); have hf0 := keepf (p := ⟨w.heap.size, 0, none⟩) (v := .slice a xs.length c) hb (by simp [go_sem, *]) (by simp [go_sem, *]); have hl0 := World.block_lt_of_cell? _ _ hc0; have hc1 := keep (p := ⟨w.heap.size + 1, 0, none⟩) (v := .slice b ys.length d) hb (by simp [go_sem, *]); have hf1 := keepf (p := ⟨w.heap.size + 1, 0, none⟩) (v := .slice b ys.length d) hb (by simp [go_sem, *]) (by simp [go_sem, *]); have hl1 := World.block_lt_of_cell? _ _ hc1)
  have hB := Lib.hid (bthen hb1.out hb)
  have hz := Lib.hid (own_RI hown)
  clear hown hb hpq'
  have ha := below_alloc (w := w2) (.cells #[.slice a2 zs.length c2] 28)
  have hcb := keep ha hc1
  have hcd : (w2.alloc (.cells #[.slice a2 zs.length c2] 28)).cell? ⟨w2.heap.size, 0, none⟩ = some (.slice a2 zs.length c2) := by simp [go_sem]
  replace hB := Lib.hid (bthen hB.out ha)
  replace hz := Lib.hid (hz.out.kept ha)
  clear ha
  generalize hN : zs.length = n at *
  have hN' := Lib.hid hN
  clear hN
  go_wp2_with fail
  generalize hW : (w2.alloc (.cells #[.slice a2 n c2] 28)) = W at *
  clear hW
  go_loopw [27] (fun i wr => ∃ k : Nat, k ≤ n ∧ i = .int .i64 k ∧ Hid (((zs.zip ys).take k).all (fun p => !neP p) = true) ∧ Below W.heap.size W wr) (fun i _ => n - (intOf i).toNat)
  case atStart => exact ⟨0, by omega, rfl, Lib.hid rfl, Below.refl _ _⟩
  case round =>
    obtain ⟨k, hk, rfl, hall, hbr⟩ := hrel
    have rcb := keep hbr hcb
    by_cases hlt : k < n
    · obtain ⟨x, hxk⟩ := get_some (l := zs) (k := k) (by rw [hN'.out]; exact hlt)
      obtain ⟨y, hyk⟩ := get_some (l := ys) (k := k) (by rw [hl2'.out, ← hzl.out]; exact hlt)
      obtain ⟨b1, o1, rfl, hcx⟩ := (hz.out.kept hbr).at hxk
      obtain ⟨b2, o2, rfl, hcy⟩ := (hy.kept (bthen hB.out hbr)).at hyk
      have hky : k < ys.length := by rw [hl2'.out, ← hzl.out]; exact hlt
      have hky' : (k : Int) < (ys.length : Int) := by omega
      by_cases he : x = y
      · have hn := wrong_next hxk hyk hall he
        subst he
        clear hxk hyk
        go_wp2_with fail
        go_roundw
        case rel => exact ⟨k + 1, by omega, by go_num, hn, hbr⟩
        case measure => simp [intOf]; omega
      · have hf := Lib.hid (wrong_hit hxk hyk hall.out he)
        have hne : (y != x) = true := by simp; exact fun h => he h.symm
        clear hxk hyk he
        go_wp2_with fail
        go_ret2
        exact ⟨by rw [hf.out]; rfl, bthen hB.out hbr⟩
    · have hf := Lib.hid (wrong_none (by rw [hN'.out]; omega) hall.out)
      go_wp2_with fail
      go_ret2
      exact ⟨by rw [hf.out]; rfl, bthen hB.out hbr⟩
set_option maxHeartbeats 1000000 in
theorem spec_l05Wrong (B C : Nat) (s : ByteArray) (a : Option Addr) (c : Nat) (xs : List Int) (b : Option Addr) (d : Nat) (ys : List Int) (u : ByteArray) (w : World) (hp : w.cell? ⟨B, 0, none⟩ = some (.slice a xs.length c)) (hq : w.cell? ⟨C, 0, none⟩ = some (.slice b ys.length d)) (hx : RI w a xs) (hy : RI w b ys) (hs : s.size ≤ 1048576) (hu : u.size ≤ 1048576) (hl : xs.length = s.size) (hl2 : ys.length = s.size) (h0 : punchedC s u = 0) :
    Calls Try.prog 47 #[.string s, .pointer (some ⟨B, 0, none⟩), .pointer (some ⟨C, 0, none⟩), .string u] w fun e w' => e = .returned (.int .i64 (wrongI (punchedL s u xs) ys)) ∧ Below w.heap.size w w' := by
  have hpq := Lib.hid (spec_l05Punch B s a c xs u w hp hx hs hu hl h0)
  have hzl := Lib.hid (punchedL_size (xs := xs) h0)
  have hl2' := Lib.hid hl2
  clear hl h0 hl2 hp
  generalize punchedL s u xs = zs at *
  go_enter Try.func47, Try.ntmps47
  go_wp2_with fail
  refine hpq.out.mono ?_
  rintro e w2 ⟨a2, c2, rfl, hown, hb⟩
  have hcq := keep hb hq
  have hB := Lib.hid hb
  have hz := Lib.hid (own_RI hown)
  clear hown hb hpq hq
  have ha := below_alloc (w := w2) (.cells #[.slice a2 zs.length c2] 28)
  have hcb := keep ha hcq
  have hcd : (w2.alloc (.cells #[.slice a2 zs.length c2] 28)).cell? ⟨w2.heap.size, 0, none⟩ = some (.slice a2 zs.length c2) := by simp [go_sem]
  replace hB := Lib.hid (bthen hB.out ha)
  replace hz := Lib.hid (hz.out.kept ha)
  clear ha hcq
  generalize hN : zs.length = n at *
  have hN' := Lib.hid hN
  have hns : n ≤ 1048576 := by rw [hzl.out]; exact hs
  have hns' : s.size ≤ n := by rw [hzl.out]; exact Nat.le_refl _
  clear hN
  go_wp2_with fail
  generalize hW : (w2.alloc (.cells #[.slice a2 n c2] 28)) = W at *
  clear hW
  go_loopw [10] (fun i wr => ∃ k : Nat, k ≤ n ∧ i = .int .i64 k ∧ Hid (((zs.zip ys).take k).all (fun p => !neP p) = true) ∧ Below W.heap.size W wr) (fun i _ => n - (intOf i).toNat)
  case atStart => exact ⟨0, by omega, rfl, Lib.hid rfl, Below.refl _ _⟩
  case round =>
    obtain ⟨k, hk, rfl, hall, hbr⟩ := hrel
    have rcb := keep hbr hcb
    have rcd := keep hbr hcd
    by_cases hlt : k < n
    · obtain ⟨x, hxk⟩ := get_some (l := zs) (k := k) (by rw [hN'.out]; exact hlt)
      obtain ⟨y, hyk⟩ := get_some (l := ys) (k := k) (by rw [hl2'.out, ← hzl.out]; exact hlt)
      obtain ⟨b1, o1, rfl, hcx⟩ := (hz.out.kept hbr).at hxk
      obtain ⟨b2, o2, rfl, hcy⟩ := (hy.kept (bthen hB.out hbr)).at hyk
      have hky : k < ys.length := by rw [hl2'.out, ← hzl.out]; exact hlt
      have hky' : (k : Int) < (ys.length : Int) := by omega
      have hkn' : (k : Int) < (n : Int) := by omega
      have hks : k < s.size := by have := hzl.out; omega
      by_cases he : x = y
      · have hn := wrong_next hxk hyk hall he
        subst he
        clear hxk hyk
        go_wp2_with fail
        first | go_quiet (fail) | fail
        go_wp2_with fail
        go_roundw
        case rel => exact ⟨k + 1, by omega, by go_num, hn, below_drewN hbr _⟩
        case measure => simp [intOf]; omega
      · have hf := Lib.hid (wrong_hit hxk hyk hall.out he)
        have hne : (x != y) = true := by simpa using he
        clear hxk hyk he
        go_wp2_with fail
        first | go_quiet (fail) | fail
        go_wp2_with fail
        go_ret
        exact ⟨ret_int (by rw [hf.out]), below_drewN (bthen hB.out hbr) _⟩
    · have hf := Lib.hid (wrong_none (by rw [hN'.out]; omega) hall.out)
      have hks : ¬ k < s.size := by have := hzl.out; omega
      go_wp2_with fail
      go_ret
      exact ⟨ret_int (by rw [hf.out]), bthen hB.out hbr⟩
theorem spec_l05Two (B C : Nat) (s : ByteArray) (a : Option Addr) (c : Nat) (xs : List Int) (b : Option Addr) (d : Nat) (ys : List Int) (w : World) (hp : w.cell? ⟨B, 0, none⟩ = some (.slice a xs.length c)) (hq : w.cell? ⟨C, 0, none⟩ = some (.slice b ys.length d)) (hx : RI w a xs) (hy : RI w b ys) (hs : s.size ≤ 1048576) (hn : xs.length ≤ maxLen) (hn2 : ys.length ≤ maxLen) :
    Calls Try.prog 36 #[.string s, .pointer (some ⟨B, 0, none⟩), .pointer (some ⟨C, 0, none⟩)] w fun e w' => e = .returned (.int .i64 (progII s xs ys)) ∧ w = w' := by
  have hsm : s.size ≤ maxLen := small hs
  have hok := Lib.hid (spec_l02Ok B a c xs w hp hx hn)
  have hok2 := Lib.hid (spec_l02Ok C b d ys w hq hy hn2)
  cases h1 : validProgL s.data.toList
  · have hf := Lib.hid (progII_p xs ys h1)
    go_enter Try.func36, Try.ntmps36
    go_wp2_with (first | (go_at_call 64; ((with_reducible refine (spec_l05Ok _ hsm _).mono ?_); rintro e w' ⟨rfl, rfl⟩)))
    go_ret
    exact ⟨ret_int (by rw [hf.out]), rfl⟩
  cases h2 : validCardL xs
  · have hf := Lib.hid (progII_c ys h1 h2)
    go_enter Try.func36, Try.ntmps36
    go_wp2_with (first | (go_at_call 64; ((with_reducible refine (spec_l05Ok _ hsm _).mono ?_); rintro e w' ⟨rfl, rfl⟩)) | (go_at_call 65; ((with_reducible refine hok.out.mono ?_); rintro e w' ⟨rfl, rfl⟩)))
    go_ret
    exact ⟨ret_int (by rw [hf.out]), rfl⟩
  cases h3 : validCardL ys
  · have hf := Lib.hid (progII_d h1 h2 h3)
    go_enter Try.func36, Try.ntmps36
    go_wp2_with (first | (go_at_call 64; ((with_reducible refine (spec_l05Ok _ hsm _).mono ?_); rintro e w' ⟨rfl, rfl⟩)) | (go_at_call 65; ((with_reducible refine hok.out.mono ?_); rintro e w' ⟨rfl, rfl⟩)) | (go_at_call 65; ((with_reducible refine hok2.out.mono ?_); rintro e w' ⟨rfl, rfl⟩)))
    go_ret
    exact ⟨ret_int (by rw [hf.out]), rfl⟩
  by_cases h4 : xs.length = s.size
  · have hne : ((xs.length : Int) != (s.size : Int)) = false := by simp [h4]
    by_cases h5 : ys.length = s.size
    · have hne2 : ((ys.length : Int) != (s.size : Int)) = false := by simp [h5]
      have hf := Lib.hid (progII_ok h1 h2 h3 h4 h5)
      clear h4 h5
      go_enter Try.func36, Try.ntmps36
      go_wp2_with (first | (go_at_call 64; ((with_reducible refine (spec_l05Ok _ hsm _).mono ?_); rintro e w' ⟨rfl, rfl⟩)) | (go_at_call 65; ((with_reducible refine hok.out.mono ?_); rintro e w' ⟨rfl, rfl⟩)) | (go_at_call 65; ((with_reducible refine hok2.out.mono ?_); rintro e w' ⟨rfl, rfl⟩)))
      go_ret
      exact ⟨ret_int (by rw [hf.out]), rfl⟩
    · have hne2 : ((ys.length : Int) != (s.size : Int)) = true := by simp; omega
      have hf := Lib.hid (progII_m h1 h2 h3 h4 h5)
      clear h4 h5
      go_enter Try.func36, Try.ntmps36
      go_wp2_with (first | (go_at_call 64; ((with_reducible refine (spec_l05Ok _ hsm _).mono ?_); rintro e w' ⟨rfl, rfl⟩)) | (go_at_call 65; ((with_reducible refine hok.out.mono ?_); rintro e w' ⟨rfl, rfl⟩)) | (go_at_call 65; ((with_reducible refine hok2.out.mono ?_); rintro e w' ⟨rfl, rfl⟩)))
      go_ret
      exact ⟨ret_int (by rw [hf.out]), rfl⟩
  · have hne : ((xs.length : Int) != (s.size : Int)) = true := by simp; omega
    have hf := Lib.hid (progII_n h1 h2 h3 h4)
    clear h4
    go_enter Try.func36, Try.ntmps36
    go_wp2_with (first | (go_at_call 64; ((with_reducible refine (spec_l05Ok _ hsm _).mono ?_); rintro e w' ⟨rfl, rfl⟩)) | (go_at_call 65; ((with_reducible refine hok.out.mono ?_); rintro e w' ⟨rfl, rfl⟩)) | (go_at_call 65; ((with_reducible refine hok2.out.mono ?_); rintro e w' ⟨rfl, rfl⟩)))
    go_ret
    exact ⟨ret_int (by rw [hf.out]), rfl⟩
set_option maxHeartbeats 1000000 in
theorem impl_VerifyCard (s : ByteArray) (a : Option Addr) (c : Nat) (xs : List Int) (b : Option Addr) (d : Nat) (ys : List Int) (u : ByteArray) (w : World) (hx : RI w a xs) (hy : RI w b ys) (hs : s.size ≤ 1048576) (hn : xs.length ≤ 1048576) (hn2 : ys.length ≤ 1048576) (hu : u.size ≤ 1048576) :
    Calls Try.prog 14 #[.string s, .agg #[.slice a xs.length c], .agg #[.slice b ys.length d], .string u] w fun e w' => e = .returned (.tuple #[.int .i64 (verI s u xs ys), .int .i64 (verCode s u xs ys)]) ∧ Below w.heap.size w w' := by
  have hb1 := Lib.hid (below_alloc3 w (.cells #[.slice a xs.length c] 28) (.cells #[.slice b ys.length d] 28) (.cells #[.slice a xs.length c, .slice b ys.length d] 28))
  have hpc := Lib.hid (show Calls Try.prog 41 #[.string s, .bool true, .slice (some ⟨w.heap.size + 2, 0, none⟩) 2 2] (((w.alloc (.cells #[.slice a xs.length c] 28)).alloc (.cells #[.slice b ys.length d] 28)).alloc (.cells #[.slice a xs.length c, .slice b ys.length d] 28)) fun e w' => e = .returned (.int .i64 (progII s xs ys)) ∧ Below (((w.alloc (.cells #[.slice a xs.length c] 28)).alloc (.cells #[.slice b ys.length d] 28)).alloc (.cells #[.slice a xs.length c, .slice b ys.length d] 28)).heap.size (((w.alloc (.cells #[.slice a xs.length c] 28)).alloc (.cells #[.slice b ys.length d] 28)).alloc (.cells #[.slice a xs.length c, .slice b ys.length d] 28)) w' by
    have h := impl_programCode s true (some ⟨w.heap.size + 2, 0, none⟩) 2 [xs, ys] (((w.alloc (.cells #[.slice a xs.length c] 28)).alloc (.cells #[.slice b ys.length d] 28)).alloc (.cells #[.slice a xs.length c, .slice b ys.length d] 28)) hs (RDx.two (c := c) (d := d) (by simp [go_sem]) (by simp [go_sem]) (hx.kept hb1.out) (hy.kept hb1.out)) (by simp only [deckSz, List.length_cons, List.length_nil, List.map_cons, List.map_nil, List.sum_cons, List.sum_nil]; omega)
    rw [pcL_two] at h
    exact h)
  cases h : (progII s xs ys == 0)
  · have hf := Lib.hid (ver_bad u h)
    have hne : (progII s xs ys != 0) = true := by simpa using h
    clear h
    go_enter Try.func14, Try.ntmps14
    go_wp2_with fail
    refine hpc.out.mono ?_
    rintro e w2 ⟨rfl, hb⟩
    have hB := Lib.hid (bthen hb1.out hb)
    clear hb hpc
    go_wp2_with fail
    go_ret2
    exact ⟨by rw [hf.out.1, hf.out.2]; rfl, hB.out⟩
  · have h' : progII s xs ys = 0 := by simpa using h
    obtain ⟨h1, h2, h3, h4, h5⟩ := progII_zero h'
    rw [h'] at hpc
    by_cases h0 : punchedC s u = 0
    · have hf := Lib.hid (ver_ok u h' h0)
      have hv := Lib.hid (fun W (hW : RI W a xs) (hV : RI W b ys) => impl_verified s a c xs b d ys u W hW hV hs hu h4 h5 h0)
      clear h h' h1 h2 h3 h4 h5 h0
      go_enter Try.func14, Try.ntmps14
      go_wp2_with fail
      refine hpc.out.mono ?_
      rintro e w2 ⟨rfl, hb⟩
      (have hc0 := keep (p := ⟨w.heap.size, 0, none⟩) (v := .slice a xs.length c) hb (by simp [go_sem, *]); have hf0 := keepf (p := ⟨w.heap.size, 0, none⟩) (v := .slice a xs.length c) hb (by simp [go_sem, *]) (by simp [go_sem, *]); have hl0 := World.block_lt_of_cell? _ _ hc0; have hc1 := keep (p := ⟨w.heap.size + 1, 0, none⟩) (v := .slice b ys.length d) hb (by simp [go_sem, *]); have hf1 := keepf (p := ⟨w.heap.size + 1, 0, none⟩) (v := .slice b ys.length d) hb (by simp [go_sem, *]) (by simp [go_sem, *]); have hl1 := World.block_lt_of_cell? _ _ hc1)
      have hB := Lib.hid (bthen hb1.out hb)
      clear hb hpc
      go_wp2_with fail
      refine (hv.out _ (hx.kept hB.out) (hy.kept hB.out)).mono ?_
      rintro e w3 ⟨rfl, hb⟩
      have hB3 := Lib.hid (bthen hB.out hb)
      clear hb
      go_wp2_with fail
      go_ret2
      exact ⟨by rw [hf.out.1, hf.out.2]; rfl, hB3.out⟩
    · have hf := Lib.hid (ver_code (xs := xs) (ys := ys) u h' (by simpa using h0))
      have hv := Lib.hid (fun W (hW : RI W a xs) => impl_verified_bad s a c xs b d ys u W hW hs hu h4 h0)
      clear h h' h1 h2 h3 h4 h5 h0
      go_enter Try.func14, Try.ntmps14
      go_wp2_with fail
      refine hpc.out.mono ?_
      rintro e w2 ⟨rfl, hb⟩
      (have hc0 := keep (p := ⟨w.heap.size, 0, none⟩) (v := .slice a xs.length c) hb (by simp [go_sem, *]); have hf0 := keepf (p := ⟨w.heap.size, 0, none⟩) (v := .slice a xs.length c) hb (by simp [go_sem, *]) (by simp [go_sem, *]); have hl0 := World.block_lt_of_cell? _ _ hc0; have hc1 := keep (p := ⟨w.heap.size + 1, 0, none⟩) (v := .slice b ys.length d) hb (by simp [go_sem, *]); have hf1 := keepf (p := ⟨w.heap.size + 1, 0, none⟩) (v := .slice b ys.length d) hb (by simp [go_sem, *]) (by simp [go_sem, *]); have hl1 := World.block_lt_of_cell? _ _ hc1)
      have hB := Lib.hid (bthen hb1.out hb)
      clear hb hpc
      go_wp2_with fail
      refine (hv.out _ (hx.kept hB.out)).mono ?_
      rintro e w3 ⟨rfl, hb⟩
      have hB3 := Lib.hid (bthen hB.out hb)
      clear hb
      go_wp2_with fail
      go_ret2
      exact ⟨by rw [hf.out.1, hf.out.2]; rfl, hB3.out⟩
set_option maxHeartbeats 1000000 in
theorem spec_VerifyCard (s : ByteArray) (a : Option Addr) (c : Nat) (xs : List Int) (b : Option Addr) (d : Nat) (ys : List Int) (u : ByteArray) (w : World) (hx : RI w a xs) (hy : RI w b ys) (hs : s.size ≤ 1048576) (hn : xs.length ≤ 1048576) (hn2 : ys.length ≤ 1048576) (hu : u.size ≤ 1048576) :
    Calls Try.prog 13 #[.string s, .agg #[.slice a xs.length c], .agg #[.slice b ys.length d], .string u] w fun e w' => e = .returned (.tuple #[.int .i64 (verI s u xs ys), .int .i64 (verCode s u xs ys)]) ∧ Below w.heap.size w w' := by
  have hb1 := Lib.hid (below_alloc2 w (.cells #[.slice a xs.length c] 28) (.cells #[.slice b ys.length d] 28))
  have hca : ((w.alloc (.cells #[.slice a xs.length c] 28)).alloc (.cells #[.slice b ys.length d] 28)).cell? ⟨w.heap.size, 0, none⟩ = some (.slice a xs.length c) := by simp [go_sem]
  have hcb : ((w.alloc (.cells #[.slice a xs.length c] 28)).alloc (.cells #[.slice b ys.length d] 28)).cell? ⟨w.heap.size + 1, 0, none⟩ = some (.slice b ys.length d) := by simp [go_sem]
  have hpc := Lib.hid (spec_l05Two w.heap.size (w.heap.size + 1) s a c xs b d ys _ hca hcb (hx.kept hb1.out) (hy.kept hb1.out) hs (small hn) (small hn2))
  cases h : (progII s xs ys == 0)
  · have hf := Lib.hid (ver_bad u h)
    have hne : (progII s xs ys != 0) = true := by simpa using h
    go_enter Try.func13, Try.ntmps13
    go_wp2_with (go_at_call 36; ((with_reducible refine hpc.out.mono ?_); rintro e w2 ⟨rfl, rfl⟩))
    go_ret2
    exact ⟨by rw [hf.out.1, hf.out.2]; rfl, hb1.out⟩
  · have h' : progII s xs ys = 0 := by simpa using h
    obtain ⟨h1, h2, h3, h4, h5⟩ := progII_zero h'
    rw [h'] at hpc
    have hck := Lib.hid (fun W => spec_l05Check s u W hs hu)
    by_cases h0 : punchedC s u = 0
    · have hf := Lib.hid (ver_ok (xs := xs) (ys := ys) u h' h0)
      have hv := Lib.hid (spec_l05Wrong w.heap.size (w.heap.size + 1) s a c xs b d ys u _ hca hcb (hx.kept hb1.out) (hy.kept hb1.out) hs hu h4 h5 h0)
      rw [h0] at hck
      clear h h' h1 h2 h3 h4 h5 h0
      go_enter Try.func13, Try.ntmps13
      go_wp2_with (first | (go_at_call 36; ((with_reducible refine hpc.out.mono ?_); rintro e w2 ⟨rfl, rfl⟩)) | (go_at_call 46; ((with_reducible refine (hck.out _).mono ?_); rintro e w2 ⟨rfl, rfl⟩)))
      refine hv.out.mono ?_
      rintro e w3 ⟨rfl, hb⟩
      have hB3 := Lib.hid (bthen hb1.out hb)
      clear hb hv
      go_wp2_with fail
      go_ret2
      exact ⟨by rw [hf.out.1, hf.out.2]; rfl, hB3.out⟩
    · have hf := Lib.hid (ver_code (xs := xs) (ys := ys) u h' (by simpa using h0))
      have hne : (punchedC s u != 0) = true := by simpa using h0
      clear h h' h1 h2 h3 h4 h5 h0
      go_enter Try.func13, Try.ntmps13
      go_wp2_with (first | (go_at_call 36; ((with_reducible refine hpc.out.mono ?_); rintro e w2 ⟨rfl, rfl⟩)) | (go_at_call 46; ((with_reducible refine (hck.out _).mono ?_); rintro e w2 ⟨rfl, rfl⟩)))
      go_ret2
      exact ⟨by rw [hf.out.1, hf.out.2]; rfl, hb1.out⟩
end Go.Proofs.Ytoeohebobmkobaa
