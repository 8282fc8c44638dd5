/- The walks of the functions on the fields of a card, in both packages: what each returns, and that memory has at most new blocks. -/
import Derived.Test.YtdjggbccdjbcoaaLay
namespace Go.Proofs.Ytdjggbccdjbcoaa
open Go.RowKit
set_option maxRecDepth 100000
set_option linter.unusedVariables false
set_option linter.unusedSimpArgs false
set_option linter.unnecessarySimpa false

/-- is it a field of n columns? -/
def fieldB (f t n : Int) : Bool := decide (0 ≤ f) && decide (f < t) && decide (t ≤ n)
theorem fieldB_yes {f t n : Int} (h : fieldB f t n = true) : 0 ≤ f ∧ f < t ∧ t ≤ n := by
  unfold fieldB at h; simp only [Bool.and_eq_true, decide_eq_true_eq] at h; exact ⟨h.1.1, h.1.2, h.2⟩
theorem fieldB_1 {f t n : Int} (h : ¬ 0 ≤ f) : fieldB f t n = false := by unfold fieldB; simp [h]
theorem fieldB_2 {f t n : Int} (h : ¬ f < t) : fieldB f t n = false := by unfold fieldB; simp [h]
theorem fieldB_3 {f t n : Int} (h : ¬ t ≤ n) : fieldB f t n = false := by unfold fieldB; simp [h]
theorem fieldB_ok {f t n : Int} (h : 0 ≤ f) (h2 : f < t) (h3 : t ≤ n) : fieldB f t n = true := by unfold fieldB; simp [h, h2, h3]
/-- the code of a card and a field -/
def fieldI (xs : List Int) (f t : Int) : Int := if validCardL xs then (if fieldB f t xs.length then 0 else 2) else 1
theorem field_bad {xs : List Int} (f t : Int) (h : validCardL xs = false) : fieldI xs f t = 1 := by unfold fieldI; rw [h]; rfl
theorem field_range {xs : List Int} {f t : Int} (h : validCardL xs = true) (h2 : fieldB f t xs.length = false) : fieldI xs f t = 2 := by unfold fieldI; rw [h, h2]; rfl
theorem field_ok {xs : List Int} {f t : Int} (h : validCardL xs = true) (h2 : fieldB f t xs.length = true) : fieldI xs f t = 0 := by unfold fieldI; rw [h, h2]; rfl
theorem field_zero {xs : List Int} {f t : Int} (h : fieldI xs f t = 0) : validCardL xs = true ∧ fieldB f t xs.length = true := by
  cases h1 : validCardL xs
  · rw [field_bad f t h1] at h; cases h
  · cases h2 : fieldB f t xs.length
    · rw [field_range h1 h2] at h; cases h
    · exact ⟨rfl, rfl⟩

theorem impl_isField (f t n : Int) (w : World) : Calls Try.prog 94 #[.agg #[.int .i64 f, .int .i64 t], .int .i64 n] w fun e w' => e = .returned (.bool (fieldB f t n)) ∧ Below w.heap.size w w' := by
  have hb1 := Lib.hid (below_alloc (w := w) (.cells #[.int .i64 f, .int .i64 t] 37))
  by_cases h1 : 0 ≤ f
  · by_cases h2 : f < t
    · by_cases h3 : t ≤ n
      · go_enter Try.func94, Try.ntmps94
        go_wp2_with fail
        go_ret
        exact ⟨ret_bool (by rw [fieldB_ok h1 h2 h3]), hb1.out⟩
      · go_enter Try.func94, Try.ntmps94
        go_wp2_with fail
        go_ret
        exact ⟨ret_bool (by rw [fieldB_3 (f := f) (t := t) (n := n) (by omega)]), hb1.out⟩
    · go_enter Try.func94, Try.ntmps94
      go_wp2_with fail
      go_ret
      exact ⟨ret_bool (by rw [fieldB_2 (f := f) (t := t) (n := n) (by omega)]), hb1.out⟩
  · go_enter Try.func94, Try.ntmps94
    go_wp2_with fail
    go_ret
    exact ⟨ret_bool (by rw [fieldB_1 (f := f) (t := t) (n := n) (by omega)]), hb1.out⟩
theorem spec_l02Field (f t n : Int) (w : World) : Calls Try.prog 97 #[.agg #[.int .i64 f, .int .i64 t], .int .i64 n] w fun e w' => e = .returned (.bool (fieldB f t n)) ∧ Below w.heap.size w w' := by
  have hb1 := Lib.hid (below_alloc (w := w) (.cells #[.int .i64 f, .int .i64 t] 37))
  by_cases h1 : 0 ≤ f
  · by_cases h2 : f < t
    · by_cases h3 : t ≤ n
      · go_enter Try.func97, Try.ntmps97
        go_wp2_with fail
        go_ret
        exact ⟨ret_bool (by rw [fieldB_ok h1 h2 h3]), hb1.out⟩
      · go_enter Try.func97, Try.ntmps97
        go_wp2_with fail
        go_ret
        exact ⟨ret_bool (by rw [fieldB_3 (f := f) (t := t) (n := n) (by omega)]), hb1.out⟩
    · go_enter Try.func97, Try.ntmps97
      go_wp2_with fail
      go_ret
      exact ⟨ret_bool (by rw [fieldB_2 (f := f) (t := t) (n := n) (by omega)]), hb1.out⟩
  · go_enter Try.func97, Try.ntmps97
    go_wp2_with fail
    go_ret
    exact ⟨ret_bool (by rw [fieldB_1 (f := f) (t := t) (n := n) (by omega)]), hb1.out⟩
theorem laws_toField (f t : Int) (w : World) : Calls Try.prog 52 #[.agg #[.int .i64 f, .int .i64 t]] w fun e w' => e = .returned (.agg #[.int .i64 f, .int .i64 t]) ∧ Below w.heap.size w w' := by
  go_enter Try.func52, Try.ntmps52
  go_wp2_with fail
  exact bodyPost_ret (v := .agg #[.int .i64 f, .int .i64 t]) (by simp [results, Try.results52, go_sem]) rfl ⟨rfl, below_alloc3 w _ _ _⟩
set_option maxHeartbeats 400000 in
theorem impl_fieldCode (a : Option Addr) (c : Nat) (xs : List Int) (f t : Int) (w : World) (hx : RI w a xs) (hn : xs.length ≤ maxLen) :
    Calls Try.prog 66 #[.agg #[.slice a xs.length c], .agg #[.int .i64 f, .int .i64 t]] w fun e w' => e = .returned (.int .i64 (fieldI xs f t)) ∧ Below w.heap.size w w' := by
  have hb1 := Lib.hid (below_alloc2 w (.cells #[.slice a xs.length c] 48) (.cells #[.int .i64 f, .int .i64 t] 37))
  cases hv : validCardL xs
  · have hf := Lib.hid (field_bad f t hv)
    go_enter Try.func66, Try.ntmps66
    go_wp2_with (go_at_call 81; ((with_reducible refine (impl_ValidCard a c xs _ (hx.kept hb1.out) hn).mono ?_); rintro e w' ⟨rfl, hb⟩))
    go_ret
    exact ⟨ret_int (by rw [hf.out]), bthen hb1.out hb⟩
  · go_enter Try.func66, Try.ntmps66
    go_wp2_with fail
    refine (impl_ValidCard a c xs _ (hx.kept hb1.out) hn).mono ?_
    rintro e w2 ⟨rfl, hb⟩
    (have hc0 := keep (p := ⟨w.heap.size, 0, none⟩) (v := .slice a xs.length c) hb (by simp [go_sem, *]); have hf0 := keepf (p := ⟨w.heap.size, 0, none⟩) (v := .slice a xs.length c) hb (by simp [go_sem, *]) (by simp [go_sem, *]); have hl0 := World.block_lt_of_cell? _ _ hc0; have hc1 := keep (p := ⟨w.heap.size + 1, 0, none⟩) (v := .int .i64 f) hb (by simp [go_sem, *]); have hf1 := keepf (p := ⟨w.heap.size + 1, 0, none⟩) (v := .int .i64 f) hb (by simp [go_sem, *]) (by simp [go_sem, *]); have hl1 := World.block_lt_of_cell? _ _ hc1; have hc2 := keep (p := ⟨w.heap.size + 1, 1, none⟩) (v := .int .i64 t) hb (by simp [go_sem, *]); have hf2 := keepf (p := ⟨w.heap.size + 1, 1, none⟩) (v := .int .i64 t) hb (by simp [go_sem, *]) (by simp [go_sem, *]); have hl2 := World.block_lt_of_cell? _ _ hc2)
    have hb2 := Lib.hid (bthen hb1.out hb)
    clear hb
    go_wp2_with fail
    go_region_held3 (fun W => Below w2.heap.size w2 W ∧ W.cell? ⟨w.heap.size, 0, none⟩ = some (.slice a xs.length c) ∧ W.cell? ⟨w.heap.size + 1, 0, none⟩ = some (.int .i64 f) ∧ W.cell? ⟨w.heap.size + 1, 1, none⟩ = some (.int .i64 t)) (first | exact held3 (below_drewN (Below.refl _ _) 1) hc0 hc1 hc2 | (rename Below w2.heap.size w2 _ ∧ _ => hH; refine held3 ?_ hc0 hc1 hc2; (refine bthen hH.1 ?_; assumption))) (first | (go_at_call 91; ((with_reducible refine (impl_columns _ _ _ _).mono ?_); rintro e w4 ⟨rfl, hb⟩)) | (go_at_call 94; ((with_reducible refine (impl_isField _ _ _ _).mono ?_); rintro e w5 ⟨rfl, hb⟩)))
    have hHb := And.left ‹Below w2.heap.size w2 _ ∧ _›
    have hb4 := Lib.hid (bthen hb2.out hHb)
    cases hq : fieldB f t xs.length
    · have hf := Lib.hid (field_range hv hq)
      go_wp2_with fail
      go_ret
      exact ⟨ret_int (by rw [hf.out]), hb4.out⟩
    · have hf := Lib.hid (field_ok hv hq)
      go_wp2_with fail
      go_ret
      exact ⟨ret_int (by rw [hf.out]), hb4.out⟩
/-- the columns of a field -/
def partL (xs : List Int) (f t : Int) : List Int := (xs.drop f.toNat).take (t - f).toNat
theorem partL_length {xs : List Int} {f t : Int} (h : fieldB f t xs.length = true) : (partL xs f t).length = (t - f).toNat := by
  obtain ⟨h1, h2, h3⟩ := fieldB_yes h
  unfold partL; simp; omega
theorem ri_sub {w : World} {b o : Nat} {xs : List Int} (h : RI w (some ⟨b, o, none⟩) xs) (f m : Nat) : RI w (some ⟨b, o + f, none⟩) ((xs.drop f).take m) := by
  intro j u hj
  rw [List.map_take, List.map_drop, List.getElem?_take] at hj
  split at hj
  · rw [List.getElem?_drop] at hj
    obtain ⟨b', o', ha, hc⟩ := h _ _ hj
    simp only [Option.some.injEq, Addr.mk.injEq] at ha
    obtain ⟨rfl, rfl, _⟩ := ha
    exact ⟨b, o + f, rfl, by rw [Nat.add_assoc]; exact hc⟩
  · cases hj
set_option maxHeartbeats 400000 in
theorem spec_l02Part_at (b o : Nat) (a : Option Addr) (c : Nat) (xs : List Int) (f t : Int) (w : World) (hp : w.cell? ⟨b, o, none⟩ = some (.slice a xs.length c)) (hx : RI w a xs) (hn : xs.length ≤ maxLen) (hcap : xs.length ≤ c) (hf : fieldB f t xs.length = true) :
    Calls Try.prog 124 #[.pointer (some ⟨b, o, none⟩), .agg #[.int .i64 f, .int .i64 t]] w fun e w' => ∃ a' c', e = .returned (.slice a' (partL xs f t).length c') ∧ RI w' a' (partL xs f t) ∧ Below w.heap.size w w' := by
  have hm : xs.length ≤ 9223372036854775807 := by simpa [maxLen] using hn
  have hbl := World.block_lt_of_cell? _ _ hp
  have hb1 := Lib.hid (below_alloc (w := w) (.cells #[.int .i64 f, .int .i64 t] 37))
  have hp1 := keep hb1.out hp
  obtain ⟨h1, h2, h3⟩ := fieldB_yes hf
  obtain ⟨x, hx0⟩ := get_some (l := xs) (k := 0) (by omega)
  obtain ⟨b1, o1, rfl, hc1⟩ := hx.at hx0
  obtain ⟨f, rfl⟩ := Int.eq_ofNat_of_zero_le h1
  obtain ⟨t, rfl⟩ := Int.eq_ofNat_of_zero_le (show 0 ≤ t by omega)
  have h2' : f ≤ t := by omega
  have h3' : t ≤ xs.length := by omega
  have h4' : t ≤ c := by omega
  go_enter Try.func124, Try.ntmps124
  go_wp2_with fail
  go_quiet (fail)
  go_wp2_with fail
  go_ret
  have hl : (partL xs (f : Int) (t : Int)).length = t - f := by rw [partL_length hf]; omega
  exact ⟨some ⟨b1, o1 + f, Option.none⟩, c - f, by rw [hl]; rfl, ((ri_sub hx f ((t : Int) - f).toNat).kept (below_drewN hb1.out _)), below_drewN hb1.out _⟩
theorem spec_l02Part (b : Nat) (a : Option Addr) (c : Nat) (xs : List Int) (f t : Int) (w : World) (hp : w.cell? ⟨b, 0, none⟩ = some (.slice a xs.length c)) (hx : RI w a xs) (hn : xs.length ≤ maxLen) (hcap : xs.length ≤ c) (hf : fieldB f t xs.length = true) :
    Calls Try.prog 124 #[.pointer (some ⟨b, 0, none⟩), .agg #[.int .i64 f, .int .i64 t]] w fun e w' => ∃ a' c', e = .returned (.slice a' (partL xs f t).length c') ∧ RI w' a' (partL xs f t) ∧ Below w.heap.size w w' := spec_l02Part_at b 0 a c xs f t w hp hx hn hcap hf
/-- is the field of a card blank? -/
def blankFieldB (xs : List Int) (f t : Int) : Bool := if fieldI xs f t == 0 then !((partL xs f t).any fun m => m != 0) else false
theorem blankField_no {xs : List Int} {f t : Int} (h : (fieldI xs f t == 0) = false) : blankFieldB xs f t = false := by unfold blankFieldB; rw [h]; rfl
theorem blankField_yes {xs : List Int} {f t : Int} (h : fieldI xs f t = 0) : blankFieldB xs f t = !((partL xs f t).any fun m => m != 0) := by unfold blankFieldB; rw [h]; rfl
theorem partL_small {xs : List Int} (f t : Int) {n : Nat} (h : xs.length ≤ n) : (partL xs f t).length ≤ n := by unfold partL; simp; omega
theorem impl_IsBlankField_1 (x : Int) (w : World) : Calls Try.prog 69 #[.int .i64 x] w fun e w' => e = .returned (.bool (x != 0)) ∧ w = w' := by
  go_enter Try.func69, Try.ntmps69
  go_wp2_with fail
  go_ret
  exact ⟨rfl, rfl⟩
set_option maxHeartbeats 400000 in
theorem impl_IsBlankField (a : Option Addr) (c : Nat) (xs : List Int) (f t : Int) (w : World) (hx : RI w a xs) (hn : xs.length ≤ maxLen) (hcap : xs.length ≤ c) :
    Calls Try.prog 22 #[.agg #[.slice a xs.length c], .agg #[.int .i64 f, .int .i64 t]] w fun e w' => e = .returned (.tuple #[.bool (blankFieldB xs f t), .int .i64 (fieldI xs f t)]) ∧ Below w.heap.size w w' := by
  have eg := Go.Proofs.enters_of Try.func69 (by kernel_rfl) rfl
  have hb1 := Lib.hid (below_alloc2 w (.cells #[.slice a xs.length c] 48) (.cells #[.int .i64 f, .int .i64 t] 37))
  cases hz : (fieldI xs f t == 0)
  · have hf := Lib.hid (blankField_no hz)
    have hz2 : (fieldI xs f t != 0) = true := by rw [bne, hz]; rfl
    go_enter Try.func22, Try.ntmps22
    go_wp2_with (go_at_call 66; ((with_reducible refine (impl_fieldCode a c xs f t _ (hx.kept hb1.out) hn).mono ?_); rintro e w' ⟨rfl, hb⟩))
    go_ret2
    exact ⟨by rw [hf.out]; rfl, bthen hb1.out hb⟩
  · have hz1 : fieldI xs f t = 0 := by simpa using hz
    have hf := Lib.hid (blankField_yes hz1)
    obtain ⟨hv, hq⟩ := field_zero hz1
    obtain ⟨h1, h2, h3⟩ := fieldB_yes hq
    have hlen := Lib.hid (partL_length hq)
    have hz' := Lib.hid hz1
    obtain ⟨x, hx0⟩ := get_some (l := xs) (k := 0) (by omega)
    obtain ⟨b1, o1, rfl, hc1⟩ := hx.at hx0
    obtain ⟨f, rfl⟩ := Int.eq_ofNat_of_zero_le h1
    obtain ⟨t, rfl⟩ := Int.eq_ofNat_of_zero_le (show 0 ≤ t by omega)
    have h2' : f ≤ t := by omega
    have h3' : t ≤ xs.length := by omega
    have h4' : t ≤ c := by omega
    clear hz hz1 hx0 hc1
    go_enter Try.func22, Try.ntmps22
    go_wp2_with fail
    refine (impl_fieldCode _ c xs _ _ _ (hx.kept hb1.out) hn).mono ?_
    rintro e w2 ⟨rfl, hb⟩
    (have hc0 := keep (p := ⟨w.heap.size, 0, none⟩) (v := .slice (some ⟨b1, o1, none⟩) xs.length c) hb (by simp [go_sem, *]); have hf0 := keepf (p := ⟨w.heap.size, 0, none⟩) (v := .slice (some ⟨b1, o1, none⟩) xs.length c) hb (by simp [go_sem, *]) (by simp [go_sem, *]); have hl0 := World.block_lt_of_cell? _ _ hc0; have hc1 := keep (p := ⟨w.heap.size + 1, 0, none⟩) (v := .int .i64 f) hb (by simp [go_sem, *]); have hf1 := keepf (p := ⟨w.heap.size + 1, 0, none⟩) (v := .int .i64 f) hb (by simp [go_sem, *]) (by simp [go_sem, *]); have hl1 := World.block_lt_of_cell? _ _ hc1; have hc2 := keep (p := ⟨w.heap.size + 1, 1, none⟩) (v := .int .i64 t) hb (by simp [go_sem, *]); have hf2 := keepf (p := ⟨w.heap.size + 1, 1, none⟩) (v := .int .i64 t) hb (by simp [go_sem, *]) (by simp [go_sem, *]); have hl2 := World.block_lt_of_cell? _ _ hc2)
    have hb2 := Lib.hid (bthen hb1.out hb)
    clear hb
    rw [hz'.out]
    have hl : (partL xs (f : Int) (t : Int)).length = t - f := by rw [hlen.out]; omega
    have hc := Lib.hid (slices_ContainsFunc_ints 69 #[] (fun m => m != 0) _ (c - f) (partL xs f t) w2 (ri_sub (hx.kept hb2.out) f ((t : Int) - f).toNat) (partL_small _ _ hn) eg (fun x W hb => (impl_IsBlankField_1 x W).mono fun _ _ h => ⟨h.1, by rw [← h.2]; exact Below.refl _ _⟩))
    rw [hl] at hc
    go_wp2_with (go_at_call 68; ((with_reducible refine hc.out.mono ?_); rintro e w' ⟨rfl, hb⟩))
    go_ret2
    exact ⟨by rw [hf.out, hz'.out]; rfl, bthen hb2.out hb⟩
set_option maxHeartbeats 400000 in
theorem impl_part (a : Option Addr) (c : Nat) (xs : List Int) (f t : Int) (w : World) (hx : RI w a xs) (hn : xs.length ≤ 1048576) (hcap : xs.length ≤ c) (hq : fieldB f t xs.length = true) :
    Calls Try.prog 67 #[.agg #[.slice a xs.length c], .agg #[.int .i64 f, .int .i64 t]] w fun e w' => ∃ a' c', e = .returned (.agg #[.slice a' (partL xs f t).length c']) ∧ w'.ownsRow w.heap.size 2 1 (.slice a' (partL xs f t).length c') (partL xs f t).length ((partL xs f t).map (Value.int .i64)) ∧ Below w.heap.size w w' := by
  have hb2 := Lib.hid (below_alloc3 w (.cells #[.slice a xs.length c] 48) (.cells #[.int .i64 f, .int .i64 t] 37) (.cells #[.slice none 0 0] 48))
  obtain ⟨h1, h2, h3⟩ := fieldB_yes hq
  have hlen := Lib.hid (partL_length hq)
  obtain ⟨x, hx0⟩ := get_some (l := xs) (k := 0) (by omega)
  obtain ⟨b1, o1, rfl, hc1⟩ := hx.at hx0
  obtain ⟨f, rfl⟩ := Int.eq_ofNat_of_zero_le h1
  obtain ⟨t, rfl⟩ := Int.eq_ofNat_of_zero_le (show 0 ≤ t by omega)
  have h2' : f ≤ t := by omega
  have h3' : t ≤ xs.length := by omega
  have h4' : t ≤ c := by omega
  clear hx0 hc1
  have hl : (partL xs (f : Int) (t : Int)).length = t - f := by rw [hlen.out]; omega
  have hcop := Lib.hid (impl_copyInts (some ⟨b1, o1 + f, Option.none⟩) (c - f) (partL xs f t) _ (ri_sub (hx.kept hb2.out) f ((t : Int) - f).toNat) (partL_small _ _ hn))
  rw [hl] at hcop
  go_enter Try.func67, Try.ntmps67
  go_wp2_with fail
  refine hcop.out.mono ?_
  rintro e w1 ⟨a1, c1, rfl, hown, hb1⟩
  (have hc0 := keep (p := ⟨w.heap.size + 2, 0, none⟩) (v := .slice none 0 0) hb1 (by simp [go_sem, *]); have hf0 := keepf (p := ⟨w.heap.size + 2, 0, none⟩) (v := .slice none 0 0) hb1 (by simp [go_sem, *]) (by simp [go_sem, *]); have hl0 := World.block_lt_of_cell? _ _ hc0)
  have hown' := Lib.hid hown
  have hb1' := Lib.hid (bthen hb2.out hb1)
  clear hown hb1
  go_wp2_with fail
  refine bodyPost_ret (v := .agg #[.slice a1 (t - f) c1]) (by simp [results, Try.results67, go_sem, hc0]) rfl ⟨a1, c1, by rw [hl], ?_, ?_⟩
  · rw [hl]; exact own_mono (B' := w.heap.size + 1 + 1 + 1) (ownsRow_setCell_below (by simpa using hown'.out) (by simp) _) (by omega)
  · exact hb1'.out.setCell (by simp; omega) _
def partOfL (xs : List Int) (f t : Int) : List Int := if fieldI xs f t == 0 then partL xs f t else []
theorem partOf_no {xs : List Int} {f t : Int} (h : (fieldI xs f t == 0) = false) : partOfL xs f t = [] := by unfold partOfL; rw [h]; rfl
theorem partOf_yes {xs : List Int} {f t : Int} (h : fieldI xs f t = 0) : partOfL xs f t = partL xs f t := by unfold partOfL; rw [h]; rfl
theorem partOfL_len (xs : List Int) (f t : Int) (h : xs.length ≤ 1048576) : (partOfL xs f t).length ≤ 1048576 := by
  unfold partOfL; split
  · exact partL_small f t h
  · simp
set_option maxHeartbeats 400000 in
theorem impl_PartOf (a : Option Addr) (c : Nat) (xs : List Int) (f t : Int) (w : World) (hx : RI w a xs) (hn : xs.length ≤ 1048576) (hcap : xs.length ≤ c) :
    Calls Try.prog 21 #[.agg #[.slice a xs.length c], .agg #[.int .i64 f, .int .i64 t]] w fun e w' => ∃ a' c', e = .returned (.tuple #[.agg #[.slice a' (partOfL xs f t).length c'], .int .i64 (fieldI xs f t)]) ∧ w'.ownsRow w.heap.size 2 1 (.slice a' (partOfL xs f t).length c') (partOfL xs f t).length ((partOfL xs f t).map (Value.int .i64)) ∧ Below w.heap.size w w' := by
  have hb1 := Lib.hid (below_alloc3 w (.cells #[.slice a xs.length c] 48) (.cells #[.int .i64 f, .int .i64 t] 37) (.cells #[.slice none 0 0] 48))
  cases hz : (fieldI xs f t == 0)
  · have hf := Lib.hid (partOf_no hz)
    have hz2 : (fieldI xs f t != 0) = true := by rw [bne, hz]; rfl
    go_enter Try.func21, Try.ntmps21
    go_wp2_with (go_at_call 66; ((with_reducible refine (impl_fieldCode a c xs f t _ (hx.kept hb1.out) (small hn)).mono ?_); rintro e w' ⟨rfl, hb⟩; (have hc0 := keep (p := ⟨w.heap.size + 2, 0, none⟩) (v := .slice none 0 0) hb (by simp [go_sem, *]); have hf0 := keepf (p := ⟨w.heap.size + 2, 0, none⟩) (v := .slice none 0 0) hb (by simp [go_sem, *]) (by simp [go_sem, *]); have hl0 := World.block_lt_of_cell? _ _ hc0)))
    refine bodyPost_ret (v := .tuple #[.agg #[.slice none 0 0], .int .i64 (fieldI xs f t)]) (by simp [results, Try.results21, go_sem, hc0]) rfl ⟨none, 0, by rw [hf.out]; rfl, by rw [hf.out]; exact World.ownsRow_nil _ _ _ _, ?_⟩
    exact (bthen hb1.out hb).setCell (by dsimp only; omega) _
  · have hz1 : fieldI xs f t = 0 := by simpa using hz
    have hf := Lib.hid (partOf_yes hz1)
    obtain ⟨hv, hq⟩ := field_zero hz1
    have hz' := Lib.hid hz1
    clear hz hz1
    go_enter Try.func21, Try.ntmps21
    go_wp2_with fail
    refine (impl_fieldCode a c xs f t _ (hx.kept hb1.out) (small hn)).mono ?_
    rintro e w2 ⟨rfl, hb⟩
    (have hc0 := keep (p := ⟨w.heap.size, 0, none⟩) (v := .slice a xs.length c) hb (by simp [go_sem, *]); have hf0 := keepf (p := ⟨w.heap.size, 0, none⟩) (v := .slice a xs.length c) hb (by simp [go_sem, *]) (by simp [go_sem, *]); have hl0 := World.block_lt_of_cell? _ _ hc0; have hc1 := keep (p := ⟨w.heap.size + 1, 0, none⟩) (v := .int .i64 f) hb (by simp [go_sem, *]); have hf1 := keepf (p := ⟨w.heap.size + 1, 0, none⟩) (v := .int .i64 f) hb (by simp [go_sem, *]) (by simp [go_sem, *]); have hl1 := World.block_lt_of_cell? _ _ hc1; have hc2 := keep (p := ⟨w.heap.size + 1, 1, none⟩) (v := .int .i64 t) hb (by simp [go_sem, *]); have hf2 := keepf (p := ⟨w.heap.size + 1, 1, none⟩) (v := .int .i64 t) hb (by simp [go_sem, *]) (by simp [go_sem, *]); have hl2 := World.block_lt_of_cell? _ _ hc2; have hc3 := keep (p := ⟨w.heap.size + 2, 0, none⟩) (v := .slice none 0 0) hb (by simp [go_sem, *]); have hf3 := keepf (p := ⟨w.heap.size + 2, 0, none⟩) (v := .slice none 0 0) hb (by simp [go_sem, *]) (by simp [go_sem, *]); have hl3 := World.block_lt_of_cell? _ _ hc3)
    have hb2 := Lib.hid (bthen hb1.out hb)
    clear hb
    rw [hz'.out]
    go_wp2_with fail
    refine (impl_part a c xs f t _ (hx.kept hb2.out) hn hcap hq).mono ?_
    rintro e w3 ⟨a3, c3, rfl, hown, hb⟩
    (have hc0 := keep (p := ⟨w.heap.size + 2, 0, none⟩) (v := .slice none 0 0) hb (by simp [go_sem, *]); have hf0 := keepf (p := ⟨w.heap.size + 2, 0, none⟩) (v := .slice none 0 0) hb (by simp [go_sem, *]) (by simp [go_sem, *]); have hl0 := World.block_lt_of_cell? _ _ hc0)
    have hown' := Lib.hid (own_mono (B := w.heap.size + 3) hown (by omega))
    have hb3 := Lib.hid (bthen hb2.out hb)
    clear hb hown
    go_wp2_with fail
    refine bodyPost_ret (v := .tuple #[.agg #[.slice a3 (partL xs f t).length c3], .int .i64 0]) (by simp [results, Try.results21, go_sem, hc0]) rfl ⟨a3, c3, by rw [hf.out, hz'.out], ?_, ?_⟩
    · rw [hf.out]; exact own_mono (ownsRow_setCell_below hown'.out (by dsimp only; omega) _) (by omega)
    · exact hb3.out.setCell (by dsimp only; omega) _
theorem OI.cap {lo hi e c : Nat} {w : World} {a : Option Addr} {xs : List Int} (h : OI lo hi w e a c xs) : xs.length ≤ c := by
  obtain ⟨a', c', hv, _, hc, _⟩ := own_slice h.1
  simp only [Value.slice.injEq] at hv
  omega
end Go.Proofs.Ytdjggbccdjbcoaa
