/- The walks of the functions on the fields of a card, in both packages: what each returns, and that memory has at most new blocks. -/
import Derived.Test.YtcbjfgjlhjjpiaaDoorLay
namespace Go.Proofs.YtcbjfgjlhjjpiaaDoor
open Go.RowKit
set_option maxRecDepth 100000
set_option linter.unusedVariables false
set_option linter.unusedSimpArgs false
set_option linter.unnecessarySimpa false

/-- is it a field of n columns? -/
def fieldB (f t n : Int) : Bool := decide (0 ≤ f) && decide (f < t) && decide (t ≤ n)
theorem fieldB_yes {f t n : Int} (h : fieldB f t n = true) : 0 ≤ f ∧ f < t ∧ t ≤ n := by
  unfold fieldB at h; simp only [Bool.and_eq_true, decide_eq_true_eq] at h; exact ⟨h.1.1, h.1.2, h.2⟩
theorem fieldB_1 {f t n : Int} (h : ¬ 0 ≤ f) : fieldB f t n = false := by unfold fieldB; simp [h]
theorem fieldB_2 {f t n : Int} (h : ¬ f < t) : fieldB f t n = false := by unfold fieldB; simp [h]
theorem fieldB_3 {f t n : Int} (h : ¬ t ≤ n) : fieldB f t n = false := by unfold fieldB; simp [h]
theorem fieldB_ok {f t n : Int} (h : 0 ≤ f) (h2 : f < t) (h3 : t ≤ n) : fieldB f t n = true := by unfold fieldB; simp [h, h2, h3]
/-- the code of a card and a field -/
def fieldI (xs : List Int) (f t : Int) : Int := if validCardL xs then (if fieldB f t xs.length then 0 else 2) else 1
theorem field_bad {xs : List Int} (f t : Int) (h : validCardL xs = false) : fieldI xs f t = 1 := by unfold fieldI; rw [h]; rfl
theorem field_range {xs : List Int} {f t : Int} (h : validCardL xs = true) (h2 : fieldB f t xs.length = false) : fieldI xs f t = 2 := by unfold fieldI; rw [h, h2]; rfl
theorem field_ok {xs : List Int} {f t : Int} (h : validCardL xs = true) (h2 : fieldB f t xs.length = true) : fieldI xs f t = 0 := by unfold fieldI; rw [h, h2]; rfl
theorem field_zero {xs : List Int} {f t : Int} (h : fieldI xs f t = 0) : validCardL xs = true ∧ fieldB f t xs.length = true := by
  cases h1 : validCardL xs
  · rw [field_bad f t h1] at h; cases h
  · cases h2 : fieldB f t xs.length
    · rw [field_range h1 h2] at h; cases h
    · exact ⟨rfl, rfl⟩

theorem impl_isField (f t n : Int) (w : World) : Calls Tryd.prog 71 #[.agg #[.int .i64 f, .int .i64 t], .int .i64 n] w fun e w' => e = .returned (.bool (fieldB f t n)) ∧ Below w.heap.size w w' := by
  have hb1 := Lib.hid (below_alloc (w := w) (.cells #[.int .i64 f, .int .i64 t] 31))
  by_cases h1 : 0 ≤ f
  · by_cases h2 : f < t
    · by_cases h3 : t ≤ n
      · go_enter Tryd.func71, Tryd.ntmps71
        go_wp2_with fail
        go_ret
        exact ⟨ret_bool (by rw [fieldB_ok h1 h2 h3]), hb1.out⟩
      · go_enter Tryd.func71, Tryd.ntmps71
        go_wp2_with fail
        go_ret
        exact ⟨ret_bool (by rw [fieldB_3 (f := f) (t := t) (n := n) (by omega)]), hb1.out⟩
    · go_enter Tryd.func71, Tryd.ntmps71
      go_wp2_with fail
      go_ret
      exact ⟨ret_bool (by rw [fieldB_2 (f := f) (t := t) (n := n) (by omega)]), hb1.out⟩
  · go_enter Tryd.func71, Tryd.ntmps71
    go_wp2_with fail
    go_ret
    exact ⟨ret_bool (by rw [fieldB_1 (f := f) (t := t) (n := n) (by omega)]), hb1.out⟩
theorem spec_l02Field (f t n : Int) (w : World) : Calls Tryd.prog 102 #[.agg #[.int .i64 f, .int .i64 t], .int .i64 n] w fun e w' => e = .returned (.bool (fieldB f t n)) ∧ Below w.heap.size w w' := by
  have hb1 := Lib.hid (below_alloc (w := w) (.cells #[.int .i64 f, .int .i64 t] 31))
  by_cases h1 : 0 ≤ f
  · by_cases h2 : f < t
    · by_cases h3 : t ≤ n
      · go_enter Tryd.func102, Tryd.ntmps102
        go_wp2_with fail
        go_ret
        exact ⟨ret_bool (by rw [fieldB_ok h1 h2 h3]), hb1.out⟩
      · go_enter Tryd.func102, Tryd.ntmps102
        go_wp2_with fail
        go_ret
        exact ⟨ret_bool (by rw [fieldB_3 (f := f) (t := t) (n := n) (by omega)]), hb1.out⟩
    · go_enter Tryd.func102, Tryd.ntmps102
      go_wp2_with fail
      go_ret
      exact ⟨ret_bool (by rw [fieldB_2 (f := f) (t := t) (n := n) (by omega)]), hb1.out⟩
  · go_enter Tryd.func102, Tryd.ntmps102
    go_wp2_with fail
    go_ret
    exact ⟨ret_bool (by rw [fieldB_1 (f := f) (t := t) (n := n) (by omega)]), hb1.out⟩
theorem laws_toField (f t : Int) (w : World) : Calls Tryd.prog 103 #[.agg #[.int .i64 f, .int .i64 t]] w fun e w' => e = .returned (.agg #[.int .i64 f, .int .i64 t]) ∧ Below w.heap.size w w' := by
  go_enter Tryd.func103, Tryd.ntmps103
  go_wp2_with fail
  exact bodyPost_ret (v := .agg #[.int .i64 f, .int .i64 t]) (by simp [results, Tryd.results103, go_sem]) rfl ⟨rfl, below_alloc3 w _ _ _⟩
set_option maxHeartbeats 400000 in
theorem impl_fieldCode (a : Option Addr) (c : Nat) (xs : List Int) (f t : Int) (w : World) (hx : RI w a xs) (hn : xs.length ≤ maxLen) :
    Calls Tryd.prog 37 #[.agg #[.slice a xs.length c], .agg #[.int .i64 f, .int .i64 t]] w fun e w' => e = .returned (.int .i64 (fieldI xs f t)) ∧ Below w.heap.size w w' := by
  have hb1 := Lib.hid (below_alloc2 w (.cells #[.slice a xs.length c] 28) (.cells #[.int .i64 f, .int .i64 t] 31))
  cases hv : validCardL xs
  · have hf := Lib.hid (field_bad f t hv)
    go_enter Tryd.func37, Tryd.ntmps37
    go_wp2_with (go_at_call 70; ((with_reducible refine (impl_ValidCard a c xs _ (hx.kept hb1.out) hn).mono ?_); rintro e w' ⟨rfl, hb⟩))
    go_ret
    exact ⟨ret_int (by rw [hf.out]), bthen hb1.out hb⟩
  · go_enter Tryd.func37, Tryd.ntmps37
    go_wp2_with fail
    refine (impl_ValidCard a c xs _ (hx.kept hb1.out) hn).mono ?_
    rintro e w2 ⟨rfl, hb⟩
    (have hc0 := keep (p := ⟨w.heap.size, 0, none⟩) (v := .slice a xs.length c) hb (by simp [go_sem, *]); have hf0 := keepf (p := ⟨w.heap.size, 0, none⟩) (v := .slice a xs.length c) hb (by simp [go_sem, *]) (by simp [go_sem, *]); have hl0 := World.block_lt_of_cell? _ _ hc0; have hc1 := keep (p := ⟨w.heap.size + 1, 0, none⟩) (v := .int .i64 f) hb (by simp [go_sem, *]); have hf1 := keepf (p := ⟨w.heap.size + 1, 0, none⟩) (v := .int .i64 f) hb (by simp [go_sem, *]) (by simp [go_sem, *]); have hl1 := World.block_lt_of_cell? _ _ hc1; have hc2 := keep (p := ⟨w.heap.size + 1, 1, none⟩) (v := .int .i64 t) hb (by simp [go_sem, *]); have hf2 := keepf (p := ⟨w.heap.size + 1, 1, none⟩) (v := .int .i64 t) hb (by simp [go_sem, *]) (by simp [go_sem, *]); have hl2 := World.block_lt_of_cell? _ _ hc2)
    have hb2 := Lib.hid (bthen hb1.out hb)
    clear hb
    go_wp2_with fail
    go_region_held3 (fun W => Below w2.heap.size w2 W ∧ W.cell? ⟨w.heap.size, 0, none⟩ = some (.slice a xs.length c) ∧ W.cell? ⟨w.heap.size + 1, 0, none⟩ = some (.int .i64 f) ∧ W.cell? ⟨w.heap.size + 1, 1, none⟩ = some (.int .i64 t)) (first | exact held3 (below_drewN (Below.refl _ _) 1) hc0 hc1 hc2 | (rename Below w2.heap.size w2 _ ∧ _ => hH; refine held3 ?_ hc0 hc1 hc2; (refine bthen hH.1 ?_; assumption))) (first | (go_at_call 72; ((with_reducible refine (impl_columns _ _ _ _).mono ?_); rintro e w4 ⟨rfl, hb⟩)) | (go_at_call 71; ((with_reducible refine (impl_isField _ _ _ _).mono ?_); rintro e w5 ⟨rfl, hb⟩)))
    have hHb := And.left ‹Below w2.heap.size w2 _ ∧ _›
    have hb4 := Lib.hid (bthen hb2.out hHb)
    cases hq : fieldB f t xs.length
    · have hf := Lib.hid (field_range hv hq)
      go_wp2_with fail
      go_ret
      exact ⟨ret_int (by rw [hf.out]), hb4.out⟩
    · have hf := Lib.hid (field_ok hv hq)
      go_wp2_with fail
      go_ret
      exact ⟨ret_int (by rw [hf.out]), hb4.out⟩
/-- the columns of a field -/
def partL (xs : List Int) (f t : Int) : List Int := (xs.drop f.toNat).take (t - f).toNat
theorem partL_length {xs : List Int} {f t : Int} (h : fieldB f t xs.length = true) : (partL xs f t).length = (t - f).toNat := by
  obtain ⟨h1, h2, h3⟩ := fieldB_yes h
  unfold partL; simp; omega
theorem ri_sub {w : World} {b o : Nat} {xs : List Int} (h : RI w (some ⟨b, o, none⟩) xs) (f m : Nat) : RI w (some ⟨b, o + f, none⟩) ((xs.drop f).take m) := by
  intro j u hj
  rw [List.map_take, List.map_drop, List.getElem?_take] at hj
  split at hj
  · rw [List.getElem?_drop] at hj
    obtain ⟨b', o', ha, hc⟩ := h _ _ hj
    simp only [Option.some.injEq, Addr.mk.injEq] at ha
    obtain ⟨rfl, rfl, _⟩ := ha
    exact ⟨b, o + f, rfl, by rw [Nat.add_assoc]; exact hc⟩
  · cases hj
/-- is the field of a card blank? -/
def blankFieldB (xs : List Int) (f t : Int) : Bool := if fieldI xs f t == 0 then !((partL xs f t).any fun m => m != 0) else false
theorem blankField_no {xs : List Int} {f t : Int} (h : (fieldI xs f t == 0) = false) : blankFieldB xs f t = false := by unfold blankFieldB; rw [h]; rfl
theorem blankField_yes {xs : List Int} {f t : Int} (h : fieldI xs f t = 0) : blankFieldB xs f t = !((partL xs f t).any fun m => m != 0) := by unfold blankFieldB; rw [h]; rfl
theorem partL_small {xs : List Int} (f t : Int) {n : Nat} (h : xs.length ≤ n) : (partL xs f t).length ≤ n := by unfold partL; simp; omega
def partOfL (xs : List Int) (f t : Int) : List Int := if fieldI xs f t == 0 then partL xs f t else []
theorem partOf_no {xs : List Int} {f t : Int} (h : (fieldI xs f t == 0) = false) : partOfL xs f t = [] := by unfold partOfL; rw [h]; rfl
theorem partOf_yes {xs : List Int} {f t : Int} (h : fieldI xs f t = 0) : partOfL xs f t = partL xs f t := by unfold partOfL; rw [h]; rfl
theorem partOfL_len (xs : List Int) (f t : Int) (h : xs.length ≤ 1048576) : (partOfL xs f t).length ≤ 1048576 := by
  unfold partOfL; split
  · exact partL_small f t h
  · simp
theorem OI.cap {lo hi e c : Nat} {w : World} {a : Option Addr} {xs : List Int} (h : OI lo hi w e a c xs) : xs.length ≤ c := by
  obtain ⟨a', c', hv, _, hc, _⟩ := own_slice h.1
  simp only [Value.slice.injEq] at hv
  omega
end Go.Proofs.YtcbjfgjlhjjpiaaDoor
