/- The walks of the functions that say which items and layouts are valid: what each returns, and that memory has at most new blocks. -/
import Derived.Test.YtmpfnkheohlmiaaGreatDoorQI
import Derived.Deep.RegionWith
namespace Go.Proofs.YtmpfnkheohlmiaaGreatDoor
open Go.RowKit
set_option maxRecDepth 100000
set_option linter.unusedVariables false
set_option linter.unusedSimpArgs false
set_option linter.unnecessarySimpa false

def nameIs (x : Itm) : Bool := isNameL x.name.data.toList
def kindB (x : Itm) : Bool := (x.kind == 1) || ((x.kind == 2) && decide (x.to - x.fr ≤ 12))
/-- is an item valid for cards of so many columns? -/
def itemB (x : Itm) (wd : Int) : Bool := nameIs x && fieldB x.fr x.to wd && kindB x
theorem item_1 {x : Itm} {wd : Int} (h : nameIs x = false) : itemB x wd = false := by unfold itemB; rw [h]; rfl
theorem item_2 {x : Itm} {wd : Int} (h : fieldB x.fr x.to wd = false) : itemB x wd = false := by unfold itemB; rw [h]; simp
theorem item_3 {x : Itm} {wd : Int} (h : nameIs x = true) (h2 : fieldB x.fr x.to wd = true) : itemB x wd = kindB x := by unfold itemB; rw [h, h2]; rfl
theorem itemB_field {x : Itm} {wd : Int} (h : itemB x wd = true) : 0 ≤ x.fr ∧ x.fr < x.to ∧ x.to ≤ wd := by
  unfold itemB at h; simp only [Bool.and_eq_true] at h; exact fieldB_yes h.1.2
/-- have two fields a column in common? -/
def meetB (x y : Itm) : Bool := decide (x.fr < y.to) && decide (y.fr < x.to)
def clashB (x y : Itm) : Bool := decide (x.name = y.name) || meetB x y
def okAt (wd : Int) (xs : List Itm) (k : Nat) : Bool := match xs[k]? with | some x => itemB x wd && !((xs.take k).any (clashB x)) | none => true
def validLayB (wd : Int) (xs : List Itm) : Bool := inB wd 1 20 && decide (xs.length ≤ 12) && (List.range xs.length).all (okAt wd xs)
theorem okAt_bad {wd : Int} {xs : List Itm} {k : Nat} {x : Itm} (h : xs[k]? = some x) (h2 : itemB x wd = false) : okAt wd xs k = false := by unfold okAt; rw [h]; simp [h2]
theorem okAt_is {wd : Int} {xs : List Itm} {k : Nat} {x : Itm} (h : xs[k]? = some x) (h2 : itemB x wd = true) : okAt wd xs k = !((xs.take k).any (clashB x)) := by unfold okAt; rw [h]; simp [h2]
theorem validLay_1 {wd : Int} {xs : List Itm} (h : inB wd 1 20 = false) : validLayB wd xs = false := by unfold validLayB; rw [h]; rfl
theorem validLay_2 {wd : Int} {xs : List Itm} (h : ¬ xs.length ≤ 12) : validLayB wd xs = false := by unfold validLayB; simp [h]
theorem validLay_3 {wd : Int} {xs : List Itm} {k : Nat} (hk : k < xs.length) (h : okAt wd xs k = false) : validLayB wd xs = false := by
  unfold validLayB
  have : (List.range xs.length).all (okAt wd xs) = false := by rw [List.all_eq_false]; exact ⟨k, by simpa using hk, by simp [h]⟩
  rw [this]; simp
theorem validLay_4 {wd : Int} {xs : List Itm} (h : inB wd 1 20 = true) (h2 : (List.range xs.length).all (okAt wd xs) = true) : validLayB wd xs = decide (xs.length ≤ 12) := by unfold validLayB; rw [h, h2]; simp
theorem validLay_is {wd : Int} {xs : List Itm} (h : validLayB wd xs = true) : 1 ≤ wd ∧ wd ≤ 20 ∧ xs.length ≤ 12 ∧ ∀ (k : Nat) (x : Itm), xs[k]? = some x → itemB x wd = true ∧ (xs.take k).any (clashB x) = false := by
  unfold validLayB at h
  simp only [Bool.and_eq_true, decide_eq_true_eq] at h
  have h1 := inB_true.1 h.1.1
  refine ⟨h1.1, h1.2, h.1.2, fun k x hx => ?_⟩
  have := List.all_eq_true.1 h.2 k (by simpa using (List.getElem?_eq_some_iff.1 hx).1)
  unfold okAt at this; rw [hx] at this
  simpa using this
theorem validLay_item {wd : Int} {xs : List Itm} (h : validLayB wd xs = true) {x : Itm} (hx : x ∈ xs) : itemB x wd = true := by
  obtain ⟨k, hk⟩ := List.getElem?_of_mem hx
  exact ((validLay_is h).2.2.2 k x hk).1
theorem range_succ_all {p : Nat → Bool} {k : Nat} (h : (List.range k).all p = true) (hk : p k = true) : (List.range (k + 1)).all p = true := by
  rw [List.range_succ, List.all_append, h]; simp [hk]
set_option maxHeartbeats 400000 in
theorem impl_isItem (x : Itm) (wd : Int) (w : World) (hn : x.name.size ≤ maxLen) (hwd : wd ≤ 20) : Calls Tryz.prog 63 #[.agg #[.string x.name, .int .i64 x.kind, .int .i64 x.fr, .int .i64 x.to], .int .i64 wd] w fun e w' => e = .returned (.bool (itemB x wd)) ∧ Below w.heap.size w w' := by
  have hb1 := Lib.hid (below_alloc (w := w) (.cells #[.string x.name, .int .i64 x.kind, .int .i64 x.fr, .int .i64 x.to] 63))
  cases h1 : nameIs x
  · have hf := Lib.hid (item_1 (wd := wd) h1)
    have h1' : isNameL x.name.data.toList = false := h1
    go_enter Tryz.func63, Tryz.ntmps63
    go_wp2_with (go_at_call 110; ((with_reducible refine (impl_IsName _ hn _).mono ?_); rintro e w' ⟨rfl, rfl⟩))
    go_ret
    exact ⟨ret_bool (by rw [hf.out]), hb1.out⟩
  · have h1' : isNameL x.name.data.toList = true := h1
    cases h2 : fieldB x.fr x.to wd
    · have hf := Lib.hid (item_2 (x := x) h2)
      go_enter Tryz.func63, Tryz.ntmps63
      go_wp2_with (first | (go_at_call 110; ((with_reducible refine (impl_IsName _ hn _).mono ?_); rintro e w' ⟨rfl, rfl⟩)) | (go_at_call 111; ((with_reducible refine (impl_isField _ _ _ _).mono ?_); rintro e w' ⟨rfl, hb⟩)))
      go_ret
      exact ⟨ret_bool (by rw [hf.out]), bthen hb1.out hb⟩
    · obtain ⟨g1, g2, g3⟩ := fieldB_yes h2
      have hf := Lib.hid (item_3 h1 h2)
      obtain ⟨s, k, f, t⟩ := x
      simp only at hb1 h1' h2 g1 g2 g3 hf hn
      have hd : 0 ≤ t - f := by omega
      have hd' : t - f ≤ 20 := by omega
      by_cases e1 : k = 1
      · subst e1
        go_enter Tryz.func63, Tryz.ntmps63
        go_wp2_with (first | (go_at_call 110; ((with_reducible refine (impl_IsName _ hn _).mono ?_); rintro e w' ⟨rfl, rfl⟩)) | (go_at_call 111; ((with_reducible refine (impl_isField _ _ _ _).mono ?_); rintro e w' ⟨rfl, hb⟩; (have hc0 := keep (p := ⟨w.heap.size, 0, none⟩) (v := .string s) hb (by simp [go_sem, *]); have hf0 := keepf (p := ⟨w.heap.size, 0, none⟩) (v := .string s) hb (by simp [go_sem, *]) (by simp [go_sem, *]); have hl0 := World.block_lt_of_cell? _ _ hc0; have hc1 := keep (p := ⟨w.heap.size, 1, none⟩) (v := .int .i64 1) hb (by simp [go_sem, *]); have hf1 := keepf (p := ⟨w.heap.size, 1, none⟩) (v := .int .i64 1) hb (by simp [go_sem, *]) (by simp [go_sem, *]); have hl1 := World.block_lt_of_cell? _ _ hc1; have hc2 := keep (p := ⟨w.heap.size, 2, none⟩) (v := .int .i64 f) hb (by simp [go_sem, *]); have hf2 := keepf (p := ⟨w.heap.size, 2, none⟩) (v := .int .i64 f) hb (by simp [go_sem, *]) (by simp [go_sem, *]); have hl2 := World.block_lt_of_cell? _ _ hc2; have hc3 := keep (p := ⟨w.heap.size, 3, none⟩) (v := .int .i64 t) hb (by simp [go_sem, *]); have hf3 := keepf (p := ⟨w.heap.size, 3, none⟩) (v := .int .i64 t) hb (by simp [go_sem, *]) (by simp [go_sem, *]); have hl3 := World.block_lt_of_cell? _ _ hc3))))
        go_ret
        exact ⟨ret_bool (by rw [hf.out]; rfl), bthen hb1.out hb⟩
      · have e1' : (k == 1) = false := by simpa using e1
        by_cases e2 : k = 2
        · subst e2
          by_cases e3 : t - f ≤ 12
          · go_enter Tryz.func63, Tryz.ntmps63
            go_wp2_with (first | (go_at_call 110; ((with_reducible refine (impl_IsName _ hn _).mono ?_); rintro e w' ⟨rfl, rfl⟩)) | (go_at_call 111; ((with_reducible refine (impl_isField _ _ _ _).mono ?_); rintro e w' ⟨rfl, hb⟩; (have hc0 := keep (p := ⟨w.heap.size, 0, none⟩) (v := .string s) hb (by simp [go_sem, *]); have hf0 := keepf (p := ⟨w.heap.size, 0, none⟩) (v := .string s) hb (by simp [go_sem, *]) (by simp [go_sem, *]); have hl0 := World.block_lt_of_cell? _ _ hc0; have hc1 := keep (p := ⟨w.heap.size, 1, none⟩) (v := .int .i64 2) hb (by simp [go_sem, *]); have hf1 := keepf (p := ⟨w.heap.size, 1, none⟩) (v := .int .i64 2) hb (by simp [go_sem, *]) (by simp [go_sem, *]); have hl1 := World.block_lt_of_cell? _ _ hc1; have hc2 := keep (p := ⟨w.heap.size, 2, none⟩) (v := .int .i64 f) hb (by simp [go_sem, *]); have hf2 := keepf (p := ⟨w.heap.size, 2, none⟩) (v := .int .i64 f) hb (by simp [go_sem, *]) (by simp [go_sem, *]); have hl2 := World.block_lt_of_cell? _ _ hc2; have hc3 := keep (p := ⟨w.heap.size, 3, none⟩) (v := .int .i64 t) hb (by simp [go_sem, *]); have hf3 := keepf (p := ⟨w.heap.size, 3, none⟩) (v := .int .i64 t) hb (by simp [go_sem, *]) (by simp [go_sem, *]); have hl3 := World.block_lt_of_cell? _ _ hc3))))
            go_ret
            exact ⟨ret_bool (by rw [hf.out]; simp [kindB, e3]), bthen hb1.out hb⟩
          · go_enter Tryz.func63, Tryz.ntmps63
            go_wp2_with (first | (go_at_call 110; ((with_reducible refine (impl_IsName _ hn _).mono ?_); rintro e w' ⟨rfl, rfl⟩)) | (go_at_call 111; ((with_reducible refine (impl_isField _ _ _ _).mono ?_); rintro e w' ⟨rfl, hb⟩; (have hc0 := keep (p := ⟨w.heap.size, 0, none⟩) (v := .string s) hb (by simp [go_sem, *]); have hf0 := keepf (p := ⟨w.heap.size, 0, none⟩) (v := .string s) hb (by simp [go_sem, *]) (by simp [go_sem, *]); have hl0 := World.block_lt_of_cell? _ _ hc0; have hc1 := keep (p := ⟨w.heap.size, 1, none⟩) (v := .int .i64 2) hb (by simp [go_sem, *]); have hf1 := keepf (p := ⟨w.heap.size, 1, none⟩) (v := .int .i64 2) hb (by simp [go_sem, *]) (by simp [go_sem, *]); have hl1 := World.block_lt_of_cell? _ _ hc1; have hc2 := keep (p := ⟨w.heap.size, 2, none⟩) (v := .int .i64 f) hb (by simp [go_sem, *]); have hf2 := keepf (p := ⟨w.heap.size, 2, none⟩) (v := .int .i64 f) hb (by simp [go_sem, *]) (by simp [go_sem, *]); have hl2 := World.block_lt_of_cell? _ _ hc2; have hc3 := keep (p := ⟨w.heap.size, 3, none⟩) (v := .int .i64 t) hb (by simp [go_sem, *]); have hf3 := keepf (p := ⟨w.heap.size, 3, none⟩) (v := .int .i64 t) hb (by simp [go_sem, *]) (by simp [go_sem, *]); have hl3 := World.block_lt_of_cell? _ _ hc3))))
            go_ret
            exact ⟨ret_bool (by rw [hf.out]; simp [kindB, e3]), bthen hb1.out hb⟩
        · have e2' : (k == 2) = false := by simpa using e2
          go_enter Tryz.func63, Tryz.ntmps63
          go_wp2_with (first | (go_at_call 110; ((with_reducible refine (impl_IsName _ hn _).mono ?_); rintro e w' ⟨rfl, rfl⟩)) | (go_at_call 111; ((with_reducible refine (impl_isField _ _ _ _).mono ?_); rintro e w' ⟨rfl, hb⟩; (have hc0 := keep (p := ⟨w.heap.size, 0, none⟩) (v := .string s) hb (by simp [go_sem, *]); have hf0 := keepf (p := ⟨w.heap.size, 0, none⟩) (v := .string s) hb (by simp [go_sem, *]) (by simp [go_sem, *]); have hl0 := World.block_lt_of_cell? _ _ hc0; have hc1 := keep (p := ⟨w.heap.size, 1, none⟩) (v := .int .i64 k) hb (by simp [go_sem, *]); have hf1 := keepf (p := ⟨w.heap.size, 1, none⟩) (v := .int .i64 k) hb (by simp [go_sem, *]) (by simp [go_sem, *]); have hl1 := World.block_lt_of_cell? _ _ hc1; have hc2 := keep (p := ⟨w.heap.size, 2, none⟩) (v := .int .i64 f) hb (by simp [go_sem, *]); have hf2 := keepf (p := ⟨w.heap.size, 2, none⟩) (v := .int .i64 f) hb (by simp [go_sem, *]) (by simp [go_sem, *]); have hl2 := World.block_lt_of_cell? _ _ hc2; have hc3 := keep (p := ⟨w.heap.size, 3, none⟩) (v := .int .i64 t) hb (by simp [go_sem, *]); have hf3 := keepf (p := ⟨w.heap.size, 3, none⟩) (v := .int .i64 t) hb (by simp [go_sem, *]) (by simp [go_sem, *]); have hl3 := World.block_lt_of_cell? _ _ hc3))))
          go_ret
          exact ⟨ret_bool (by rw [hf.out]; simp [kindB, e1, e2]), bthen hb1.out hb⟩
set_option maxHeartbeats 400000 in
theorem spec_l04Item (b o : Nat) (x : Itm) (wd : Int) (w : World) (hn : x.name.size ≤ maxLen) (hwd : wd ≤ 20) (hc0 : w.cell? ⟨b, o, none⟩ = some (.string x.name)) (hc1 : w.cell? ⟨b, o + 1, none⟩ = some (.int .i64 x.kind)) (hc2 : w.cell? ⟨b, o + 2, none⟩ = some (.int .i64 x.fr)) (hc3 : w.cell? ⟨b, o + 3, none⟩ = some (.int .i64 x.to)) :
    Calls Tryz.prog 83 #[.pointer (some ⟨b, o, none⟩), .int .i64 wd] w fun e w' => e = .returned (.bool (itemB x wd)) ∧ Below w.heap.size w w' := by
  obtain ⟨s, k, f, t⟩ := x
  simp only at hn hc0 hc1 hc2 hc3
  cases h1 : nameIs ⟨s, k, f, t⟩
  · have hf := Lib.hid (item_1 (wd := wd) h1)
    have h1' : isNameL s.data.toList = false := h1
    go_enter Tryz.func83, Tryz.ntmps83
    go_wp2_with (go_at_call 118; ((with_reducible refine (spec_IsName _ hn _).mono ?_); rintro e w' ⟨rfl, rfl⟩))
    go_ret
    exact ⟨ret_bool (by rw [hf.out]), Below.refl _ _⟩
  · have h1' : isNameL s.data.toList = true := h1
    cases hk : inB k 1 2
    · have hf := Lib.hid (show itemB ⟨s, k, f, t⟩ wd = false by
        have := inB_false.1 hk
        have e1 : (k == 1) = false := by simp; omega
        have e2 : (k == 2) = false := by simp; omega
        unfold itemB kindB; simp only [e1, e2]; simp)
      go_enter Tryz.func83, Tryz.ntmps83
      go_wp2_with (first | (go_at_call 118; ((with_reducible refine (spec_IsName _ hn _).mono ?_); rintro e w' ⟨rfl, rfl⟩)) | (go_at_call 82; ((with_reducible refine (spec_l00In _ _ _ _).mono ?_); rintro e w' ⟨rfl, rfl⟩)))
      go_ret
      exact ⟨ret_bool (by rw [hf.out]), Below.refl _ _⟩
    · cases h2 : fieldB f t wd
      · have hf := Lib.hid (item_2 (x := ⟨s, k, f, t⟩) h2)
        go_enter Tryz.func83, Tryz.ntmps83
        go_wp2_with (first | (go_at_call 118; ((with_reducible refine (spec_IsName _ hn _).mono ?_); rintro e w' ⟨rfl, rfl⟩)) | (go_at_call 82; ((with_reducible refine (spec_l00In _ _ _ _).mono ?_); rintro e w' ⟨rfl, rfl⟩)) | (go_at_call 119; ((with_reducible refine (spec_l02Field _ _ _ _).mono ?_); rintro e w' ⟨rfl, hb⟩)))
        go_ret
        exact ⟨ret_bool (by rw [hf.out]), hb⟩
      · obtain ⟨g1, g2, g3⟩ := fieldB_yes h2
        have hf := Lib.hid (item_3 h1 h2)
        have hd : 0 ≤ t - f := by omega
        have hd' : t - f ≤ 20 := by omega
        have hk' := inB_true.1 hk
        by_cases e1 : k = 1
        · subst e1
          clear hk'
          go_enter Tryz.func83, Tryz.ntmps83
          go_wp2_with (first | (go_at_call 118; ((with_reducible refine (spec_IsName _ hn _).mono ?_); rintro e w' ⟨rfl, rfl⟩)) | (go_at_call 82; ((with_reducible refine (spec_l00In _ _ _ _).mono ?_); rintro e w' ⟨rfl, rfl⟩)) | (go_at_call 119; ((with_reducible refine (spec_l02Field _ _ _ _).mono ?_); rintro e w' ⟨rfl, hb⟩; have hd0 := keep hb hc0; have hd1 := keep hb hc1; have hd2 := keep hb hc2; have hd3 := keep hb hc3)))
          first | go_quiet (fail) | fail
          go_wp2_with fail
          go_ret
          exact ⟨ret_bool (by rw [hf.out]; rfl), below_drewN hb _⟩
        · have e2 : k = 2 := by omega
          subst e2
          clear hk' e1
          by_cases e3 : t - f ≤ 12
          · go_enter Tryz.func83, Tryz.ntmps83
            go_wp2_with (first | (go_at_call 118; ((with_reducible refine (spec_IsName _ hn _).mono ?_); rintro e w' ⟨rfl, rfl⟩)) | (go_at_call 82; ((with_reducible refine (spec_l00In _ _ _ _).mono ?_); rintro e w' ⟨rfl, rfl⟩)) | (go_at_call 119; ((with_reducible refine (spec_l02Field _ _ _ _).mono ?_); rintro e w' ⟨rfl, hb⟩; have hd0 := keep hb hc0; have hd1 := keep hb hc1; have hd2 := keep hb hc2; have hd3 := keep hb hc3)))
            first | go_quiet (fail) | fail
            go_wp2_with fail
            go_ret
            exact ⟨ret_bool (by rw [hf.out]; simp [kindB, e3]), below_drewN hb _⟩
          · go_enter Tryz.func83, Tryz.ntmps83
            go_wp2_with (first | (go_at_call 118; ((with_reducible refine (spec_IsName _ hn _).mono ?_); rintro e w' ⟨rfl, rfl⟩)) | (go_at_call 82; ((with_reducible refine (spec_l00In _ _ _ _).mono ?_); rintro e w' ⟨rfl, rfl⟩)) | (go_at_call 119; ((with_reducible refine (spec_l02Field _ _ _ _).mono ?_); rintro e w' ⟨rfl, hb⟩; have hd0 := keep hb hc0; have hd1 := keep hb hc1; have hd2 := keep hb hc2; have hd3 := keep hb hc3)))
            first | go_quiet (fail) | fail
            go_wp2_with fail
            go_ret
            exact ⟨ret_bool (by rw [hf.out]; simp [kindB, e3]), below_drewN hb _⟩
theorem impl_meet (f t f' t' : Int) (w : World) (h1 : f < t) (h2 : f' < t') : Calls Tryz.prog 66 #[.agg #[.int .i64 f, .int .i64 t], .agg #[.int .i64 f', .int .i64 t']] w fun e w' => e = .returned (.bool (decide (f < t') && decide (f' < t))) ∧ Below w.heap.size w w' := by
  have hb2 := Lib.hid (below_alloc2 w (.cells #[.int .i64 f, .int .i64 t] 61) (.cells #[.int .i64 f', .int .i64 t'] 61))
  go_enter Tryz.func66, Tryz.ntmps66
  go_wp2_with fail
  go_ret
  refine ⟨ret_bool ?_, hb2.out⟩
  rw [Bool.eq_iff_iff]
  simp only [decide_eq_true_eq, Bool.and_eq_true]
  omega
theorem spec_l04Meet (f t f' t' : Int) (w : World) : Calls Tryz.prog 84 #[.agg #[.int .i64 f, .int .i64 t], .agg #[.int .i64 f', .int .i64 t']] w fun e w' => e = .returned (.bool (decide (f < t') && decide (f' < t))) ∧ Below w.heap.size w w' := by
  have hb2 := Lib.hid (below_alloc2 w (.cells #[.int .i64 f, .int .i64 t] 61) (.cells #[.int .i64 f', .int .i64 t'] 61))
  by_cases h : f < t'
  · go_enter Tryz.func84, Tryz.ntmps84
    go_wp2_with fail
    go_ret
    exact ⟨ret_bool (by simp [h]), hb2.out⟩
  · go_enter Tryz.func84, Tryz.ntmps84
    go_wp2_with fail
    go_ret
    exact ⟨ret_bool (by rw [decide_eq_false (p := f < t') (by omega)]; rfl), hb2.out⟩
set_option maxHeartbeats 400000 in
theorem slices_IndexFunc_items (g : Nat) (lb : Array Value) (p : Itm → Bool) (a : Option Addr) (c : Nat) (xs : List Itm) (w : World) (hx : RT w a xs) (hn : xs.length ≤ maxLen)
    (eg : ∀ args w, (callFunc g args).run Tryz.prog w = .ok (.enter g args) w)
    (hg : ∀ x, x ∈ xs → ∀ W, Below w.heap.size w W → Calls Tryz.prog g (#[.agg #[.string x.name, .int .i64 x.kind, .int .i64 x.fr, .int .i64 x.to]] ++ lb) W fun e w' => e = .returned (.bool (p x)) ∧ Below W.heap.size W w') :
    Calls Tryz.prog 107 #[.slice a xs.length c, .func (.func g) #[] lb] w fun e w' => e = .returned (.int .i64 (firstB p xs)) ∧ Below w.heap.size w w' := by
  unfold maxLen at hn
  generalize hN : xs.length = n at *
  have hN' := Lib.hid hN
  clear hN
  have HG := Lib.hid hg
  clear hg
  go_enter Tryz.func107, Tryz.ntmps107
  go_wp2_with fail
  go_loopw [8] (fun i wr => ∃ k : Nat, k ≤ n ∧ i = .int .i64 k ∧ Hid ((xs.take k).all (fun x => !p x) = true) ∧ Below w.heap.size w wr) (fun i _ => n - (intOf i).toNat)
  case atStart => exact ⟨0, by omega, rfl, by simp [Hid], Below.refl _ _⟩
  case round =>
    obtain ⟨k, hk, rfl, hall, hb⟩ := hrel
    by_cases hlt : k < n
    · obtain ⟨x, hxk⟩ := get_some (l := xs) (k := k) (by rw [hN'.out]; exact hlt)
      obtain ⟨b1, o1, rfl, hc0, hc1, hc2, hc3⟩ := (hx.kept hb).at hxk
      have hxk' := Lib.hid hxk
      clear hxk
      go_wp2_with fail
      refine (HG.out x (List.mem_of_getElem? hxk'.out) _ hb).mono ?_
      rintro e w' ⟨rfl, hb'⟩
      have hb2 := bthen hb hb'
      clear hb'
      go_wp2_with fail
      · go_ret
        exact ⟨ret_int (firstB_hit hxk'.out hall.out (by assumption)).symm, hb2⟩
      · go_roundw
        case rel => exact ⟨k + 1, by omega, by go_num, all_succ hxk'.out hall.out (by simp_all), hb2⟩
        case measure => simp [intOf]; omega
    · go_wp2_with fail
      go_ret
      exact ⟨ret_int (firstB_none (by rw [hN'.out]; omega) hall.out).symm, hb⟩
theorem slices_ContainsFunc_items (g : Nat) (lb : Array Value) (p : Itm → Bool) (a : Option Addr) (c : Nat) (xs : List Itm) (w : World) (hx : RT w a xs) (hn : xs.length ≤ maxLen)
    (eg : ∀ args w, (callFunc g args).run Tryz.prog w = .ok (.enter g args) w)
    (hg : ∀ x, x ∈ xs → ∀ W, Below w.heap.size w W → Calls Tryz.prog g (#[.agg #[.string x.name, .int .i64 x.kind, .int .i64 x.fr, .int .i64 x.to]] ++ lb) W fun e w' => e = .returned (.bool (p x)) ∧ Below W.heap.size W w') :
    Calls Tryz.prog 64 #[.slice a xs.length c, .func (.func g) #[] lb] w fun e w' => e = .returned (.bool (xs.any p)) ∧ Below w.heap.size w w' := by
  have hc := Lib.hid (slices_IndexFunc_items g lb p a c xs w hx hn eg hg)
  have hp := Lib.hid (firstB_ge p xs).2.2
  clear hg eg
  go_enter Tryz.func64, Tryz.ntmps64
  go_wp2_with (go_at_call 107; ((with_reducible refine hc.out.mono ?_); rintro e w' ⟨rfl, hb⟩))
  go_ret
  exact ⟨ret_bool (by rw [← hp.out]), hb⟩
theorem RT.take {w : World} {a : Option Addr} {xs : List Itm} (h : RT w a xs) (k : Nat) : RT w a (xs.take k) := by
  intro j v hj
  refine h j v ?_
  have hl := (List.getElem?_eq_some_iff.1 hj).1
  rw [itemsV_length] at hl
  have : itemsV xs = itemsV (xs.take k) ++ itemsV (xs.drop k) := by rw [← itemsV_append, List.take_append_drop]
  rw [this, List.getElem?_append_left (by rw [itemsV_length]; exact hl)]
  exact hj
theorem clash_1 {x y : Itm} (h : x.name = y.name) : clashB x y = true := by unfold clashB; simp [h]
theorem clash_2 {x y : Itm} (h : ¬ x.name = y.name) : clashB x y = (decide (x.fr < y.to) && decide (y.fr < x.to)) := by unfold clashB meetB; simp [h]
theorem names_ne {s t : ByteArray} (h : ¬ s = t) : (s.toList == t.toList) = false := by
  rw [beq_eq_false_iff_ne]; intro e
  exact h (ByteArray.ext (Array.toList_inj.1 (by rwa [toList_eq, toList_eq] at e)))
theorem impl_ValidLayout_1 (B : Nat) (x y : Itm) (w : World) (h1 : x.fr < x.to) (h2 : y.fr < y.to) (hc0 : w.cell? ⟨B, 0, none⟩ = some (.string x.name)) (hc1 : w.cell? ⟨B, 1, none⟩ = some (.int .i64 x.kind)) (hc2 : w.cell? ⟨B, 2, none⟩ = some (.int .i64 x.fr)) (hc3 : w.cell? ⟨B, 3, none⟩ = some (.int .i64 x.to)) :
    Calls Tryz.prog 65 #[.agg #[.string y.name, .int .i64 y.kind, .int .i64 y.fr, .int .i64 y.to], .pointer (some ⟨B, 0, none⟩)] w fun e w' => e = .returned (.bool (clashB x y)) ∧ Below w.heap.size w w' := by
  obtain ⟨s, k, f, t⟩ := x
  obtain ⟨s', k', f', t'⟩ := y
  simp only at hc0 hc1 hc2 hc3 h1 h2
  have hl : B < w.heap.size := World.block_lt_of_cell? _ _ hc0
  have hb1 := Lib.hid (below_alloc (w := w) (.cells #[.string s', .int .i64 k', .int .i64 f', .int .i64 t'] 63))
  by_cases hs : s = s'
  · have hf := Lib.hid (clash_1 (x := ⟨s, k, f, t⟩) (y := ⟨s', k', f', t'⟩) hs)
    subst hs
    go_enter Tryz.func65, Tryz.ntmps65
    go_wp2_with fail
    go_ret
    exact ⟨ret_bool (by rw [hf.out]), hb1.out⟩
  · have hf := Lib.hid (clash_2 (x := ⟨s, k, f, t⟩) (y := ⟨s', k', f', t'⟩) hs)
    have hne := names_ne hs
    clear hs
    go_enter Tryz.func65, Tryz.ntmps65
    go_wp2_with (go_at_call 66; ((with_reducible refine (impl_meet _ _ _ _ _ h1 h2).mono ?_); rintro e w' ⟨rfl, hb⟩))
    go_ret
    exact ⟨ret_bool (by rw [hf.out]), bthen hb1.out hb⟩
theorem range_item {wd : Int} {xs : List Itm} {k : Nat} (h : (List.range k).all (okAt wd xs) = true) {y : Itm} (hy : y ∈ xs.take k) : itemB y wd = true := by
  obtain ⟨i, hi⟩ := List.getElem?_of_mem hy
  have hik : i < k := by have := (List.getElem?_eq_some_iff.1 hi).1; rw [List.length_take] at this; omega
  have hx : xs[i]? = some y := by rw [List.getElem?_take, if_pos hik] at hi; exact hi
  have := List.all_eq_true.1 h i (by simpa using hik)
  unfold okAt at this; rw [hx] at this
  simp only [Bool.and_eq_true] at this
  exact this.1
set_option maxHeartbeats 1000000 in
theorem impl_ValidLayout (wd : Int) (a : Option Addr) (c : Nat) (xs : List Itm) (w : World) (hx : RT w a xs) (hn : itemsSz xs ≤ 1048576) (hcap : xs.length ≤ c) :
    Calls Tryz.prog 25 #[.agg #[.int .i64 wd, .slice a xs.length c]] w fun e w' => e = .returned (.bool (validLayB wd xs)) ∧ Below w.heap.size w w' := by
  have hb1 := Lib.hid (below_alloc (w := w) (.cells #[.int .i64 wd, .slice a xs.length c] 26))
  have hdl := itemsSz_len xs
  have hnm := Lib.hid (fun (k : Nat) (x : Itm) (h : xs[k]? = some x) => (show x.name.size ≤ maxLen by have := itemsSz_at h; unfold maxLen; omega))
  cases h1 : inB wd 1 20
  · have hf := Lib.hid (validLay_1 (xs := xs) h1)
    go_enter Tryz.func25, Tryz.ntmps25
    go_wp2_with (go_at_call 62; ((with_reducible refine (impl_inside _ _ _ _).mono ?_); rintro e w' ⟨rfl, rfl⟩))
    go_ret
    exact ⟨ret_bool (by rw [hf.out]), hb1.out⟩
  · have hw := inB_true.1 h1
    by_cases h2 : xs.length ≤ 12
    · have eg := Go.Proofs.enters_of Tryz.func65 (by kernel_rfl) rfl
      have hbad := Lib.hid (fun (k : Nat) (hk : k < xs.length) (h : okAt wd xs k = false) => validLay_3 hk h)
      have hend := Lib.hid (fun (h : (List.range xs.length).all (okAt wd xs) = true) => (validLay_4 h1 h).trans (decide_eq_true h2))
      have hca : (w.alloc (.cells #[.int .i64 wd, .slice a xs.length c] 26)).cell? ⟨w.heap.size, 0, none⟩ = some (.int .i64 wd) := by simp [go_sem]
      have hcb : (w.alloc (.cells #[.int .i64 wd, .slice a xs.length c] 26)).cell? ⟨w.heap.size, 1, none⟩ = some (.slice a xs.length c) := by simp [go_sem]
      have hx2 := hx.kept hb1.out
      generalize hN : xs.length = n at *
      have hN' := Lib.hid hN
      clear hN
      go_enter Tryz.func25, Tryz.ntmps25
      go_wp2_with (go_at_call 62; ((with_reducible refine (impl_inside _ _ _ _).mono ?_); rintro e w' ⟨rfl, rfl⟩))
      generalize hW : (w.alloc (.cells #[.int .i64 wd, .slice a n c] 26)) = W0 at *
      clear hW
      go_loopw [18] (fun i wr => ∃ k : Nat, k ≤ n ∧ i = .int .i64 k ∧ Hid ((List.range k).all (okAt wd xs) = true) ∧ Below W0.heap.size W0 wr) (fun i _ => n - (intOf i).toNat)
      case atStart => exact ⟨0, by omega, rfl, Lib.hid rfl, Below.refl _ _⟩
      case round =>
        obtain ⟨k, hk, rfl, hall, hb⟩ := hrel
        have hcar := keep hb hca
        have hcbr := keep hb hcb
        have hlr : w.heap.size < wr.heap.size := World.block_lt_of_cell? _ _ hcar
        by_cases hlt : k < n
        · obtain ⟨x, hxk⟩ := get_some (l := xs) (k := k) (by rw [hN'.out]; exact hlt)
          obtain ⟨b1, o1, rfl, hc0, hc1, hc2, hc3⟩ := (hx2.kept hb).at hxk
          have hns := hnm.out k x hxk
          have hba := below_alloc (w := wr) (.cells #[.string x.name, .int .i64 x.kind, .int .i64 x.fr, .int .i64 x.to] 63)
          have hB := Lib.hid (bthen hb hba)
          have hcbw := Lib.hid (keep hba hcbr)
          have hkc : k ≤ c := by omega
          have hkc' : (k : Int) ≤ c := by omega
          have hxk' := Lib.hid hxk
          clear hxk hba
          cases hit : itemB x wd
          · have hf := Lib.hid (hbad.out k hlt (okAt_bad hxk'.out hit))
            go_wp2_with (go_at_call 63; ((with_reducible refine (impl_isItem _ _ _ hns hw.2).mono ?_); rintro e w' ⟨rfl, hb⟩))
            go_ret
            exact ⟨ret_bool (by rw [hf.out]), bthen hb1.out (bthen hB.out hb)⟩
          · obtain ⟨g1, g2, g3⟩ := itemB_field hit
            have hok := Lib.hid (okAt_is hxk'.out hit)
            go_wp2_with fail
            refine (impl_isItem x wd _ hns hw.2).mono ?_
            rintro e w2 ⟨rfl, hb2⟩
            have hd0 := keep hb2 hcbw.out
            (have hc0 := keep (p := ⟨wr.heap.size, 0, none⟩) (v := .string x.name) hb2 (by simp [go_sem, *]); have hf0 := keepf (p := ⟨wr.heap.size, 0, none⟩) (v := .string x.name) hb2 (by simp [go_sem, *]) (by simp [go_sem, *]); have hl0 := World.block_lt_of_cell? _ _ hc0; have hc1 := keep (p := ⟨wr.heap.size, 1, none⟩) (v := .int .i64 x.kind) hb2 (by simp [go_sem, *]); have hf1 := keepf (p := ⟨wr.heap.size, 1, none⟩) (v := .int .i64 x.kind) hb2 (by simp [go_sem, *]) (by simp [go_sem, *]); have hl1 := World.block_lt_of_cell? _ _ hc1; have hc2 := keep (p := ⟨wr.heap.size, 2, none⟩) (v := .int .i64 x.fr) hb2 (by simp [go_sem, *]); have hf2 := keepf (p := ⟨wr.heap.size, 2, none⟩) (v := .int .i64 x.fr) hb2 (by simp [go_sem, *]) (by simp [go_sem, *]); have hl2 := World.block_lt_of_cell? _ _ hc2; have hc3 := keep (p := ⟨wr.heap.size, 3, none⟩) (v := .int .i64 x.to) hb2 (by simp [go_sem, *]); have hf3 := keepf (p := ⟨wr.heap.size, 3, none⟩) (v := .int .i64 x.to) hb2 (by simp [go_sem, *]) (by simp [go_sem, *]); have hl3 := World.block_lt_of_cell? _ _ hc3)
            have hB2 := Lib.hid (bthen hB.out hb2)
            have hlk : (xs.take k).length = k := by rw [List.length_take, hN'.out]; omega
            have hcf := Lib.hid (slices_ContainsFunc_items 65 #[.pointer (some ⟨wr.heap.size, 0, none⟩)] (clashB x) (some ⟨b1, o1, none⟩) c (xs.take k) w2 ((hx2.kept hB2.out).take k) (by rw [hlk]; unfold maxLen; omega) eg
              (fun y hy W hbW => impl_ValidLayout_1 wr.heap.size x y W g2 (itemB_field (range_item hall.out hy)).2.1 (keep hbW hc0) (keep hbW hc1) (keep hbW hc2) (keep hbW hc3)))
            rw [hlk] at hcf
            have hcf' := Lib.hid hcf.out
            clear hcf hlk hb2
            cases hcl : (xs.take k).any (clashB x)
            · rw [hcl] at hcf'
              have hcf2 := Lib.hid hcf'.out
              have hnext := Lib.hid (range_succ_all hall.out (hok.out.trans (by rw [hcl]; rfl)))
              clear hcf' hcl
              go_wp2_with (go_at_call 64; ((with_reducible refine hcf2.out.mono ?_); rintro e w' ⟨rfl, hb3⟩))
              go_roundw
              case rel => exact ⟨k + 1, by omega, by go_num, hnext, bthen hB2.out hb3⟩
              case measure => simp [intOf]; omega
            · rw [hcl] at hcf'
              have hcf2 := Lib.hid hcf'.out
              have hf := Lib.hid (hbad.out k hlt (hok.out.trans (by rw [hcl]; rfl)))
              clear hcf' hcl
              go_wp2_with (go_at_call 64; ((with_reducible refine hcf2.out.mono ?_); rintro e w' ⟨rfl, hb3⟩))
              go_ret
              exact ⟨ret_bool (by rw [hf.out]), bthen hb1.out (bthen hB2.out hb3)⟩
        · obtain rfl : k = n := by omega
          have hf := Lib.hid (hend.out hall.out)
          go_wp2_with fail
          go_ret
          exact ⟨ret_bool (by rw [hf.out]), bthen hb1.out hb⟩
    · have hf := Lib.hid (validLay_2 (wd := wd) h2)
      have h2' : (12 : Int) < (xs.length : Int) := by omega
      have h2'' : (xs.length : Int) ≤ 1048576 := by omega
      go_enter Tryz.func25, Tryz.ntmps25
      go_wp2_with (go_at_call 62; ((with_reducible refine (impl_inside _ _ _ _).mono ?_); rintro e w' ⟨rfl, rfl⟩))
      go_ret
      exact ⟨ret_bool (by rw [hf.out]), hb1.out⟩
theorem any_succ {α : Type} {l : List α} {p : α → Bool} {k : Nat} {x : α} (h : l[k]? = some x) (hk : (l.take k).any p = false) (hp : p x = false) : (l.take (k + 1)).any p = false := by
  rw [List.take_add_one, h, List.any_append, hk]; simp [hp]
theorem any_hit {α : Type} {l : List α} {p : α → Bool} {j k : Nat} {x : α} (h : l[j]? = some x) (hj : j < k) (hp : p x = true) : (l.take k).any p = true := by
  rw [List.any_eq_true]; exact ⟨x, List.mem_of_getElem? (by rw [List.getElem?_take, if_pos hj]; exact h), hp⟩
theorem clash_3 {x y : Itm} (h : ¬ y.name = x.name) : clashB x y = (decide (y.fr < x.to) && decide (x.fr < y.to)) := by rw [clash_2 (fun e => h e.symm), Bool.and_comm]
theorem names_eq {s t : ByteArray} (h : s = t) : (s.toList == t.toList) = true := by subst h; simp
set_option maxHeartbeats 2000000 in
theorem spec_l04Ok (B : Nat) (wd : Int) (a : Option Addr) (c : Nat) (xs : List Itm) (w : World) (hca : w.cell? ⟨B, 0, none⟩ = some (.int .i64 wd)) (hcb : w.cell? ⟨B, 1, none⟩ = some (.slice a xs.length c)) (hx : RT w a xs) (hn : itemsSz xs ≤ 1048576) :
    Calls Tryz.prog 34 #[.pointer (some ⟨B, 0, none⟩)] w fun e w' => e = .returned (.bool (validLayB wd xs)) ∧ Below w.heap.size w w' := by
  have hdl := itemsSz_len xs
  have hnm := Lib.hid (fun (k : Nat) (x : Itm) (h : xs[k]? = some x) => (show x.name.size ≤ maxLen by have := itemsSz_at h; unfold maxLen; omega))
  cases h1 : inB wd 1 20
  · have hf := Lib.hid (validLay_1 (xs := xs) h1)
    go_enter Tryz.func34, Tryz.ntmps34
    go_wp2_with (go_at_call 82; ((with_reducible refine (spec_l00In _ _ _ _).mono ?_); rintro e w' ⟨rfl, rfl⟩))
    go_ret
    exact ⟨ret_bool (by rw [hf.out]), Below.refl _ _⟩
  · have hw := inB_true.1 h1
    have hbad := Lib.hid (fun (k : Nat) (hk : k < xs.length) (h : okAt wd xs k = false) => validLay_3 hk h)
    have hend := Lib.hid (fun (h : (List.range xs.length).all (okAt wd xs) = true) => (validLay_4 h1 h))
    generalize hN : xs.length = n at *
    have hN' := Lib.hid hN
    clear hN
    go_enter Tryz.func34, Tryz.ntmps34
    go_wp2_with (go_at_call 82; ((with_reducible refine (spec_l00In _ _ _ _).mono ?_); rintro e w' ⟨rfl, rfl⟩))
    go_loopw [3] (fun i wr => ∃ k : Nat, k ≤ n ∧ i = .int .i64 k ∧ Hid ((List.range k).all (okAt wd xs) = true) ∧ Below w.heap.size w wr) (fun i _ => n - (intOf i).toNat)
    case atStart => exact ⟨0, by omega, rfl, Lib.hid rfl, Below.refl _ _⟩
    case round =>
      obtain ⟨k, hk, rfl, hall, hb⟩ := hrel
      have hcar := keep hb hca
      have hcbr := keep hb hcb
      obtain ⟨wo, rfl⟩ : ∃ wo : World, wo = wr := ⟨_, rfl⟩
      by_cases hlt : k < n
      · obtain ⟨x, hxk⟩ := get_some (l := xs) (k := k) (by rw [hN'.out]; exact hlt)
        obtain ⟨b1, o1, rfl, hc0, hc1, hc2, hc3⟩ := (hx.kept hb).at hxk
        have hns := hnm.out k x hxk
        have hxk' := Lib.hid hxk
        clear hxk
        cases hit : itemB x wd
        · have hf := Lib.hid (hbad.out k hlt (okAt_bad hxk'.out hit))
          go_wp2_with fail
          (first | go_region_held3 (fun W => Below wo.heap.size wo W ∧ W.cell? ⟨B, 0, none⟩ = some (.int .i64 wd) ∧ W.cell? ⟨B, 1, none⟩ = some (.slice (some ⟨b1, o1, none⟩) n c)) (first | exact held2 (below_drewN (Below.refl _ _) 1) hcar hcbr | (rename Below wo.heap.size wo _ ∧ _ => hH; refine held2 ?_ hcar hcbr; (refine bthen hH.1 ?_; assumption))) (first | (go_at_call 83; ((with_reducible refine (spec_l04Item b1 (o1 + k * 4) x wd _ hns hw.2 (keep (And.left ‹Below wo.heap.size wo _ ∧ _›) hc0) (keep (And.left ‹Below wo.heap.size wo _ ∧ _›) hc1) (keep (And.left ‹Below wo.heap.size wo _ ∧ _›) hc2) (keep (And.left ‹Below wo.heap.size wo _ ∧ _›) hc3)).mono ?_); rintro e wq0 ⟨rfl, hbq⟩))) | fail)
          all_goals
            have hHb := And.left ‹Below wo.heap.size wo _ ∧ _›
            go_wp2_with fail
            go_ret
            exact ⟨ret_bool (by rw [hf.out]), bthen hb hHb⟩
        · have hok := Lib.hid (okAt_is hxk'.out hit)
          go_wp2_with fail
          (first | go_region_held3 (fun W => Below wo.heap.size wo W ∧ W.cell? ⟨B, 0, none⟩ = some (.int .i64 wd) ∧ W.cell? ⟨B, 1, none⟩ = some (.slice (some ⟨b1, o1, none⟩) n c)) (first | exact held2 (below_drewN (Below.refl _ _) 1) hcar hcbr | (rename Below wo.heap.size wo _ ∧ _ => hH; refine held2 ?_ hcar hcbr; (refine bthen hH.1 ?_; assumption))) (first | (go_at_call 83; ((with_reducible refine (spec_l04Item b1 (o1 + k * 4) x wd _ hns hw.2 (keep (And.left ‹Below wo.heap.size wo _ ∧ _›) hc0) (keep (And.left ‹Below wo.heap.size wo _ ∧ _›) hc1) (keep (And.left ‹Below wo.heap.size wo _ ∧ _›) hc2) (keep (And.left ‹Below wo.heap.size wo _ ∧ _›) hc3)).mono ?_); rintro e wq0 ⟨rfl, hbq⟩))) | fail)
          have hHb := And.left ‹Below wo.heap.size wo _ ∧ _›
          have hcaq := keep hHb hcar
          have hcbq := keep hHb hcbr
          have hBq := Lib.hid (bthen hb hHb)
          have hxq := Lib.hid ((hx.kept hb).kept hHb)
          go_wp2_with fail
          go_loopw [4] (fun q wx => ∃ j : Nat, j ≤ k ∧ q = .int .i64 j ∧ Hid ((xs.take j).any (clashB x) = false) ∧ Below wq0.heap.size wq0 wx) (fun q _ => k - (intOf q).toNat)
          case atStart => exact ⟨0, by omega, rfl, Lib.hid rfl, Below.refl _ _⟩
          case round =>
            obtain ⟨j, hj, rfl, hany, hbx⟩ := hrel
            by_cases hlj : j < k
            · obtain ⟨y, hyj⟩ := get_some (l := xs) (k := j) (by rw [hN'.out]; omega)
              obtain ⟨hd0, hd1, hd2, hd3⟩ := (hxq.out.kept hbx).off hyj
              obtain ⟨he0, he1, he2, he3⟩ := (hxq.out.kept hbx).off hxk'.out
              have hcax := keep hbx hcaq
              have hcbx := keep hbx hcbq
              have hyj' := Lib.hid hyj
              have hjn : j < n := by omega
              have hlj' : (j : Int) < (k : Int) := by omega
              clear hyj
              by_cases hs : y.name = x.name
              · have hne := names_eq hs
                have hf := Lib.hid (hbad.out k hlt (hok.out.trans (by rw [any_hit hyj'.out hlj (clash_1 hs.symm)]; rfl)))
                clear hs
                go_wp2_with fail
                first | go_quiet (fail) | fail
                go_wp2_with fail
                go_ret
                exact ⟨ret_bool (by rw [hf.out]), below_drewN (bthen hBq.out hbx) _⟩
              · have hne := names_ne hs
                have hcl := Lib.hid (clash_3 hs)
                clear hs
                cases hm : clashB x y
                · have hm' : (decide (y.fr < x.to) && decide (x.fr < y.to)) = false := hcl.out.symm.trans hm
                  have hnx := Lib.hid (any_succ hyj'.out hany.out hm)
                  have hmt := Lib.hid (fun W => by have := spec_l04Meet y.fr y.to x.fr x.to W; rw [hm'] at this; exact this)
                  clear hm' hm
                  go_wp2_with fail
                  (first | go_region_held3 (fun W => Below wr.heap.size wr W ∧ W.cell? ⟨B, 1, none⟩ = some (.slice (some ⟨b1, o1, none⟩) n c) ∧ W.cell? ⟨b1, o1 + j * 4, none⟩ = some (.string y.name) ∧ W.cell? ⟨b1, o1 + j * 4 + 2, none⟩ = some (.int .i64 y.fr) ∧ W.cell? ⟨b1, o1 + j * 4 + 3, none⟩ = some (.int .i64 y.to) ∧ W.cell? ⟨b1, o1 + k * 4, none⟩ = some (.string x.name) ∧ W.cell? ⟨b1, o1 + k * 4 + 2, none⟩ = some (.int .i64 x.fr) ∧ W.cell? ⟨b1, o1 + k * 4 + 3, none⟩ = some (.int .i64 x.to)) (first | exact held7 (below_drewN (Below.refl _ _) 1) hcbx hd0 hd2 hd3 he0 he2 he3 | (rename Below wr.heap.size wr _ ∧ _ => hH; refine held7 ?_ hcbx hd0 hd2 hd3 he0 he2 he3; (refine bthen hH.1 ?_; assumption))) (first | (go_at_call 84; ((with_reducible refine (hmt.out _).mono ?_); rintro e wq0 ⟨rfl, hbq⟩))) | fail)
                  all_goals
                    have hHc := And.left ‹Below wr.heap.size wr _ ∧ _›
                    go_wp2_with fail
                    go_roundw
                    case rel => exact ⟨j + 1, by omega, by go_num, hnx, bthen hbx hHc⟩
                    case measure => simp [intOf]; omega
                · have hm' : (decide (y.fr < x.to) && decide (x.fr < y.to)) = true := hcl.out.symm.trans hm
                  have hf := Lib.hid (hbad.out k hlt (hok.out.trans (by rw [any_hit hyj'.out hlj hm]; rfl)))
                  have hmt := Lib.hid (fun W => by have := spec_l04Meet y.fr y.to x.fr x.to W; rw [hm'] at this; exact this)
                  clear hm' hm
                  go_wp2_with fail
                  (first | go_region_held3 (fun W => Below wr.heap.size wr W ∧ W.cell? ⟨B, 1, none⟩ = some (.slice (some ⟨b1, o1, none⟩) n c) ∧ W.cell? ⟨b1, o1 + j * 4, none⟩ = some (.string y.name) ∧ W.cell? ⟨b1, o1 + j * 4 + 2, none⟩ = some (.int .i64 y.fr) ∧ W.cell? ⟨b1, o1 + j * 4 + 3, none⟩ = some (.int .i64 y.to) ∧ W.cell? ⟨b1, o1 + k * 4, none⟩ = some (.string x.name) ∧ W.cell? ⟨b1, o1 + k * 4 + 2, none⟩ = some (.int .i64 x.fr) ∧ W.cell? ⟨b1, o1 + k * 4 + 3, none⟩ = some (.int .i64 x.to)) (first | exact held7 (below_drewN (Below.refl _ _) 1) hcbx hd0 hd2 hd3 he0 he2 he3 | (rename Below wr.heap.size wr _ ∧ _ => hH; refine held7 ?_ hcbx hd0 hd2 hd3 he0 he2 he3; (refine bthen hH.1 ?_; assumption))) (first | (go_at_call 84; ((with_reducible refine (hmt.out _).mono ?_); rintro e wq0 ⟨rfl, hbq⟩))) | fail)
                  all_goals
                    have hHc := And.left ‹Below wr.heap.size wr _ ∧ _›
                    go_wp2_with fail
                    go_ret
                    exact ⟨ret_bool (by rw [hf.out]), bthen (bthen hBq.out hbx) hHc⟩
            · obtain rfl : j = k := by omega
              have hnext := Lib.hid (range_succ_all hall.out (hok.out.trans (by rw [hany.out]; rfl)))
              go_wp2_with fail
              go_roundw
              case rel => exact ⟨j + 1, by omega, by go_num, hnext, bthen hBq.out hbx⟩
              case measure => simp [intOf]; omega
      · obtain rfl : k = n := by omega
        have hf := Lib.hid (hend.out hall.out)
        have hk40 := Lib.hid (show decide ((k : Int) ≤ 12) = decide (k ≤ 12) from decide_eq_decide.2 (by omega))
        go_wp2_with fail
        go_ret
        exact ⟨ret_bool (by rw [hf.out, ← hk40.out]), hb⟩
theorem spec_ValidLayout (wd : Int) (a : Option Addr) (c : Nat) (xs : List Itm) (w : World) (hx : RT w a xs) (hn : itemsSz xs ≤ 1048576) (hcap : xs.length ≤ c) :
    Calls Tryz.prog 26 #[.agg #[.int .i64 wd, .slice a xs.length c]] w fun e w' => e = .returned (.bool (validLayB wd xs)) ∧ Below w.heap.size w w' := by
  have hb1 := below_alloc (w := w) (.cells #[.int .i64 wd, .slice a xs.length c] 26)
  have hc := Lib.hid (spec_l04Ok w.heap.size wd a c xs _ (by simp [go_sem]) (by simp [go_sem]) (hx.kept hb1) hn)
  have hb1' := Lib.hid hb1
  clear hb1
  go_enter Tryz.func26, Tryz.ntmps26
  go_wp2_with (go_at_call 34; ((with_reducible refine hc.out.mono ?_); rintro e w' ⟨rfl, hb⟩))
  go_ret
  exact ⟨rfl, bthen hb1'.out hb⟩
end Go.Proofs.YtmpfnkheohlmiaaGreatDoor
