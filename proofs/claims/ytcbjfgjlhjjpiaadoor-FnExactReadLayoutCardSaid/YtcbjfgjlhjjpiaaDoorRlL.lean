/- What the lines of a layout's text say while they are read: plain. No program in sight. -/
import Derived.Test.YtcbjfgjlhjjpiaaDoorParseL
import Derived.Test.YtcbjfgjlhjjpiaaDoorItems
import Derived.Lib.IndexMore
namespace Go.Proofs.YtcbjfgjlhjjpiaaDoor
open Go.RowKit
set_option linter.unusedVariables false
set_option linter.unusedSimpArgs false
set_option linter.unnecessarySimpa false

theorem cutL_sum (c : UInt8) : ∀ l : List UInt8, ((cutL c l).map List.length).sum + (cutL c l).length = l.length + 1
  | [] => rfl
  | b :: l => by
    have ih := cutL_sum c l
    unfold cutL
    split
    · simp only [List.map_cons, List.length_nil, List.sum_cons, List.length_cons]; omega
    · cases h : cutL c l with
      | nil => exact absurd h (cutL_ne c l)
      | cons p r =>
        rw [h] at ih
        simp only [List.map_cons, List.sum_cons, List.length_cons] at ih ⊢
        omega
/-- the bytes of the first k lines -/
def sumTo (s : List UInt8) (k : Nat) : Nat := (((cutL 10 s).take k).map List.length).sum
theorem sumTo_zero (s : List UInt8) : sumTo s 0 = 0 := rfl
theorem sumTo_succ {s : List UInt8} {k : Nat} {l : List UInt8} (h : (cutL 10 s)[k]? = some l) : sumTo s (k + 1) = sumTo s k + l.length := by
  unfold sumTo; rw [List.take_add_one, h]; simp
theorem sumTo_le (s : List UInt8) (k : Nat) : sumTo s k ≤ s.length := by
  have h1 := cutL_sum 10 s
  have h2 : ((cutL 10 s).map List.length).sum = (((cutL 10 s).take k).map List.length).sum + (((cutL 10 s).drop k).map List.length).sum := by rw [← List.sum_append, ← List.map_append, List.take_append_drop]
  have h3 : 0 < (cutL 10 s).length := List.length_pos_iff.2 (cutL_ne 10 s)
  unfold sumTo; omega
theorem le_sum_at : ∀ {L : List (List UInt8)} {k : Nat} {l : List UInt8}, L[k]? = some l → l.length ≤ (L.map List.length).sum
  | [], k, l, h => by simp at h
  | p :: r, 0, l, h => by simp only [List.getElem?_cons_zero, Option.some.injEq] at h; subst h; simp
  | p :: r, k + 1, l, h => by
    have := le_sum_at (L := r) (k := k) (l := l) (by simpa using h)
    simp only [List.map_cons, List.sum_cons]; omega
theorem part_len {c : UInt8} {s l : List UInt8} {k : Nat} (h : (cutL c s)[k]? = some l) : l.length ≤ s.length := by
  have h1 := cutL_sum c s
  have h3 : 0 < (cutL c s).length := List.length_pos_iff.2 (cutL_ne c s)
  have h2 : l.length ≤ ((cutL c s).map List.length).sum := le_sum_at h
  omega
theorem three_name {l n k r : List UInt8} (h : cutL 32 l = [n, k, r]) : n.length + 2 ≤ l.length := by
  have := cutL_sum 32 l
  rw [h] at this
  simp at this; omega
theorem lay_shape {s : List UInt8} (h : layOk s = true) : cutL 10 s = headC (layW s) :: ((layX s).map lineC ++ [[]]) ∧ 0 ≤ layW s ∧ layW s ≤ 20 ∧ (layX s).length ≤ 12 := by
  obtain ⟨h1, h2⟩ := lay_print h
  obtain ⟨w1, w2, w3, _⟩ := validLay_is h1
  have := text_lines h1
  rw [h2] at this
  exact ⟨this, by omega, w2, w3⟩
theorem lay_len {s : List UInt8} (h : layOk s = true) : (cutL 10 s).length = (layX s).length + 2 := by rw [(lay_shape h).1]; simp
theorem lay_line {s : List UInt8} {i : Nat} {l : List UInt8} (h : layOk s = true) (h1 : 1 ≤ i) (h2 : i + 1 < (cutL 10 s).length) (hl : (cutL 10 s)[i]? = some l) : ∃ x, (layX s)[i - 1]? = some x ∧ l = lineC x ∧ itemB x (layW s) = true := by
  have hs := (lay_shape h).1
  have hn := lay_len h
  obtain ⟨k, rfl⟩ : ∃ k, i = k + 1 := ⟨i - 1, by omega⟩
  rw [hs, List.getElem?_cons_succ, List.getElem?_append_left (by simp; omega), List.getElem?_map] at hl
  obtain ⟨x, hx, rfl⟩ := Option.map_eq_some_iff.1 hl
  exact ⟨x, by simpa using hx, rfl, validLay_item (lay_print h).1 (List.mem_of_getElem? hx)⟩
theorem lay_first {s l : List UInt8} (h : layOk s = true) (hl : (cutL 10 s)[0]? = some l) : cutL 32 l = [[119, 105, 100, 116, 104], Lib.itoa (layW s)] ∧ readI (Lib.itoa (layW s)) = layW s := by
  obtain ⟨hs, h0, h1, _⟩ := lay_shape h
  rw [hs] at hl
  simp only [List.getElem?_cons_zero, Option.some.injEq] at hl
  subst hl
  exact ⟨head_words h0, (read_itoa h0 (by omega)).2⟩
theorem cut_dash {a b : List UInt8} (h : ∀ c ∈ a, c ≠ 45) : Lib.cut (a ++ 45 :: b) [45] = (a, b, true) := by
  have hi : Lib.index (a ++ 45 :: b) [45] = (a.length : Int) := by
    induction a with
    | nil => rw [List.nil_append, Lib.index]; simp [List.isPrefixOf]
    | cons d r ih =>
      have hd : ¬ (45 : UInt8) = d := fun e => h d (by simp) e.symm
      have ihr := ih (fun c hc => h c (by simp [hc]))
      rw [List.cons_append, Lib.index]
      simp [List.isPrefixOf, hd, ihr]
      try omega
  unfold Lib.cut
  simp only [hi]
  first
    | (rw [if_pos (by omega)]; simp)
    | (rw [if_neg (by omega)]; simp)
    | simp
/-- what the reader knows behind k lines -/
def RlInv (s : List UInt8) (k : Nat) (wd : Int) (xs : List Itm) : Prop := layOk s = true → (1 ≤ k → wd = layW s) ∧ xs = (layX s).take (k - 1)
theorem RlInv.start (s : List UInt8) : RlInv s 0 0 [] := fun h => ⟨fun h => absurd h (by omega), by simp⟩
theorem RlInv.first {s : List UInt8} {xs : List Itm} {l : List UInt8} {w : Int} (h : RlInv s 0 w xs) (hl : (cutL 10 s)[0]? = some l) {p : List UInt8} (hp : (cutL 32 l).getLast? = some p) : RlInv s 1 (readI p) xs := fun hk => by
  obtain ⟨h1, h2⟩ := lay_first hk hl
  rw [h1] at hp
  simp at hp
  rw [← hp]
  exact ⟨fun _ => h2, (h hk).2⟩
theorem RlInv.next {s : List UInt8} {k : Nat} {wd : Int} {xs : List Itm} {l : List UInt8} {y : Itm} (h : RlInv s k wd xs) (h1 : 1 ≤ k) (h2 : k + 1 < (cutL 10 s).length) (hl : (cutL 10 s)[k]? = some l) (hy : ∀ x wd', itemB x wd' = true → wd' ≤ 20 → l = lineC x → y = x) : RlInv s (k + 1) wd (xs ++ [y]) := fun hk => by
  obtain ⟨e1, e2⟩ := h hk
  obtain ⟨x, hx, e3, e4⟩ := lay_line hk h1 h2 hl
  refine ⟨fun _ => e1 h1, ?_⟩
  have hw := (lay_shape hk).2.2.1
  rw [hy x _ e4 hw e3, e2]
  obtain ⟨j, rfl⟩ : ∃ j, k = j + 1 := ⟨k - 1, by omega⟩
  simp only [Nat.add_sub_cancel] at hx ⊢
  rw [List.take_add_one, hx]; rfl
theorem RlInv.stop {s : List UInt8} {k : Nat} {l : List UInt8} (h1 : 1 ≤ k) (h2 : k + 1 < (cutL 10 s).length) (hl : (cutL 10 s)[k]? = some l) (hy : ∀ x wd', itemB x wd' = true → wd' ≤ 20 → l = lineC x → False) : layOk s = false := by
  cases hk : layOk s
  · rfl
  · exfalso
    obtain ⟨x, hx, e3, e4⟩ := lay_line hk h1 h2 hl
    exact hy x _ e4 (lay_shape hk).2.2.1 e3
theorem RlInv.done {s : List UInt8} {k : Nat} {wd : Int} {xs : List Itm} (h : RlInv s k wd xs) (hk : k + 1 = (cutL 10 s).length) (h0 : layOk s = true) : wd = layW s ∧ xs = layX s := by
  obtain ⟨e1, e2⟩ := h h0
  have hn := lay_len h0
  refine ⟨e1 (by omega), ?_⟩
  rw [e2, List.take_of_length_le (by omega)]
theorem lay_long {s : List UInt8} (h : 14 < (cutL 10 s).length) : layOk s = false := by
  cases hk : layOk s
  · rfl
  · have := lay_len hk; have := (lay_shape hk).2.2.2; omega
/-- how the reader ends -/
theorem rl_bad {s : List UInt8} {k : Nat} {wd : Int} {xs : List Itm} (h : RlInv s k wd xs) (hk : k + 1 = (cutL 10 s).length) (hv : validLayB wd xs = false) : layOk s = false := by
  cases h0 : layOk s
  · rfl
  · obtain ⟨rfl, rfl⟩ := h.done hk h0
    rw [(lay_print h0).1] at hv; cases hv
theorem rl_not {s : List UInt8} {k : Nat} {wd : Int} {xs : List Itm} (h : RlInv s k wd xs) (hk : k + 1 = (cutL 10 s).length) (hv : layTextL wd xs ≠ s) : layOk s = false := by
  cases h0 : layOk s
  · rfl
  · obtain ⟨rfl, rfl⟩ := h.done hk h0
    exact absurd (lay_print h0).2 hv
theorem items_snoc (xs : List Itm) (p : Itm) : itemsSz (xs ++ [p]) = itemsSz xs + 1 + p.name.size := by
  unfold itemsSz; simp; omega
/-- a line's item, as the program reads it -/
def kindI (k : List UInt8) : Int := if k = [] then 0 else if k = [116, 101, 120, 116] then 1 else if k = [110, 117, 109, 98, 101, 114] then 2 else -1
theorem kindI_kind {k : Int} (h : k = 1 ∨ k = 2) : kindI (kindL k) = k := by rcases h with rfl | rfl <;> decide +kernel
theorem read_line {x : Itm} {wd : Int} {n k r a b : List UInt8} (hi : itemB x wd = true) (hw : wd ≤ 20) (h : cutL 32 (lineC x) = [n, k, r]) (ha : a = (Lib.cut r [45]).1) (hb : b = (Lib.cut r [45]).2.1) :
    (⟨⟨n.toArray⟩, kindI k, readI a, readI b⟩ : Itm) = x ∧ readL a = true ∧ readL b = true := by
  obtain ⟨e1, e2⟩ := line_words hi
  obtain ⟨f1, f2, f3⟩ := itemB_field hi
  rw [e1] at h
  simp only [List.cons.injEq, and_true] at h
  obtain ⟨rfl, rfl, rfl⟩ := h
  have hc : Lib.cut (rangeL x) [45] = (Lib.itoa x.fr, Lib.itoa x.to, true) := cut_dash (itoa_ne f1 (by decide))
  rw [hc] at ha hb
  simp only at ha hb
  subst ha; subst hb
  obtain ⟨r1, r2⟩ := read_itoa f1 (by omega)
  obtain ⟨r3, r4⟩ := read_itoa (v := x.to) (by omega) (by omega)
  refine ⟨?_, r1, r3⟩
  rw [r2, r4, kindI_kind (item_kind hi)]
theorem cutB_at {c : UInt8} {s t : ByteArray} {k : Nat} (h : (cutB c s)[k]? = some t) : (cutL c s.data.toList)[k]? = some t.data.toList := by
  unfold cutB at h
  rw [List.getElem?_map] at h
  obtain ⟨l, hl, rfl⟩ := Option.map_eq_some_iff.1 h
  simpa using hl
theorem cutB_length (c : UInt8) (s : ByteArray) : (cutB c s).length = (cutL c s.data.toList).length := by unfold cutB; simp
theorem cutB_pos (c : UInt8) (s : ByteArray) : 1 ≤ (cutB c s).length := by rw [cutB_length]; exact List.length_pos_iff.2 (cutL_ne c _)
theorem cutB_part {c : UInt8} {s t : ByteArray} {k : Nat} (h : (cutB c s)[k]? = some t) : t.size ≤ s.size := by
  have := part_len (cutB_at h)
  rw [len_bytes, len_bytes] at this; exact this
theorem cutB_three {s n k r : ByteArray} (h : (cutB 32 s).length = 3) (h0 : (cutB 32 s)[0]? = some n) (h1 : (cutB 32 s)[1]? = some k) (h2 : (cutB 32 s)[2]? = some r) : cutL 32 s.data.toList = [n.data.toList, k.data.toList, r.data.toList] := by
  have a0 := cutB_at h0
  have a1 := cutB_at h1
  have a2 := cutB_at h2
  rw [cutB_length] at h
  match hq : cutL 32 s.data.toList, h with
  | [x, y, z], _ => rw [hq] at a0 a1 a2; simp at a0 a1 a2; rw [a0, a1, a2]
end Go.Proofs.YtcbjfgjlhjjpiaaDoor
