/- Items and layouts: what rows of items hold. No program in sight. -/
import Derived.Test.YtcbjfgjlhjjpiaaDoorData
namespace Go.Proofs.YtcbjfgjlhjjpiaaDoor
open Go.RowKit
set_option linter.unusedVariables false
set_option linter.unusedSimpArgs false
set_option linter.unnecessarySimpa false

/-- an item: its name, its kind, its field -/
structure Itm where
  name : ByteArray
  kind : Int
  fr : Int
  to : Int
instance : DecidableEq Itm := fun a b => decidable_of_iff (a.name = b.name ∧ a.kind = b.kind ∧ a.fr = b.fr ∧ a.to = b.to) ⟨fun h => by cases a; cases b; simp_all, fun h => by subst h; simp⟩
def Itm.cells (x : Itm) : List Value := [.string x.name, .int .i64 x.kind, .int .i64 x.fr, .int .i64 x.to]
def itemsV (xs : List Itm) : List Value := xs.flatMap Itm.cells
theorem itemsV_length (xs : List Itm) : (itemsV xs).length = xs.length * 4 := by
  induction xs with
  | nil => rfl
  | cons x r ih => simp only [itemsV, List.flatMap_cons, List.length_append, List.length_cons] at *; rw [ih]; simp [Itm.cells]; omega
theorem itemsV_append (xs ys : List Itm) : itemsV (xs ++ ys) = itemsV xs ++ itemsV ys := by simp [itemsV]
theorem itemsV_one (x : Itm) : itemsV [x] = x.cells := by simp [itemsV]
theorem itemsV_at {xs : List Itm} {k : Nat} {x : Itm} (h : xs[k]? = some x) : (itemsV xs)[k * 4]? = some (.string x.name) ∧ (itemsV xs)[k * 4 + 1]? = some (.int .i64 x.kind) ∧ (itemsV xs)[k * 4 + 2]? = some (.int .i64 x.fr) ∧ (itemsV xs)[k * 4 + 3]? = some (.int .i64 x.to) := by
  have h1 : xs = xs.take k ++ x :: xs.drop (k + 1) := by
    obtain ⟨hk, hv⟩ := List.getElem?_eq_some_iff.1 h
    rw [← hv, ← List.drop_eq_getElem_cons hk, List.take_append_drop]
  have hl : (itemsV (xs.take k)).length = k * 4 := by rw [itemsV_length, List.length_take]; have := (List.getElem?_eq_some_iff.1 h).1; rw [Nat.min_eq_left (by omega)]
  have h2 : itemsV xs = itemsV (xs.take k) ++ (x.cells ++ itemsV (xs.drop (k + 1))) := by
    conv => lhs; rw [h1]
    rw [itemsV_append]; simp [itemsV]
  rw [h2]
  refine ⟨?_, ?_, ?_, ?_⟩ <;> rw [List.getElem?_append_right (by omega), hl]
  · rw [Nat.sub_self]; rfl
  · rw [show k * 4 + 1 - k * 4 = 1 by omega]; rfl
  · rw [show k * 4 + 2 - k * 4 = 2 by omega]; rfl
  · rw [show k * 4 + 3 - k * 4 = 3 by omega]; rfl
/-- the cells from an address on hold these items -/
def RT (w : World) (a : Option Addr) (xs : List Itm) : Prop := Row w a (itemsV xs)
theorem RT.kept {w w' : World} {a : Option Addr} {xs : List Itm} (h : RT w a xs) (hb : Below w.heap.size w w') : RT w' a xs := Row.kept h hb
theorem RT.kept0 {w w' : World} {a : Option Addr} {xs : List Itm} (h : RT w a xs) (hb : Below w.heap.size w w') : RT w' a xs := Row.kept h hb
theorem RT.nil (w : World) (a : Option Addr) : RT w a [] := Row.nil w a
theorem RT.at {w : World} {a : Option Addr} {xs : List Itm} (h : RT w a xs) {k : Nat} {x : Itm} (hk : xs[k]? = some x) :
    ∃ b off, a = some ⟨b, off, none⟩ ∧ w.cell? ⟨b, off + k * 4, none⟩ = some (.string x.name) ∧ w.cell? ⟨b, off + k * 4 + 1, none⟩ = some (.int .i64 x.kind) ∧ w.cell? ⟨b, off + k * 4 + 2, none⟩ = some (.int .i64 x.fr) ∧ w.cell? ⟨b, off + k * 4 + 3, none⟩ = some (.int .i64 x.to) := by
  obtain ⟨h0, h1, h2, h3⟩ := itemsV_at hk
  obtain ⟨b, off, rfl, g0⟩ := h _ _ h0
  exact ⟨b, off, rfl, g0, Row.off h h1, Row.off h h2, Row.off h h3⟩
theorem RT.off {w : World} {b off : Nat} {xs : List Itm} (h : RT w (some ⟨b, off, none⟩) xs) {k : Nat} {x : Itm} (hk : xs[k]? = some x) :
    w.cell? ⟨b, off + k * 4, none⟩ = some (.string x.name) ∧ w.cell? ⟨b, off + k * 4 + 1, none⟩ = some (.int .i64 x.kind) ∧ w.cell? ⟨b, off + k * 4 + 2, none⟩ = some (.int .i64 x.fr) ∧ w.cell? ⟨b, off + k * 4 + 3, none⟩ = some (.int .i64 x.to) := by
  obtain ⟨h0, h1, h2, h3⟩ := itemsV_at hk
  exact ⟨Row.off h h0, Row.off h h1, Row.off h h2, Row.off h h3⟩
/-- a row of items of the call's own -/
def OT (lo hi : Nat) (w : World) (e : Nat) (a : Option Addr) (c : Nat) (xs : List Itm) : Prop := OV lo hi w e 4 a xs.length c (itemsV xs)
theorem OT.of {w' : World} {lo e c : Nat} {a : Option Addr} {xs : List Itm} (h : w'.ownsRow lo e 4 (.slice a xs.length c) xs.length (itemsV xs)) : OT lo w'.heap.size w' e a c xs := OV.of h
theorem OT.RT {w : World} {lo hi e c : Nat} {a : Option Addr} {xs : List Itm} (h : OT lo hi w e a c xs) : RT w a xs := OV.row h
theorem OT.kept {w w' : World} {lo hi e c : Nat} {a : Option Addr} {xs : List Itm} (h : OT lo hi w e a c xs) (hb : Below w.heap.size w w') : OT lo hi w' e a c xs := OV.kept h hb
theorem OT.within {w w' : World} {lo hi lo' hi' e c : Nat} {a : Option Addr} {xs : List Itm} (h : OT lo hi w e a c xs) (hw : Within lo' hi' w w') (hd : hi ≤ lo' ∨ hi' ≤ lo) : OT lo hi w' e a c xs := OV.within h hw hd
theorem OT.tight {w : World} {lo hi e c B : Nat} {a : Option Addr} {xs : List Itm} (h : OT lo hi w e a c xs) (hB : ∀ p, a = some p → ¬ p.block = B) : ∃ lo' hi', lo ≤ lo' ∧ hi' ≤ hi ∧ OT lo' hi' w e a c xs ∧ (B < lo' ∨ hi' ≤ B) := OV.tight h hB
theorem OT.capm {lo hi e c : Nat} {w : World} {a : Option Addr} {xs : List Itm} (h : OT lo hi w e a c xs) : xs.length ≤ c ∧ c ≤ maxLen := by
  obtain ⟨a', c', hv, _, hc, hm⟩ := own_slice h.1
  simp only [Value.slice.injEq] at hv
  obtain ⟨_, _, rfl⟩ := hv
  exact ⟨hc, hm⟩
theorem set4 {P M : List Value} {p : Nat} {a b c d : Value} (hP : P.length = p) (hM : p + 4 ≤ M.length) :
    ((((P ++ M.drop p).set p a).set (p + 1) b).set (p + 2) c).set (p + 3) d = P ++ [a, b, c, d] ++ M.drop (p + 4) := by
  obtain ⟨m0, m1, m2, m3, r, hr⟩ : ∃ m0 m1 m2 m3 r, M.drop p = m0 :: m1 :: m2 :: m3 :: r := by
    match hq : M.drop p with
    | m0 :: m1 :: m2 :: m3 :: r => exact ⟨m0, m1, m2, m3, r, rfl⟩
    | [] => have := congrArg List.length hq; simp at this; omega
    | [_] => have := congrArg List.length hq; simp at this; omega
    | [_, _] => have := congrArg List.length hq; simp at this; omega
    | [_, _, _] => have := congrArg List.length hq; simp at this; omega
  have h4 : M.drop (p + 4) = r := by rw [← List.drop_drop, hr]; rfl
  rw [hr, h4]
  subst hP
  simp [List.set_append_right]
theorem cell4 {P M : List Value} {p j : Nat} (hP : P.length = p) (hj : j < 4) (hM : p + 4 ≤ M.length) : ∃ v, (P ++ M.drop p)[p + j]? = some v :=
  get_some (by simp; omega)
def itNe (x y : Itm) : Bool := decide (¬ x = y)
theorem itNe_no {x y : Itm} (h : itNe x y = false) : x = y := by unfold itNe at h; simpa using h
theorem itNe_yes {x y : Itm} (h : itNe x y = true) : ¬ x = y := by unfold itNe at h; simpa using h
theorem itNe_refl (x : Itm) : itNe x x = false := by unfold itNe; simp
theorem held7 {r W : World} {p1 p2 p3 p4 p5 p6 p7 : Addr} {v1 v2 v3 v4 v5 v6 v7 : Value} (hb : Below r.heap.size r W) (h1 : r.cell? p1 = some v1) (h2 : r.cell? p2 = some v2) (h3 : r.cell? p3 = some v3) (h4 : r.cell? p4 = some v4) (h5 : r.cell? p5 = some v5) (h6 : r.cell? p6 = some v6) (h7 : r.cell? p7 = some v7) : Below r.heap.size r W ∧ W.cell? p1 = some v1 ∧ W.cell? p2 = some v2 ∧ W.cell? p3 = some v3 ∧ W.cell? p4 = some v4 ∧ W.cell? p5 = some v5 ∧ W.cell? p6 = some v6 ∧ W.cell? p7 = some v7 := ⟨hb, keep hb h1, keep hb h2, keep hb h3, keep hb h4, keep hb h5, keep hb h6, keep hb h7⟩
/-- how many things a list of items holds: the items, and the letters of their names -/
def itemsSz (xs : List Itm) : Nat := xs.length + (xs.map fun x => x.name.size).sum
def namesUp (xs : List Itm) (k : Nat) : Nat := ((xs.take k).map fun x => x.name.size).sum
theorem namesUp_succ {xs : List Itm} {k : Nat} {x : Itm} (h : xs[k]? = some x) : namesUp xs (k + 1) = namesUp xs k + x.name.size := by
  unfold namesUp; rw [List.take_add_one, h]; simp
theorem namesUp_le (xs : List Itm) (k : Nat) : namesUp xs k ≤ (xs.map fun x => x.name.size).sum := by
  have h : (xs.map fun x => x.name.size).sum = ((xs.take k).map fun x => x.name.size).sum + ((xs.drop k).map fun x => x.name.size).sum := by rw [← List.sum_append, ← List.map_append, List.take_append_drop]
  unfold namesUp
  omega
theorem namesUp_all {xs : List Itm} {k : Nat} (h : xs.length ≤ k) : namesUp xs k = (xs.map fun x => x.name.size).sum := by unfold namesUp; rw [List.take_of_length_le h]
theorem itemsSz_at {xs : List Itm} {k : Nat} {x : Itm} (h : xs[k]? = some x) : x.name.size + xs.length ≤ itemsSz xs := by
  have h1 := namesUp_le xs (k + 1)
  rw [namesUp_succ h] at h1
  unfold itemsSz; omega
theorem itemsSz_len (xs : List Itm) : xs.length ≤ itemsSz xs := by unfold itemsSz; omega
theorem cut_alloc_T {w : World} {lo lo' e c : Nat} {a : Option Addr} {xs : List Itm} (h : w.ownsRow lo' e 4 (.slice a xs.length c) xs.length (itemsV xs)) (o : Obj) (h1 : lo ≤ lo') : OT lo (w.alloc o).heap.size (w.alloc o) e a c xs :=
  ((OT.of (own_mono h h1)).kept (below_alloc o)).wider (Nat.le_refl _) (by simp)
theorem cut_set_T {w : World} {lo lo' e c B : Nat} {a : Option Addr} {xs : List Itm} (h : w.ownsRow lo' e 4 (.slice a xs.length c) xs.length (itemsV xs)) (u : Value) {u' : Value} (h1 : lo ≤ lo') (h2 : B < lo') : OT lo ((w.setCell ⟨B, 0, none⟩ u).setCell ⟨B, 1, none⟩ u').heap.size ((w.setCell ⟨B, 0, none⟩ u).setCell ⟨B, 1, none⟩ u') e a c xs :=
  OT.of (own_mono (ownsRow_setCell_below (ownsRow_setCell_below h (by exact h2) u) (by exact h2) u') h1)
end Go.Proofs.YtcbjfgjlhjjpiaaDoor
