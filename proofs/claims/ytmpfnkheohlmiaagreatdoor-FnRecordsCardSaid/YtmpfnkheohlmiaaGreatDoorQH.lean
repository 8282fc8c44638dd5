/- A source of numbers, and memory behind a call's entry, step by step; blocks known whole; rows of items of which one is changed. No program in sight. Decks of the call's own whose cards may lie in any order: a card of a deck is changed. No program in sight. -/
import Derived.Test.YtmpfnkheohlmiaaGreatDoorQD
import Derived.Test.YtmpfnkheohlmiaaGreatDoorQA
import Derived.Test.YtmpfnkheohlmiaaGreatDoorQF
import Derived.Test.YtmpfnkheohlmiaaGreatDoorQE
import Derived.Test.YtmpfnkheohlmiaaGreatDoorQC
namespace Go.Proofs.YtmpfnkheohlmiaaGreatDoor
open Go.RowKit
set_option linter.unusedVariables false
set_option linter.unusedSimpArgs false
set_option linter.unnecessarySimpa false

/-- the source, and what has turned since the entry: nothing but the source and new blocks -/
structure St (w : World) (B : Nat) (a : Option Addr) (c : Nat) (l : List UInt8) (k : Nat) (v : World) : Prop where
  base : B < w.heap.size
  src : SrcIs v B a c l k
  win : Within B (B + 1) w v
theorem St.start {w : World} {B c k : Nat} {a : Option Addr} {l : List UInt8} (h : SrcIs w B a c l k) : St w B a c l k w := ⟨h.lt, h, Within.refl _ _ _⟩
theorem St.below {w v v' : World} {B c k : Nat} {a : Option Addr} {l : List UInt8} (h : St w B a c l k v) (hb : Below w.heap.size v v') : St w B a c l k v' := ⟨h.base, h.src.below hb h.base, h.win.then_below hb (Nat.le_refl _)⟩
theorem St.kept {w v v' : World} {B c k : Nat} {a : Option Addr} {l : List UInt8} (h : St w B a c l k v) (hb : Below v.heap.size v v') : St w B a c l k v' := ⟨h.base, h.src.kept hb, h.win.trans (Within.of_below hb)⟩
theorem St.step {w v v' : World} {B c k k' : Nat} {a : Option Addr} {l : List UInt8} (h : St w B a c l k v) (hs : SrcIs v' B a c l k') (hw : Within B (B + 1) v v') : St w B a c l k' v' := ⟨h.base, hs, h.win.trans hw⟩
theorem St.more {w v : World} {B c k k' : Nat} {a : Option Addr} {l : List UInt8} (h : St w B a c l k v) (hk : k ≤ k') : St w B a c l k' v := ⟨h.base, h.src.more hk, h.win⟩
theorem St.set {w v : World} {B c k : Nat} {a : Option Addr} {l : List UInt8} (h : St w B a c l k v) {p : Addr} (hp : w.heap.size ≤ p.block) (u : Value) : St w B a c l k (v.setCell p u) := h.below ((Below.refl _ _).setCell hp u)
theorem St.size {w v : World} {B c k : Nat} {a : Option Addr} {l : List UInt8} (h : St w B a c l k v) : B < w.heap.size ∧ w.heap.size ≤ v.heap.size := ⟨h.base, h.win.size⟩
theorem St.of {w w1 v : World} {B c k : Nat} {a : Option Addr} {l : List UInt8} (h : St w1 B a c l k v) (hb : Below w.heap.size w w1) (h0 : B < w.heap.size) : St w B a c l k v := ⟨h0, h.src, (Within.of_below hb).trans h.win⟩
/-- a block known whole -/
def Bk (v : World) (b t : Nat) (cs : Array Value) : Prop := v.heap[b]? = some (.cells cs t (0, 0))
theorem Bk.new (v : World) (cs : Array Value) (t : Nat) : Bk (v.alloc (.cells cs t)) v.heap.size t cs := heap_alloc_new _ _
theorem Bk.lt {v : World} {b t : Nat} {cs : Array Value} (h : Bk v b t cs) : b < v.heap.size := (Array.getElem?_eq_some_iff.1 h).1
theorem Bk.kept {v v' : World} {b t : Nat} {cs : Array Value} (h : Bk v b t cs) (hb : Below v.heap.size v v') : Bk v' b t cs := (hb.block b h.lt).trans h
theorem Bk.below {v v' : World} {b t M : Nat} {cs : Array Value} (h : Bk v b t cs) (hb : Below M v v') (hM : b < M) : Bk v' b t cs := (hb.block b hM).trans h
theorem Bk.within {v v' : World} {b t lo hi : Nat} {cs : Array Value} (h : Bk v b t cs) (hw : Within lo hi v v') (hn : b < lo ∨ hi ≤ b) : Bk v' b t cs := (hw.block b h.lt (fun e => by omega)).trans h
theorem Bk.set {v : World} {b t : Nat} {cs : Array Value} (h : Bk v b t cs) (j : Nat) (u : Value) : Bk (v.setCell ⟨b, j, none⟩ u) b t (cs.setIfInBounds j u) := blk_set h j u
theorem Bk.far {v : World} {b t : Nat} {cs : Array Value} (h : Bk v b t cs) {p : Addr} (hn : ¬ p.block = b) (u : Value) : Bk (v.setCell p u) b t cs := by
  unfold Bk; rw [Below.heap_setCell _ _ _ _ (fun e => hn e.symm)]; exact h
theorem Bk.cell {v : World} {b t : Nat} {cs : Array Value} (h : Bk v b t cs) (j : Nat) {u : Value} (hu : cs[j]? = some u) : v.cell? ⟨b, j, none⟩ = some u := by rw [cell_of_row v b j cs t (0, 0) h]; exact hu
theorem Bk.free {v : World} {b t : Nat} {cs : Array Value} (h : Bk v b t cs) (j : Nat) : v.frozen? ⟨b, j, none⟩ = false := by unfold Bk at h; simp [World.frozen?, h]
theorem Bk.one {v : World} {b t : Nat} {x : Value} (h : Bk v b t #[x]) : v.cell? ⟨b, 0, none⟩ = some x ∧ v.frozen? ⟨b, 0, none⟩ = false := ⟨h.cell 0 rfl, h.free 0⟩
theorem Bk.two {v : World} {b t : Nat} {x y : Value} (h : Bk v b t #[x, y]) : v.cell? ⟨b, 0, none⟩ = some x ∧ v.cell? ⟨b, 1, none⟩ = some y ∧ v.frozen? ⟨b, 0, none⟩ = false ∧ v.frozen? ⟨b, 1, none⟩ = false := ⟨h.cell 0 rfl, h.cell 1 rfl, h.free 0, h.free 1⟩
theorem Bk.four {v : World} {b t : Nat} {x y z u : Value} (h : Bk v b t #[x, y, z, u]) : (v.cell? ⟨b, 0, none⟩ = some x ∧ v.cell? ⟨b, 1, none⟩ = some y ∧ v.cell? ⟨b, 2, none⟩ = some z ∧ v.cell? ⟨b, 3, none⟩ = some u) ∧ v.frozen? ⟨b, 0, none⟩ = false ∧ v.frozen? ⟨b, 1, none⟩ = false ∧ v.frozen? ⟨b, 2, none⟩ = false ∧ v.frozen? ⟨b, 3, none⟩ = false := ⟨⟨h.cell 0 rfl, h.cell 1 rfl, h.cell 2 rfl, h.cell 3 rfl⟩, h.free 0, h.free 1, h.free 2, h.free 3⟩
theorem OV.below {w w' : World} {lo hi e size n c : Nat} {a : Option Addr} {vs : List Value} (h : OV lo hi w e size a n c vs) {M : Nat} (hb : Below M w w') (hM : hi ≤ M) : OV lo hi w' e size a n c vs := by
  refine ⟨?_, h.2⟩
  obtain ⟨h1, h2 | ⟨g, cap, cur, hv, hg, hc, r⟩⟩ := h.1
  · exact ⟨h1, .inl h2⟩
  · simp only [Value.slice.injEq] at hv
    have hlt : g < hi := h.2 _ hv.1
    refine ⟨h1, .inr ⟨g, cap, cur, by rw [hv.1, hv.2.2], hg, ?_, r⟩⟩
    rw [hb.block g (by omega)]; exact hc
theorem OV.setBelow {w : World} {lo hi e size n c : Nat} {a : Option Addr} {vs : List Value} (h : OV lo hi w e size a n c vs) {p : Addr} (hp : p.block < lo) (u : Value) : OV lo hi (w.setCell p u) e size a n c vs :=
  ⟨ownsRow_setCell_below h.1 hp u, h.2⟩
theorem OV.capn {w : World} {lo hi e size n c : Nat} {a : Option Addr} {vs : List Value} (h : OV lo hi w e size a n c vs) : n ≤ c ∧ c ≤ maxLen := by
  obtain ⟨a', c', hv, _, hc, hm⟩ := own_slice h.1
  simp only [Value.slice.injEq] at hv
  obtain ⟨_, _, rfl⟩ := hv
  exact ⟨hc, hm⟩
/-- a layout has been drawn, in a row of the call's own -/
def DrawnL (w : World) (B : Nat) (a : Option Addr) (c : Nat) (l : List UInt8) (k : Nat) (eT : Nat) (P : Int → List Itm → Prop) (e : Ending) (w' : World) : Prop :=
  ∃ (wd : Int) (a' : Option Addr) (c' : Nat) (xs : List Itm), e = .returned (.agg #[.int .i64 wd, .slice a' xs.length c']) ∧ P wd xs ∧ OT w.heap.size w'.heap.size w' eT a' c' xs ∧ SrcIs w' B a c l k ∧ Within B (B + 1) w w'
/-- small layouts -/
def LayP (wd : Int) (xs : List Itm) : Prop := -1 ≤ wd ∧ wd ≤ 21 ∧ xs.length ≤ 16 ∧ ∀ x ∈ xs, x.name.size ≤ 16
theorem names_le {xs : List Itm} {n : Nat} (h : ∀ x ∈ xs, x.name.size ≤ n) : (xs.map fun x => x.name.size).sum ≤ xs.length * n := by
  induction xs with
  | nil => simp
  | cons x r ih =>
    have h1 := h x (List.mem_cons_self ..)
    have h2 := ih fun y hy => h y (List.mem_cons_of_mem _ hy)
    simp only [List.map_cons, List.sum_cons, List.length_cons, Nat.succ_mul]
    omega
theorem LayP.sz {wd : Int} {xs : List Itm} (h : LayP wd xs) : itemsSz xs ≤ 1048576 := by
  have h1 := names_le h.2.2.2
  have h2 := h.2.2.1
  unfold itemsSz; omega
theorem lay_snoc {xs : List Itm} {x : Itm} {n : Nat} (h : ∀ y ∈ xs, y.name.size ≤ n) (hx : x.name.size ≤ n) : ∀ y ∈ xs ++ [x], y.name.size ≤ n := by
  intro y hy; simp only [List.mem_append, List.mem_singleton] at hy; rcases hy with hy | rfl
  · exact h y hy
  · exact hx
theorem lay_set {xs : List Itm} {x : Itm} {n k : Nat} (h : ∀ y ∈ xs, y.name.size ≤ n) (hx : x.name.size ≤ n) : ∀ y ∈ xs.set k x, y.name.size ≤ n := by
  intro y hy
  rcases List.mem_or_eq_of_mem_set hy with hy | rfl
  · exact h y hy
  · exact hx
/-- an item of a small layout -/
def ItmS (wd : Int) (y : Itm) : Prop := y.name.size ≤ 12 ∧ (y.kind = 1 ∨ y.kind = 2) ∧ 0 ≤ y.fr ∧ y.fr < y.to ∧ y.to ≤ wd
def LayS (wd : Int) (xs : List Itm) : Prop := (1 ≤ wd ∧ wd ≤ 20 ∧ xs.length ≤ 12) ∧ ∀ x ∈ xs, ItmS wd x
theorem all_snoc {P : Itm → Prop} {xs : List Itm} {x : Itm} (h : ∀ y ∈ xs, P y) (hx : P x) : ∀ y ∈ xs ++ [x], P y := by
  intro y hy; simp only [List.mem_append, List.mem_singleton] at hy; rcases hy with hy | rfl
  · exact h y hy
  · exact hx
theorem all_set {P : Itm → Prop} {xs : List Itm} {x : Itm} {k : Nat} (h : ∀ y ∈ xs, P y) (hx : P x) : ∀ y ∈ xs.set k x, P y := by
  intro y hy
  rcases List.mem_or_eq_of_mem_set hy with hy | rfl
  · exact h y hy
  · exact hx
/-- an item of a row changed, part by part -/
theorem itemsV_split {xs : List Itm} {k : Nat} {x : Itm} (h : xs[k]? = some x) : itemsV xs = itemsV (xs.take k) ++ (x.cells ++ itemsV (xs.drop (k + 1))) ∧ (itemsV (xs.take k)).length = k * 4 := by
  obtain ⟨hk, hv⟩ := List.getElem?_eq_some_iff.1 h
  constructor
  · conv => lhs; rw [show xs = xs.take k ++ x :: xs.drop (k + 1) by rw [← hv, ← List.drop_eq_getElem_cons hk, List.take_append_drop]]
    rw [itemsV_append]; simp [itemsV]
  · rw [itemsV_length, List.length_take, Nat.min_eq_left (by omega)]
theorem items_set {xs : List Itm} {k : Nat} {x : Itm} (h : xs[k]? = some x) (y : Itm) : itemsV (xs.set k y) = itemsV (xs.take k) ++ (y.cells ++ itemsV (xs.drop (k + 1))) := by
  obtain ⟨hk, hv⟩ := List.getElem?_eq_some_iff.1 h
  have h1 : (xs.set k y)[k]? = some y := by rw [List.getElem?_set]; simp [hk]
  have := (itemsV_split h1).1
  rw [this, List.take_set_of_le (Nat.le_refl _), List.drop_set_of_lt (Nat.lt_succ_self _)]
theorem items_name {xs : List Itm} {k : Nat} {x : Itm} (h : xs[k]? = some x) (s : ByteArray) : (itemsV xs).set (k * 4) (.string s) = itemsV (xs.set k ⟨s, x.kind, x.fr, x.to⟩) := by
  obtain ⟨h1, h2⟩ := itemsV_split h
  rw [items_set h, h1, List.set_append_right _ _ (by omega), h2, Nat.sub_self]; rfl
theorem items_kind {xs : List Itm} {k : Nat} {x : Itm} (h : xs[k]? = some x) (s : Int) : (itemsV xs).set (k * 4 + 1) (.int .i64 s) = itemsV (xs.set k ⟨x.name, s, x.fr, x.to⟩) := by
  obtain ⟨h1, h2⟩ := itemsV_split h
  rw [items_set h, h1, List.set_append_right _ _ (by omega), h2, show k * 4 + 1 - k * 4 = 1 by omega]; rfl
theorem items_field {xs : List Itm} {k : Nat} {x : Itm} (h : xs[k]? = some x) (f t : Int) : ((itemsV xs).set (k * 4 + 2) (.int .i64 f)).set (k * 4 + 3) (.int .i64 t) = itemsV (xs.set k ⟨x.name, x.kind, f, t⟩) := by
  obtain ⟨h1, h2⟩ := itemsV_split h
  rw [items_set h, h1, List.set_append_right _ _ (by omega), h2, show k * 4 + 2 - k * 4 = 2 by omega, List.set_append_right _ _ (by omega), h2, show k * 4 + 3 - k * 4 = 3 by omega]; rfl
theorem items_put {xs : List Itm} {k : Nat} {x : Itm} (h : xs[k]? = some x) (y : Itm) : ((((itemsV xs).set (k * 4) (.string y.name)).set (k * 4 + 1) (.int .i64 y.kind)).set (k * 4 + 2) (.int .i64 y.fr)).set (k * 4 + 3) (.int .i64 y.to) = itemsV (xs.set k y) := by
  obtain ⟨h1, h2⟩ := itemsV_split h
  rw [items_set h, h1, List.set_append_right _ _ (by omega), h2, Nat.sub_self, List.set_append_right _ _ (by omega), h2, show k * 4 + 1 - k * 4 = 1 by omega, List.set_append_right _ _ (by omega), h2, show k * 4 + 2 - k * 4 = 2 by omega, List.set_append_right _ _ (by omega), h2, show k * 4 + 3 - k * 4 = 3 by omega]; rfl
end Go.Proofs.YtmpfnkheohlmiaaGreatDoor
namespace Go.Proofs.YtmpfnkheohlmiaaGreatDoor
open Go.RowKit
set_option linter.unusedVariables false
set_option linter.unusedSimpArgs false
set_option linter.unnecessarySimpa false

def OW (lo hi : Nat) (w : World) (e e' : Nat) (a : Option Addr) (c : Nat) (xss : List (List Int)) : Prop :=
  ∃ hs : List (Option Addr × Nat), hs.length = xss.length ∧ OV lo hi w e 1 a xss.length c (headsV hs xss) ∧
    (∀ (k : Nat) (h : Option Addr × Nat) (xs : List Int), hs[k]? = some h → xss[k]? = some xs → OI lo hi w e' h.1 h.2 xs)
theorem OD.toOW {w : World} {lo hi e e' c : Nat} {a : Option Addr} {xss : List (List Int)} (h : OD lo hi w e e' a c xss) : OW lo hi w e e' a c xss := by
  obtain ⟨hs, h1, h2, h3, _⟩ := h
  exact ⟨hs, h1, h2, h3⟩
theorem OW.RD {w : World} {lo hi e e' c : Nat} {a : Option Addr} {xss : List (List Int)} (h : OW lo hi w e e' a c xss) : RD w a xss := by
  obtain ⟨hs, h1, h2, h3⟩ := h
  exact ⟨hs, h1, h2.row, fun k p xs e1 e2 => ⟨(h3 k p xs e1 e2).RI, (h3 k p xs e1 e2).capm⟩⟩
theorem OW.within {w w' : World} {lo hi lo' hi' e e' c : Nat} {a : Option Addr} {xss : List (List Int)} (h : OW lo hi w e e' a c xss) (hw : Within lo' hi' w w') (hd : hi ≤ lo' ∨ hi' ≤ lo) : OW lo hi w' e e' a c xss := by
  obtain ⟨hs, h1, h2, h3⟩ := h
  exact ⟨hs, h1, h2.within hw hd, fun k p xs e1 e2 => (h3 k p xs e1 e2).within hw hd⟩
theorem OW.kept {w w' : World} {lo hi e e' c : Nat} {a : Option Addr} {xss : List (List Int)} (h : OW lo hi w e e' a c xss) (hb : Below w.heap.size w w') : OW lo hi w' e e' a c xss :=
  h.within (Within.of_below (lo := hi) (hi := hi) hb) (Or.inl (Nat.le_refl _))
theorem OW.wider {w : World} {lo hi lo' hi' e e' c : Nat} {a : Option Addr} {xss : List (List Int)} (h : OW lo hi w e e' a c xss) (h1 : lo' ≤ lo) (h2 : hi ≤ hi') : OW lo' hi' w e e' a c xss := by
  obtain ⟨hs, g1, g2, g3⟩ := h
  exact ⟨hs, g1, g2.wider h1 h2, fun k p xs e1 e2 => (g3 k p xs e1 e2).wider h1 h2⟩
theorem OW.setBelow {w : World} {lo hi e e' c : Nat} {a : Option Addr} {xss : List (List Int)} (h : OW lo hi w e e' a c xss) {p : Addr} (hp : p.block < lo) (u : Value) : OW lo hi (w.setCell p u) e e' a c xss := by
  obtain ⟨hs, g1, g2, g3⟩ := h
  exact ⟨hs, g1, g2.setBelow hp u, fun k p xs e1 e2 => OV.setBelow (g3 k p xs e1 e2) hp u⟩
theorem OW.cap {w : World} {lo hi e e' c : Nat} {a : Option Addr} {xss : List (List Int)} (h : OW lo hi w e e' a c xss) : xss.length ≤ c ∧ c ≤ maxLen := by
  obtain ⟨hs, g1, g2, g3⟩ := h
  exact g2.capn
theorem headsV_set {hs : List (Option Addr × Nat)} {xss : List (List Int)} (k : Nat) (p : Option Addr × Nat) (x : List Int) : headsV (hs.set k p) (xss.set k x) = (headsV hs xss).set k (.slice p.1 x.length p.2) := by
  unfold headsV
  induction hs generalizing xss k with
  | nil => simp
  | cons h r ih =>
    cases xss with
    | nil => simp
    | cons y s =>
      cases k with
      | zero => simp
      | succ k => simp only [List.set_cons_succ, List.zipWith_cons_cons]; rw [ih]
/-- a card of a deck gets columns of its own -/
theorem OW.spoilA {lo : Nat} {w w1 : World} {e e' g c c' k : Nat} {a' : Option Addr} {xss : List (List Int)} {x y : List Int} (hne : e' ≠ e) (h : OW lo w.heap.size w1 e e' (some ⟨g, 0, none⟩) c xss) (hsz : w.heap.size ≤ w1.heap.size) (hlo : lo ≤ w.heap.size) (hx : xss[k]? = some x)
    (ho : w1.ownsRow w.heap.size e' 1 (.slice a' y.length c') y.length (y.map (Value.int .i64))) :
    OW lo w1.heap.size (w1.setCell ⟨g, k, none⟩ (.slice a' y.length c')) e e' (some ⟨g, 0, none⟩) c (xss.set k y) := by
  obtain ⟨hs, h1, h2, h3⟩ := h
  obtain ⟨cs, hcs⟩ := h2.block
  refine ⟨hs.set k (a', c'), by simp [h1], ?_, ?_⟩
  · rw [headsV_set, List.length_set]
    exact (h2.store k _).wider (Nat.le_refl _) hsz
  · intro j p z e1 e2
    by_cases hj : j = k
    · subst hj
      have hl := (List.getElem?_eq_some_iff.1 hx).1
      rw [List.getElem?_set_self (by omega)] at e1
      rw [List.getElem?_set_self hl] at e2
      simp only [Option.some.injEq] at e1 e2
      subst e1 e2
      exact OV.far ((OI.of ho).wider hlo (Nat.le_refl _)) hcs hne _ _
    · rw [List.getElem?_set_ne (fun e => hj e.symm)] at e1 e2
      exact OV.far ((h3 j p z e1 e2).wider (Nat.le_refl _) hsz) hcs hne _ _
/-- a column of a card of a deck is changed -/
theorem OD.spoilB {lo hi : Nat} {w1 : World} {e e' g c k j : Nat} {a : Option Addr} {xss : List (List Int)} {x : List Int} (hne : e' ≠ e) (h : OD lo hi w1 e e' a c xss) (hx : xss[k]? = some x) {d : Nat} {b off : Nat} (ha : a = some ⟨b, off, none⟩)
    (hc : w1.cell? ⟨b, off + k, none⟩ = some (.slice (some ⟨g, 0, none⟩) x.length d)) (v : Int) :
    OW lo hi (w1.setCell ⟨g, j, none⟩ (.int .i64 v)) e e' a c (xss.set k (x.set j v)) := by
  obtain ⟨hs, h1, h2, h3, h4⟩ := h
  have hl := (List.getElem?_eq_some_iff.1 hx).1
  obtain ⟨p, hp⟩ := get_some (l := hs) (k := k) (by omega)
  obtain ⟨b', off', e0, hcc⟩ := h2.row k _ (headsV_at hp hx)
  rw [ha] at e0
  simp only [Option.some.injEq, Addr.mk.injEq, and_true] at e0
  obtain ⟨rfl, rfl⟩ := e0
  rw [hc] at hcc
  simp only [Option.some.injEq, Value.slice.injEq, true_and] at hcc
  have ok := h3 k p x hp hx
  have hp1 : p.1 = some ⟨g, 0, none⟩ := hcc.1.symm
  have ok' : OI lo hi w1 e' (some ⟨g, 0, none⟩) p.2 x := by rw [← hp1]; exact ok
  obtain ⟨cs, hcs⟩ := OV.block ok'
  refine ⟨hs, by simp [h1], ?_, ?_⟩
  · have e : headsV hs (xss.set k (x.set j v)) = headsV hs xss := by
      have := headsV_set (hs := hs) (xss := xss) k p (x.set j v)
      have hs2 : hs.set k p = hs := by
        apply List.ext_getElem?
        intro i
        by_cases hi : i = k
        · subst hi; rw [List.getElem?_set_self (by omega), hp]
        · rw [List.getElem?_set_ne (fun e => hi e.symm)]
      rw [hs2] at this
      rw [this, List.length_set]
      apply List.ext_getElem?
      intro i
      by_cases hi : i = k
      · subst hi
        rw [List.getElem?_set_self (by rw [headsV_length h1]; exact hl), headsV_at hp hx]
      · rw [List.getElem?_set_ne (fun e => hi e.symm)]
    rw [e, List.length_set]
    exact OV.far h2 hcs (fun e => hne e.symm) _ _
  · intro i q z e1 e2
    by_cases hi : i = k
    · subst hi
      rw [hp] at e1
      rw [List.getElem?_set_self hl] at e2
      simp only [Option.some.injEq] at e1 e2
      subst e1 e2
      have h5 := OV.store ok' j (.int .i64 v)
      unfold OI
      rw [hp1, List.length_set, List.map_set]
      exact h5
    · rw [List.getElem?_set_ne (fun e => hi e.symm)] at e2
      have h6 := h3 i q z e1 e2
      refine ⟨?_, h6.2⟩
      obtain ⟨g1, g2 | ⟨q', cap, cur, hv, hq, hcq, r⟩⟩ := h6.1
      · exact ⟨g1, .inl g2⟩
      · refine ⟨g1, .inr ⟨q', cap, cur, hv, hq, ?_, r⟩⟩
        simp only [Value.slice.injEq] at hv
        have hqg : q' ≠ g := by
          rcases Nat.lt_or_gt_of_ne hi with hlt | hlt
          · have := h4 i k q p _ _ hlt e1 hp hv.1 hp1
            simp only at this; omega
          · have := h4 k i p q _ _ hlt hp e1 hp1 hv.1
            simp only at this; omega
        rw [Below.heap_setCell _ _ _ _ (by simpa using hqg)]; exact hcq
/-- small decks -/
def DeckP (xss : List (List Int)) : Prop := xss.length ≤ 64 ∧ ∀ x ∈ xss, x.length ≤ 64
theorem lens_le {xss : List (List Int)} {n : Nat} (h : ∀ x ∈ xss, x.length ≤ n) : (xss.map List.length).sum ≤ xss.length * n := by
  induction xss with
  | nil => simp
  | cons x r ih =>
    have h1 := h x (List.mem_cons_self ..)
    have h2 := ih fun y hy => h y (List.mem_cons_of_mem _ hy)
    simp only [List.map_cons, List.sum_cons, List.length_cons, Nat.succ_mul]
    omega
theorem DeckP.sz {xss : List (List Int)} (h : DeckP xss) : deckSz xss ≤ 1048576 := by
  have h1 := lens_le h.2
  have h2 := h.1
  unfold deckSz; omega
theorem deck_set {xss : List (List Int)} {x : List Int} {n k : Nat} (h : ∀ y ∈ xss, y.length ≤ n) (hx : x.length ≤ n) : ∀ y ∈ xss.set k x, y.length ≤ n := by
  intro y hy
  rcases List.mem_or_eq_of_mem_set hy with hy | rfl
  · exact h y hy
  · exact hx
theorem deck_snoc {xss : List (List Int)} {x : List Int} {n : Nat} (h : ∀ y ∈ xss, y.length ≤ n) (hx : x.length ≤ n) : ∀ y ∈ xss ++ [x], y.length ≤ n := by
  intro y hy; simp only [List.mem_append, List.mem_singleton] at hy; rcases hy with hy | rfl
  · exact h y hy
  · exact hx
theorem sizes_le {vs : List ByteArray} {n : Nat} (h : ∀ x ∈ vs, x.size ≤ n) : (vs.map ByteArray.size).sum ≤ vs.length * n := by
  induction vs with
  | nil => simp
  | cons x r ih =>
    have h1 := h x (List.mem_cons_self ..)
    have h2 := ih fun y hy => h y (List.mem_cons_of_mem _ hy)
    simp only [List.map_cons, List.sum_cons, List.length_cons, Nat.succ_mul]
    omega
theorem texts_small {vs : List ByteArray} (h : ∀ x ∈ vs, x.size ≤ 64) (hl : vs.length ≤ 64) : textsSz vs ≤ 1048576 := by
  have h1 := sizes_le h
  unfold textsSz; omega
theorem texts_snoc {vs : List ByteArray} {x : ByteArray} {n : Nat} (h : ∀ y ∈ vs, y.size ≤ n) (hx : x.size ≤ n) : ∀ y ∈ vs ++ [x], y.size ≤ n := by
  intro y hy; simp only [List.mem_append, List.mem_singleton] at hy; rcases hy with hy | rfl
  · exact h y hy
  · exact hx
end Go.Proofs.YtmpfnkheohlmiaaGreatDoor
