/- Rows of cells as they are read: what a slice's cells hold, carried over new blocks; rows that a call has made itself. No program in sight. -/
import Derived.Test.YtcbjfgjlhjjpiaaDoorBase
import Derived.WalkSmall
namespace Go.Proofs.YtcbjfgjlhjjpiaaDoor
open Go.RowKit

/-- the cells from an address on hold these values -/
def Row (w : World) (a : Option Addr) (xs : List Value) : Prop :=
  ∀ j v, xs[j]? = some v → ∃ b off, a = some ⟨b, off, none⟩ ∧ w.cell? ⟨b, off + j, none⟩ = some v
/-- the cells from an address on hold these integers -/
def RI (w : World) (a : Option Addr) (xs : List Int) : Prop := Row w a (xs.map (Value.int .i64))

theorem Row.at {w : World} {a : Option Addr} {xs : List Value} (h : Row w a xs) {j : Nat} {v : Value} (hj : xs[j]? = some v) :
    ∃ b off, a = some ⟨b, off, none⟩ ∧ w.cell? ⟨b, off + j, none⟩ = some v := h j v hj
theorem RI.at {w : World} {a : Option Addr} {xs : List Int} (h : RI w a xs) {j : Nat} {x : Int} (hj : xs[j]? = some x) :
    ∃ b off, a = some ⟨b, off, none⟩ ∧ w.cell? ⟨b, off + j, none⟩ = some (.int .i64 x) := h j _ (by rw [List.getElem?_map, hj]; rfl)
theorem Row.below {w w' : World} {B : Nat} {a : Option Addr} {xs : List Value} (h : Row w a xs) (hb : Below B w w') (hB : w.heap.size ≤ B) : Row w' a xs := fun j v hj => by
  obtain ⟨b, off, ha, hc⟩ := h j v hj
  have hlt : b < w.heap.size := World.block_lt_of_cell? w _ hc
  exact ⟨b, off, ha, (hb.cell (p := ⟨b, off + j, none⟩) (Nat.lt_of_lt_of_le hlt hB)).trans hc⟩
theorem RI.below {w w' : World} {B : Nat} {a : Option Addr} {xs : List Int} (h : RI w a xs) (hb : Below B w w') (hB : w.heap.size ≤ B) : RI w' a xs := Row.below h hb hB
theorem Row.kept {w w' : World} {a : Option Addr} {xs : List Value} (h : Row w a xs) (hb : Below w.heap.size w w') : Row w' a xs := h.below hb (Nat.le_refl _)
theorem RI.kept {w w' : World} {a : Option Addr} {xs : List Int} (h : RI w a xs) (hb : Below w.heap.size w w') : RI w' a xs := h.below hb (Nat.le_refl _)
theorem Row.nil (w : World) (a : Option Addr) : Row w a [] := fun j v h => by simp at h
theorem RI.nil (w : World) (a : Option Addr) : RI w a [] := Row.nil w a
theorem Row.off {w : World} {b off : Nat} {xs : List Value} (h : Row w (some ⟨b, off, none⟩) xs) {j : Nat} {v : Value} (hj : xs[j]? = some v) : w.cell? ⟨b, off + j, none⟩ = some v := by
  obtain ⟨b', off', ha, hc⟩ := h j v hj
  simp only [Option.some.injEq, Addr.mk.injEq] at ha
  obtain ⟨rfl, rfl, _⟩ := ha
  exact hc
/-- the kit has two of this name: here the one that keeps a bound -/
theorem below_drewN {B : Nat} {a w : World} (h : Below B a w) (n : Nat) : Below B a (w.drewN n) := _root_.Go.below_drewN h n
theorem below_drewN' {B : Nat} {a w : World} (h : Below B a w) (n : Nat) : Below B a (w.drewN n) := below_drewN h n

/-- two steps, the second below the first's new size -/
theorem bthen {w w1 w2 : World} (h : Below w.heap.size w w1) (k : Below w1.heap.size w1 w2) : Below w.heap.size w w2 := h.trans (k.mono h.size)
theorem below_alloc {w : World} (o : Obj) : Below w.heap.size w (w.alloc o) := (Below.refl _ _).alloc (Nat.le_refl _) o

/-- a row that the call has made itself, as a slice that is read -/
theorem own_slice {w : World} {B e size n : Nat} {v : Value} {xs : List Value} (h : w.ownsRow B e size v n xs) : ∃ a c, v = .slice a n c ∧ Row w a xs ∧ n ≤ c ∧ c ≤ maxLen := by
  obtain ⟨hl, ⟨rfl, rfl⟩ | ⟨g, cap, cur, rfl, hg, hcur, hn, hm, hs, ht⟩⟩ := h
  · exact ⟨none, 0, rfl, by rw [show xs = [] from List.eq_nil_of_length_eq_zero (by omega)]; exact Row.nil _ _, Nat.le_refl _, by simp [maxLen]⟩
  · refine ⟨_, cap, rfl, fun j u hj => ⟨g, 0, rfl, ?_⟩, hn, hm⟩
    rw [Nat.zero_add, cell_of_row w g j cur e (0, 0) hcur]
    rw [← ht, List.getElem?_take] at hj
    split at hj
    · simpa using hj
    · cases hj

/-- what was read of two lists so far -/
theorem take_eq_succ {α : Type} {xs ys : List α} {k : Nat} {x y : α} (hx : xs[k]? = some x) (hy : ys[k]? = some y) (h : xs.take k = ys.take k) (hxy : x = y) : xs.take (k + 1) = ys.take (k + 1) := by
  rw [List.take_add_one, List.take_add_one, hx, hy, h, hxy]
theorem ne_of_at {α : Type} {xs ys : List α} {k : Nat} {x y : α} (hx : xs[k]? = some x) (hy : ys[k]? = some y) (h : x ≠ y) : xs ≠ ys := fun e => by
  subst e; rw [hx] at hy; exact h (Option.some.inj hy)
theorem eq_of_take {α : Type} {xs ys : List α} {k : Nat} (h1 : xs.length ≤ k) (h2 : ys.length ≤ k) (h : xs.take k = ys.take k) : xs = ys := by
  rwa [List.take_of_length_le h1, List.take_of_length_le h2] at h
theorem get_some {α : Type} {l : List α} {k : Nat} (h : k < l.length) : ∃ x, l[k]? = some x := ⟨l[k], List.getElem?_eq_getElem h⟩

theorem map_at {α β : Type} {l : List α} {f : α → β} {k : Nat} {x : α} (h : l[k]? = some x) : (l.map f)[k]? = some (f x) := by rw [List.getElem?_map, h]; rfl
/-- a made row that has been filled up to k -/
def fillV (z : Value) (xs : List Value) (k : Nat) : List Value := xs.take k ++ List.replicate (xs.length - k) z
theorem fillV_zero (z : Value) (xs : List Value) : fillV z xs 0 = List.replicate xs.length z := by simp [fillV]
theorem fillV_all (z : Value) (xs : List Value) {k : Nat} (h : xs.length ≤ k) : fillV z xs k = xs := by
  rw [fillV, List.take_of_length_le h, Nat.sub_eq_zero_of_le h]; simp
theorem fillV_at (z : Value) (xs : List Value) {k : Nat} (h : k < xs.length) : (fillV z xs k)[k]? = some z := by
  rw [fillV, List.getElem?_append_right (by simp; omega)]
  rw [List.getElem?_replicate, if_pos (by simp; omega)]
theorem fillV_set (z : Value) (xs : List Value) {k : Nat} {v : Value} (h : xs[k]? = some v) : (fillV z xs k).set k v = fillV z xs (k + 1) := by
  obtain ⟨hk, hv⟩ := List.getElem?_eq_some_iff.1 h
  have h1 : (xs.take k).length = k := by rw [List.length_take]; omega
  rw [fillV, fillV, List.set_append_right _ _ (by omega), h1, Nat.sub_self, List.take_add_one, h]
  obtain ⟨m, hm⟩ : ∃ m, xs.length - k = m + 1 := ⟨xs.length - k - 1, by omega⟩
  rw [hm, List.replicate_succ, List.set_cons_zero, show xs.length - (k + 1) = m from by omega]
  simp

/-- the place of the first of which p holds; -1 if there is none -/
def firstB {α : Type} (p : α → Bool) (xs : List α) : Int := match xs.findIdx? p with | some i => (i : Int) | none => -1
theorem firstB_hit {α : Type} {p : α → Bool} {xs : List α} {k : Nat} {x : α} (h : xs[k]? = some x) (hk : (xs.take k).all (fun y => !p y) = true) (hp : p x = true) : firstB p xs = k := by
  unfold firstB; rw [(find_hit h hk hp).1]
theorem firstB_none {α : Type} {p : α → Bool} {xs : List α} {k : Nat} (h : xs.length ≤ k) (hk : (xs.take k).all (fun y => !p y) = true) : firstB p xs = -1 := by
  unfold firstB; rw [(find_none h hk).1]
theorem firstB_ge {α : Type} (p : α → Bool) (xs : List α) : -1 ≤ firstB p xs ∧ firstB p xs < xs.length ∧ decide (0 ≤ firstB p xs) = xs.any p := by
  unfold firstB
  cases h : xs.findIdx? p with
  | none =>
    refine ⟨by simp, by simp; omega, ?_⟩
    rw [List.findIdx?_eq_none_iff] at h
    symm; simpa using h
  | some i =>
    obtain ⟨h1, h2, _⟩ := List.findIdx?_eq_some_iff_getElem.1 h
    refine ⟨by simp only; omega, by simp only; omega, ?_⟩
    symm; simp only [Int.natCast_nonneg, decide_true, List.any_eq_true]
    exact ⟨xs[i], List.getElem_mem h1, h2⟩

/-- n zeros -/
def zerosL (n : Nat) : List Int := List.replicate n 0
theorem zerosL_length (n : Nat) : (zerosL n).length = n := by simp [zerosL]
theorem zerosL_vals (n : Nat) : (zerosL n).map (Value.int .i64) = List.replicate n (.int .i64 0) := by simp [zerosL]

theorem Row.add {w : World} {ad : Addr} {vs : List Value} (h : Row w (some ad) vs) : ∀ j u, vs[j]? = some u → w.cell? (ad.add j) = some u := fun j u hj => by
  obtain ⟨b, off, ha, hc⟩ := h j u hj
  simp only [Option.some.injEq] at ha
  subst ha
  unfold Addr.add
  split
  · subst_vars; exact hc
  · exact hc
theorem RI.none {w : World} {xs : List Int} (h : RI w none xs) : xs = [] := by
  cases xs with
  | nil => rfl
  | cons x r => obtain ⟨b, off, ha, _⟩ := h.at (j := 0) (x := x) rfl; cases ha
theorem ints_one (xs : List Int) : ∀ u ∈ xs.map (Value.int .i64), u.oneCell' = true := by
  intro u hu; obtain ⟨_, _, rfl⟩ := List.mem_map.1 hu; rfl

/-- are two lists one? -/
def eqB {α : Type} [DecidableEq α] (xs ys : List α) : Bool := decide (xs = ys)
theorem eqB_yes {α : Type} [DecidableEq α] {xs ys : List α} (h : xs = ys) : eqB xs ys = true := decide_eq_true h
theorem eqB_no {α : Type} [DecidableEq α] {xs ys : List α} (h : ¬ xs = ys) : eqB xs ys = false := decide_eq_false h
theorem eqB_refl {α : Type} [DecidableEq α] (xs : List α) : eqB xs xs = true := eqB_yes rfl
theorem eqB_eq {α : Type} [DecidableEq α] {xs ys : List α} (h : eqB xs ys = true) : xs = ys := of_decide_eq_true h

/-- 'left' less a length; -1 below 0 -/
def szI (left : Int) (n : Nat) : Int := if left - n < 0 then -1 else left - n
theorem szI_neg {left : Int} {n : Nat} (h : szI left n < 0) : szI left n = -1 := by
  unfold szI at *; split at h
  · rw [if_pos (by assumption)]
  · omega
theorem szI_fits {left : Int} {n : Nat} (h : ¬ szI left n < 0) : szI left n = left - n ∧ (n : Int) ≤ left := by
  unfold szI at *; split at h
  · omega
  · rw [if_neg (by assumption)]; omega
theorem below_alloc2 (w : World) (o o' : Obj) : Below w.heap.size w ((w.alloc o).alloc o') := bthen (below_alloc o) (below_alloc o')
theorem below_alloc3 (w : World) (o o' o'' : Obj) : Below w.heap.size w (((w.alloc o).alloc o').alloc o'') := bthen (below_alloc2 w o o') (below_alloc o'')
theorem below_alloc4 (w : World) (o o' o'' o3 : Obj) : Below w.heap.size w ((((w.alloc o).alloc o').alloc o'').alloc o3) := bthen (below_alloc3 w o o' o'') (below_alloc o3)
theorem below_alloc5 (w : World) (o o' o'' o3 o4 : Obj) : Below w.heap.size w (((((w.alloc o).alloc o').alloc o'').alloc o3).alloc o4) := bthen (below_alloc4 w o o' o'' o3) (below_alloc o4)
theorem below_alloc6 (w : World) (o o' o'' o3 o4 o5 : Obj) : Below w.heap.size w ((((((w.alloc o).alloc o').alloc o'').alloc o3).alloc o4).alloc o5) := bthen (below_alloc5 w o o' o'' o3 o4) (below_alloc o5)
theorem small {n : Nat} (h : n ≤ 1048576) : n ≤ maxLen := by simp only [maxLen]; omega
/-- the cells and marks that lay below, as rules of the walk -/
theorem bcell {W w1 : World} (hb : Below W.heap.size W w1) : (∀ b o, b < W.heap.size → w1.cell? ⟨b, o, none⟩ = W.cell? ⟨b, o, none⟩) ∧ (∀ b o, b < W.heap.size → w1.frozen? ⟨b, o, none⟩ = W.frozen? ⟨b, o, none⟩) :=
  ⟨fun b o h => hb.cell (p := ⟨b, o, none⟩) h, fun b o h => hb.frozen (p := ⟨b, o, none⟩) h⟩
theorem own_mono {w : World} {B B' e size n : Nat} {v : Value} {xs : List Value} (h : w.ownsRow B' e size v n xs) (hB : B ≤ B') : w.ownsRow B e size v n xs := by
  obtain ⟨h1, h2 | ⟨g, cap, cur, hv, hg, r⟩⟩ := h
  · exact ⟨h1, .inl h2⟩
  · exact ⟨h1, .inr ⟨g, cap, cur, hv, Nat.le_trans hB hg, r⟩⟩
/-- a cell that is there is there behind new blocks -/
theorem keep {w w' : World} (hb : Below w.heap.size w w') {p : Addr} {v : Value} (h : w.cell? p = some v) : w'.cell? p = some v :=
  (hb.cell (World.block_lt_of_cell? w p h)).trans h
theorem own_RI {w : World} {B e : Nat} {a : Option Addr} {n c : Nat} {xs : List Int} (h : w.ownsRow B e 1 (.slice a n c) n (xs.map (Value.int .i64))) : RI w a xs := by
  obtain ⟨a', c', hv, hr, _⟩ := own_slice h
  simp only [Value.slice.injEq] at hv
  obtain ⟨rfl, _, _⟩ := hv
  exact hr
/-- a cell that may be written may be written behind new blocks -/
theorem keepf {w w' : World} (hb : Below w.heap.size w w') {p : Addr} {v : Value} (h : w.cell? p = some v) (hf : w.frozen? p = false) : w'.frozen? p = false :=
  (hb.frozen (World.block_lt_of_cell? w p h)).trans hf
theorem below_grown {w w' : World} (h : w.grownBy w' none) : Below w.heap.size w w' := (Below.refl _ _).grown h (Nat.le_refl _) (by simp)
theorem szI_bd {left : Int} {n : Nat} (h0 : 0 ≤ left) (h1 : left ≤ 1048576) : -1 ≤ szI left n ∧ szI left n ≤ 1048576 := by
  unfold szI; split <;> omega
/-! ### rows that a call has made, with the blocks between which they lie; steps that write there alone -/
/-- nothing has turned but blocks from lo on, below hi; new blocks may lie behind -/
structure Within (lo hi : Nat) (w w' : World) : Prop where
  os : w'.os = w.os
  tape : w'.tape = w.tape
  output : w'.output = w.output
  size : w.heap.size ≤ w'.heap.size
  block : ∀ k, k < w.heap.size → ¬ (lo ≤ k ∧ k < hi) → w'.heap[k]? = w.heap[k]?
theorem Within.refl (lo hi : Nat) (w : World) : Within lo hi w w := ⟨rfl, rfl, rfl, Nat.le_refl _, fun _ _ _ => rfl⟩
theorem Within.trans {lo hi : Nat} {a b c : World} (h : Within lo hi a b) (k : Within lo hi b c) : Within lo hi a c :=
  ⟨k.os.trans h.os, k.tape.trans h.tape, k.output.trans h.output, Nat.le_trans h.size k.size, fun i hi hn => (k.block i (Nat.lt_of_lt_of_le hi h.size) hn).trans (h.block i hi hn)⟩
theorem Within.of_below {lo hi : Nat} {w w' : World} (h : Below w.heap.size w w') : Within lo hi w w' := ⟨h.os, h.tape, h.output, h.size, fun k hk _ => h.block k hk⟩
theorem Within.wider {lo hi lo' hi' : Nat} {w w' : World} (h : Within lo hi w w') (h1 : lo' ≤ lo) (h2 : hi ≤ hi') : Within lo' hi' w w' :=
  ⟨h.os, h.tape, h.output, h.size, fun k hk hn => h.block k hk (fun e => hn ⟨by omega, by omega⟩)⟩
theorem Within.setCell {lo hi : Nat} {w w' : World} (h : Within lo hi w w') {p : Addr} (h1 : lo ≤ p.block) (h2 : p.block < hi) (u : Value) : Within lo hi w (w'.setCell p u) :=
  h.trans ⟨rfl, rfl, rfl, by simp [World.setCell], fun k _ hn => Below.heap_setCell _ _ _ _ (fun e => hn (by omega))⟩
theorem Within.below {lo hi B : Nat} {w0 w w' : World} (h : Within lo hi w w') (hb : Below B w0 w) (h1 : B ≤ lo) (h2 : B ≤ w.heap.size) : Below B w0 w' :=
  hb.trans ⟨h.os, h.tape, h.output, h.size, fun k hk => h.block k (by omega) (fun e => by omega)⟩
theorem Within.cell {lo hi : Nat} {w w' : World} (h : Within lo hi w w') {p : Addr} {v : Value} (hc : w.cell? p = some v) (hp : p.block < lo ∨ hi ≤ p.block) : w'.cell? p = some v := by
  have hlt := World.block_lt_of_cell? w p hc
  exact (World.cell?_of_block (w := w) (h.block p.block hlt (fun e => by omega))).trans hc

/-- a row of the call's own that lies in blocks from lo on, below hi -/
def OV (lo hi : Nat) (w : World) (e size : Nat) (a : Option Addr) (n c : Nat) (vs : List Value) : Prop :=
  w.ownsRow lo e size (.slice a n c) n vs ∧ ∀ p, a = some p → p.block < hi
theorem OV.of {w' : World} {lo e size n c : Nat} {a : Option Addr} {vs : List Value} (h : w'.ownsRow lo e size (.slice a n c) n vs) : OV lo w'.heap.size w' e size a n c vs :=
  ⟨h, fun p hp => by subst hp; exact (h.lt p.block rfl).2⟩
theorem OV.row {w : World} {lo hi e size n c : Nat} {a : Option Addr} {vs : List Value} (h : OV lo hi w e size a n c vs) : Row w a vs := by
  obtain ⟨a', c', hv, hr, _⟩ := own_slice h.1
  simp only [Value.slice.injEq] at hv
  obtain ⟨rfl, _, _⟩ := hv
  exact hr
theorem OV.within {w w' : World} {lo hi lo' hi' e size n c : Nat} {a : Option Addr} {vs : List Value} (h : OV lo hi w e size a n c vs) (hw : Within lo' hi' w w') (hd : hi ≤ lo' ∨ hi' ≤ lo) : OV lo hi w' e size a n c vs := by
  refine ⟨?_, h.2⟩
  obtain ⟨h1, h2 | ⟨g, cap, cur, hv, hg, hc, r⟩⟩ := h.1
  · exact ⟨h1, .inl h2⟩
  · simp only [Value.slice.injEq] at hv
    have hlt : g < hi := h.2 _ hv.1
    refine ⟨h1, .inr ⟨g, cap, cur, by rw [hv.1, hv.2.2], hg, ?_, r⟩⟩
    rw [hw.block g (Array.getElem?_eq_some_iff.1 hc).1 (fun e => by omega)]; exact hc
theorem OV.kept {w w' : World} {lo hi e size n c : Nat} {a : Option Addr} {vs : List Value} (h : OV lo hi w e size a n c vs) (hb : Below w.heap.size w w') : OV lo hi w' e size a n c vs :=
  h.within (Within.of_below (lo := hi) (hi := hi) hb) (Or.inl (Nat.le_refl _))
theorem OV.addr {w : World} {lo hi e size n c : Nat} {a : Option Addr} {vs : List Value} (h : OV lo hi w e size a n c vs) (hn : 0 < n) : ∃ g, a = some ⟨g, 0, none⟩ ∧ lo ≤ g ∧ g < hi := by
  obtain ⟨h1, ⟨h2, h3⟩ | ⟨g, cap, cur, hv, hg, hc, r⟩⟩ := h.1
  · omega
  · simp only [Value.slice.injEq] at hv
    exact ⟨g, hv.1, hg, h.2 _ hv.1⟩
theorem OV.store {w : World} {lo hi e size n c g : Nat} {vs : List Value} (h : OV lo hi w e size (some ⟨g, 0, none⟩) n c vs) (j : Nat) (u : Value) : OV lo hi (w.setCell ⟨g, j, none⟩ u) e size (some ⟨g, 0, none⟩) n c (vs.set j u) :=
  ⟨(h.1.stored j u).1, h.2⟩
theorem OV.len {w : World} {lo hi e size n c : Nat} {a : Option Addr} {vs : List Value} (h : OV lo hi w e size a n c vs) : vs.length = n * size := h.1.1
/-- where a row that a call has made lies -/
theorem own_at {w : World} {B e size n c : Nat} {a : Option Addr} {vs : List Value} (h : w.ownsRow B e size (.slice a n c) n vs) {p : Addr} (hp : a = some p) : B ≤ p.block ∧ p.block < w.heap.size := by
  subst hp
  exact h.lt p.block rfl
theorem OV.tight {w : World} {lo hi e size n c B : Nat} {a : Option Addr} {vs : List Value} (h : OV lo hi w e size a n c vs) (hB : ∀ p, a = some p → ¬ p.block = B) :
    ∃ lo' hi', lo ≤ lo' ∧ hi' ≤ hi ∧ OV lo' hi' w e size a n c vs ∧ (B < lo' ∨ hi' ≤ B) := by
  obtain ⟨h1, ⟨h2, h3⟩ | ⟨g, cap, cur, hv, hg, hc, r⟩⟩ := h.1
  · exact ⟨max lo (B + 1), hi, Nat.le_max_left _ _, Nat.le_refl _, ⟨⟨h1, .inl ⟨h2, h3⟩⟩, h.2⟩, Or.inl (by omega)⟩
  · simp only [Value.slice.injEq] at hv
    have h5 := hB _ hv.1
    have h6 := h.2 _ hv.1
    refine ⟨g, g + 1, hg, h6, ⟨⟨h1, .inr ⟨g, cap, cur, by rw [hv.1, hv.2.2], Nat.le_refl _, hc, r⟩⟩, fun p hp => ?_⟩, ?_⟩
    · rw [hv.1] at hp; cases hp; exact Nat.lt_succ_self _
    · simp only at h5; omega
/-- a row of integers of the call's own -/
def OI (lo hi : Nat) (w : World) (e : Nat) (a : Option Addr) (c : Nat) (xs : List Int) : Prop := OV lo hi w e 1 a xs.length c (xs.map (Value.int .i64))
theorem OI.of {w' : World} {lo e c : Nat} {a : Option Addr} {xs : List Int} (h : w'.ownsRow lo e 1 (.slice a xs.length c) xs.length (xs.map (Value.int .i64))) : OI lo w'.heap.size w' e a c xs := OV.of h
theorem OI.RI {w : World} {lo hi e c : Nat} {a : Option Addr} {xs : List Int} (h : OI lo hi w e a c xs) : RI w a xs := OV.row h
theorem OI.kept {w w' : World} {lo hi e c : Nat} {a : Option Addr} {xs : List Int} (h : OI lo hi w e a c xs) (hb : Below w.heap.size w w') : OI lo hi w' e a c xs := OV.kept h hb
theorem OI.tight {w : World} {lo hi e c B : Nat} {a : Option Addr} {xs : List Int} (h : OI lo hi w e a c xs) (hB : ∀ p, a = some p → ¬ p.block = B) : ∃ lo' hi', lo ≤ lo' ∧ hi' ≤ hi ∧ OI lo' hi' w e a c xs ∧ (B < lo' ∨ hi' ≤ B) := OV.tight h hB
theorem OI.within {w w' : World} {lo hi lo' hi' e c : Nat} {a : Option Addr} {xs : List Int} (h : OI lo hi w e a c xs) (hw : Within lo' hi' w w') (hd : hi ≤ lo' ∨ hi' ≤ lo) : OI lo hi w' e a c xs := OV.within h hw hd

theorem OV.wider {w : World} {lo hi lo' hi' e size n c : Nat} {a : Option Addr} {vs : List Value} (h : OV lo hi w e size a n c vs) (h1 : lo' ≤ lo) (h2 : hi ≤ hi') : OV lo' hi' w e size a n c vs :=
  ⟨own_mono h.1 h1, fun p hp => Nat.lt_of_lt_of_le (h.2 p hp) h2⟩
theorem RI.kept0 {w w' : World} {a : Option Addr} {xs : List Int} (h : RI w a xs) (hb : Below w.heap.size w w') : RI w' a xs := h.kept hb
/-- a row that a call has made, behind a new block, and behind a store into an older block -/
theorem cut_alloc {w : World} {lo lo' e c : Nat} {a : Option Addr} {xs : List Int} (h : w.ownsRow lo' e 1 (.slice a xs.length c) xs.length (xs.map (Value.int .i64))) (o : Obj) (h1 : lo ≤ lo') : OI lo (w.alloc o).heap.size (w.alloc o) e a c xs :=
  ((OI.of (own_mono h h1)).kept (below_alloc o)).wider (Nat.le_refl _) (by simp)
theorem cut_set {w : World} {lo lo' e c B : Nat} {a : Option Addr} {xs : List Int} (h : w.ownsRow lo' e 1 (.slice a xs.length c) xs.length (xs.map (Value.int .i64))) (u : Value) (h1 : lo ≤ lo') (h2 : B < lo') : OI lo (w.setCell ⟨B, 0, none⟩ u).heap.size (w.setCell ⟨B, 0, none⟩ u) e a c xs :=
  OI.of (own_mono (ownsRow_setCell_below h (by exact h2) u) h1)
theorem below_realloc {B : Nat} {w W : World} {o o' : Obj} (h : Below B w (W.alloc o)) (hB : B ≤ W.heap.size) : Below B w (W.alloc o') :=
  ⟨h.os, h.tape, h.output, by have := h.size; simpa using this, fun k hk => by
    have := h.block k hk
    rw [← this, Below.heap_alloc _ _ _ (by omega), Below.heap_alloc _ _ _ (by omega)]⟩
theorem held1 {r W : World} {p1 : Addr} {v1 : Value} (hb : Below r.heap.size r W) (h1 : r.cell? p1 = some v1) : Below r.heap.size r W ∧ W.cell? p1 = some v1 := ⟨hb, keep hb h1⟩
theorem held2 {r W : World} {p1 p2 : Addr} {v1 v2 : Value} (hb : Below r.heap.size r W) (h1 : r.cell? p1 = some v1) (h2 : r.cell? p2 = some v2) : Below r.heap.size r W ∧ W.cell? p1 = some v1 ∧ W.cell? p2 = some v2 := ⟨hb, keep hb h1, keep hb h2⟩
theorem held3 {r W : World} {p1 p2 p3 : Addr} {v1 v2 v3 : Value} (hb : Below r.heap.size r W) (h1 : r.cell? p1 = some v1) (h2 : r.cell? p2 = some v2) (h3 : r.cell? p3 = some v3) : Below r.heap.size r W ∧ W.cell? p1 = some v1 ∧ W.cell? p2 = some v2 ∧ W.cell? p3 = some v3 := ⟨hb, keep hb h1, keep hb h2, keep hb h3⟩
theorem held4 {r W : World} {p1 p2 p3 p4 : Addr} {v1 v2 v3 v4 : Value} (hb : Below r.heap.size r W) (h1 : r.cell? p1 = some v1) (h2 : r.cell? p2 = some v2) (h3 : r.cell? p3 = some v3) (h4 : r.cell? p4 = some v4) : Below r.heap.size r W ∧ W.cell? p1 = some v1 ∧ W.cell? p2 = some v2 ∧ W.cell? p3 = some v3 ∧ W.cell? p4 = some v4 := ⟨hb, keep hb h1, keep hb h2, keep hb h3, keep hb h4⟩
theorem held5 {r W : World} {p1 p2 p3 p4 p5 : Addr} {v1 v2 v3 v4 v5 : Value} (hb : Below r.heap.size r W) (h1 : r.cell? p1 = some v1) (h2 : r.cell? p2 = some v2) (h3 : r.cell? p3 = some v3) (h4 : r.cell? p4 = some v4) (h5 : r.cell? p5 = some v5) : Below r.heap.size r W ∧ W.cell? p1 = some v1 ∧ W.cell? p2 = some v2 ∧ W.cell? p3 = some v3 ∧ W.cell? p4 = some v4 ∧ W.cell? p5 = some v5 := ⟨hb, keep hb h1, keep hb h2, keep hb h3, keep hb h4, keep hb h5⟩
theorem held6 {r W : World} {p1 p2 p3 p4 p5 p6 : Addr} {v1 v2 v3 v4 v5 v6 : Value} (hb : Below r.heap.size r W) (h1 : r.cell? p1 = some v1) (h2 : r.cell? p2 = some v2) (h3 : r.cell? p3 = some v3) (h4 : r.cell? p4 = some v4) (h5 : r.cell? p5 = some v5) (h6 : r.cell? p6 = some v6) : Below r.heap.size r W ∧ W.cell? p1 = some v1 ∧ W.cell? p2 = some v2 ∧ W.cell? p3 = some v3 ∧ W.cell? p4 = some v4 ∧ W.cell? p5 = some v5 ∧ W.cell? p6 = some v6 := ⟨hb, keep hb h1, keep hb h2, keep hb h3, keep hb h4, keep hb h5, keep hb h6⟩

/-- the marks k, k + 1, .. -/
def marksL (k : Int) (n : Nat) : List Int := (List.range n).map fun (j : Nat) => k + (j : Int)
theorem marksL_length (k : Int) (n : Nat) : (marksL k n).length = n := by simp [marksL]
theorem marksL_at (k : Int) {n j : Nat} (h : j < n) : (marksL k n)[j]? = some (k + j) := by simp [marksL, h]
/-- the first j are marked -/
def markUp (k : Int) (xs : List Int) (j : Nat) : List Int := marksL k j ++ xs.drop j
theorem markUp_zero (k : Int) (xs : List Int) : markUp k xs 0 = xs := by simp [markUp, marksL]
theorem markUp_all (k : Int) (xs : List Int) {j : Nat} (h : j = xs.length) : markUp k xs j = marksL k xs.length := by subst h; simp [markUp]
theorem markUp_set (k : Int) (xs : List Int) {j : Nat} (h : j < xs.length) : ((markUp k xs j).map (Value.int .i64)).set j (.int .i64 (k + j)) = (markUp k xs (j + 1)).map (Value.int .i64) := by
  have h1 : (marksL k j).length = j := marksL_length k j
  rw [markUp, markUp, List.map_append, List.set_append_right _ _ (by simp [h1]), List.length_map, h1, Nat.sub_self, List.drop_eq_getElem_cons h, List.map_cons, List.set_cons_zero]
  simp [marksL, List.range_succ]
theorem markUp_at (k : Int) (xs : List Int) {j : Nat} (h : j < xs.length) : ∃ x, ((markUp k xs j).map (Value.int .i64))[j]? = some x := by
  have h1 : (marksL k j).length = j := marksL_length k j
  exact get_some (by simp [markUp, h1]; omega)
theorem markUp_length (k : Int) (xs : List Int) {j : Nat} (h : j ≤ xs.length) : (markUp k xs j).length = xs.length := by
  simp [markUp, marksL_length]; omega

#print axioms own_slice
end Go.Proofs.YtcbjfgjlhjjpiaaDoor
