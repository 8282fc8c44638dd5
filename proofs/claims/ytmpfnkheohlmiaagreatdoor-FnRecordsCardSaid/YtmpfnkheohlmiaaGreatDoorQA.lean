/- Plain lemmas that the walks of this seat use: bytes of a text, lists, the numbers of punched columns. No program in sight. Rows of cells as they are read: what a slice's cells hold, carried over new blocks; rows that a call has made itself. No program in sight. The tables that rows list: laid in a world, read out of a row's condition. Rows of texts, of bytes and of items, and decks: what slices of them hold, and which of them a call has made itself. No program in sight. Items and layouts: what rows of items hold. No program in sight. -/
import Derived.WalkKit
import Derived.Handy
import Derived.Lib.Hide
import Derived.WalkSmall
import Derived.Test.YtmpfnkheohlmiaaGreatDoorRows
import Derived.Lib.LaidTab
import Derived.Lib.LaidU8
import Derived.LaidSub
import Derived.Lib.ItoaNum
namespace Go.Proofs.YtmpfnkheohlmiaaGreatDoor
open Go.RowKit

/-! ### bytes -/
def smallB (c : Int) : Bool := decide (97 ≤ c) && decide (c ≤ 122)
def digitB (c : Int) : Bool := decide (48 ≤ c) && decide (c ≤ 57)
def nameB (c : Int) : Bool := smallB c || digitB c || (c == 45)
def letterB (c : Int) : Bool := (c == 109) || (c == 110) || (c == 115) || (c == 100)

/-- does a number lie between two others? -/
def inB (n lo hi : Int) : Bool := decide (lo ≤ n) && decide (n ≤ hi)
theorem inB_true {n lo hi : Int} : inB n lo hi = true ↔ lo ≤ n ∧ n ≤ hi := by simp [inB]
theorem inB_false {n lo hi : Int} : inB n lo hi = false ↔ ¬ (lo ≤ n ∧ n ≤ hi) := by rw [← inB_true]; simp
theorem len_bytes (s : ByteArray) : s.data.toList.length = s.size := by
  rw [Array.length_toList]; rfl
theorem get_bytes (s : ByteArray) (k : Nat) (h : k < s.size) : s.data.toList[k]? = some s[k] := by
  rw [List.getElem?_eq_getElem (by rw [len_bytes]; exact h)]; rfl
theorem toList_eq (s : ByteArray) : s.toList = s.data.toList := by
  exact ByteArray.toList_eq s
theorem empty_text {s : ByteArray} (h : s.size = 0) : s.toList = [] ∧ s.toList.isEmpty = true := by
  have : s.toList = [] := by rw [toList_eq]; exact List.eq_nil_of_length_eq_zero (by rw [len_bytes]; exact h)
  exact ⟨this, by rw [this]; rfl⟩
theorem full_text {s : ByteArray} (h : ¬ s.size = 0) : ¬ s.toList = [] ∧ s.toList.isEmpty = false := by
  have : ¬ s.toList = [] := fun e => h (by rw [toList_eq] at e; rw [← len_bytes, e]; rfl)
  exact ⟨this, by simpa using this⟩
theorem byte_lt (c : UInt8) : (c.toNat : Int) < 256 := by have := UInt8.toNat_lt c; omega

/-! ### lists -/
theorem all_succ {α : Type} {l : List α} {p : α → Bool} {k : Nat} {x : α} (h : l[k]? = some x) (hk : (l.take k).all p = true) (hp : p x = true) : (l.take (k + 1)).all p = true := by
  obtain ⟨h1, h2⟩ := List.getElem?_eq_some_iff.1 h
  rw [List.take_succ_eq_append_getElem h1, List.all_append, hk, h2, List.all_cons, hp]; rfl
theorem all_not {α : Type} {l : List α} {p : α → Bool} {k : Nat} {x : α} (h : l[k]? = some x) (hp : p x = false) : l.all p = false := by
  rw [List.all_eq_false]; exact ⟨x, List.mem_of_getElem? h, fun e => by rw [hp] at e; cases e⟩
theorem all_take {α : Type} {l : List α} {p : α → Bool} {k : Nat} (h : l.length ≤ k) (hk : (l.take k).all p = true) : l.all p = true := by
  rwa [List.take_of_length_le h] at hk
theorem find_hit {α : Type} {l : List α} {p : α → Bool} {k : Nat} {x : α} (h : l[k]? = some x) (hk : (l.take k).all (fun y => !p y) = true) (hp : p x = true) : l.findIdx? p = some k ∧ l.find? p = some x := by
  induction l generalizing k with
  | nil => cases h
  | cons y r ih =>
    cases k with
    | zero => simp only [List.getElem?_cons_zero, Option.some.injEq] at h; subst h; simp [List.findIdx?_cons, hp]
    | succ k =>
      simp only [List.getElem?_cons_succ] at h
      simp only [List.take_succ_cons, List.all_cons, Bool.and_eq_true, Bool.not_eq_true'] at hk
      obtain ⟨i1, i2⟩ := ih h hk.2
      simp [List.findIdx?_cons, hk.1, i1, i2]
theorem find_none {α : Type} {l : List α} {p : α → Bool} {k : Nat} (h : l.length ≤ k) (hk : (l.take k).all (fun y => !p y) = true) : l.findIdx? p = none ∧ l.find? p = none := by
  rw [List.take_of_length_le h] at hk
  simp only [List.all_eq_true, Bool.not_eq_true'] at hk
  exact ⟨by rw [List.findIdx?_eq_none_iff]; exact hk, by rw [List.find?_eq_none]; exact fun x hx => by rw [hk x hx]; simp⟩
theorem ret_int {k : IntKind} {a b : Int} (h : a = b) : Ending.returned (.int k a) = .returned (.int k b) := by rw [h]
theorem ret_ib {k : IntKind} {a a' : Int} {b b' : Bool} (h : a = a') (h' : b = b') : Ending.returned (.tuple #[.int k a, .bool b]) = .returned (.tuple #[.int k a', .bool b']) := by rw [h, h']
theorem ret_ii {k l : IntKind} {a a' b b' : Int} (h : a = a') (h' : b = b') : Ending.returned (.tuple #[.int k a, .int l b]) = .returned (.tuple #[.int k a', .int l b']) := by rw [h, h']
theorem ret_bool {a b : Bool} (h : a = b) : Ending.returned (.bool a) = .returned (.bool b) := by rw [h]

/-! ### names and program cards -/
def isNameL (l : List UInt8) : Bool := decide (1 ≤ l.length) && decide (l.length ≤ 12) && (match l with | [] => false | c :: _ => smallB c.toNat) && l.all (fun c => nameB c.toNat)
theorem isName_len {l : List UInt8} (h : l.length < 1 ∨ 12 < l.length) : isNameL l = false := by
  unfold isNameL
  rcases h with h | h
  · rw [decide_eq_false (show ¬ 1 ≤ l.length by omega)]; rfl
  · rw [decide_eq_false (show ¬ l.length ≤ 12 by omega)]; simp
theorem isName_first {l : List UInt8} {c : UInt8} (h : l[0]? = some c) (hc : smallB c.toNat = false) : isNameL l = false := by
  cases l with
  | nil => cases h
  | cons d r => simp only [List.getElem?_cons_zero, Option.some.injEq] at h; subst h; simp [isNameL, hc]
theorem isName_not {l : List UInt8} {k : Nat} {c : UInt8} (h : l[k]? = some c) (hc : nameB c.toNat = false) : isNameL l = false := by
  unfold isNameL; rw [all_not h hc]; simp
theorem isName_yes {l : List UInt8} {c : UInt8} {k : Nat} (h1 : ¬ l.length < 1) (h2 : ¬ 12 < l.length) (h : l[0]? = some c) (hc : smallB c.toNat = true) (hk : l.length ≤ k) (ha : (l.take k).all (fun c => nameB c.toNat) = true) : isNameL l = true := by
  cases l with
  | nil => cases h
  | cons d r =>
    simp only [List.getElem?_cons_zero, Option.some.injEq] at h; subst h
    have := all_take hk ha
    unfold isNameL
    rw [this, decide_eq_true (show 1 ≤ (d :: r).length by omega), decide_eq_true (show (d :: r).length ≤ 12 by omega)]
    simp only [hc]; rfl

def validProgL (l : List UInt8) : Bool := l.all (fun c => letterB c.toNat) && inB l.length 1 20
theorem validProg_not {l : List UInt8} {k : Nat} {c : UInt8} (h : l[k]? = some c) (hc : letterB c.toNat = false) : validProgL l = false := by
  unfold validProgL; rw [all_not h hc]; rfl
theorem validProg_end {l : List UInt8} {k : Nat} (hk : l.length ≤ k) (ha : (l.take k).all (fun c => letterB c.toNat) = true) : validProgL l = inB l.length 1 20 := by
  unfold validProgL; rw [all_take hk ha]; rfl

#print axioms isName_yes
end Go.Proofs.YtmpfnkheohlmiaaGreatDoor
namespace Go.Proofs.YtmpfnkheohlmiaaGreatDoor
open Go.RowKit

/-- the cells from an address on hold these values -/
def Row (w : World) (a : Option Addr) (xs : List Value) : Prop :=
  ∀ j v, xs[j]? = some v → ∃ b off, a = some ⟨b, off, none⟩ ∧ w.cell? ⟨b, off + j, none⟩ = some v
/-- the cells from an address on hold these integers -/
def RI (w : World) (a : Option Addr) (xs : List Int) : Prop := Row w a (xs.map (Value.int .i64))

theorem Row.at {w : World} {a : Option Addr} {xs : List Value} (h : Row w a xs) {j : Nat} {v : Value} (hj : xs[j]? = some v) :
    ∃ b off, a = some ⟨b, off, none⟩ ∧ w.cell? ⟨b, off + j, none⟩ = some v := h j v hj
theorem RI.at {w : World} {a : Option Addr} {xs : List Int} (h : RI w a xs) {j : Nat} {x : Int} (hj : xs[j]? = some x) :
    ∃ b off, a = some ⟨b, off, none⟩ ∧ w.cell? ⟨b, off + j, none⟩ = some (.int .i64 x) := h j _ (by rw [List.getElem?_map, hj]; rfl)
theorem Row.below {w w' : World} {B : Nat} {a : Option Addr} {xs : List Value} (h : Row w a xs) (hb : Below B w w') (hB : w.heap.size ≤ B) : Row w' a xs := fun j v hj => by
  obtain ⟨b, off, ha, hc⟩ := h j v hj
  have hlt : b < w.heap.size := World.block_lt_of_cell? w _ hc
  exact ⟨b, off, ha, (hb.cell (p := ⟨b, off + j, none⟩) (Nat.lt_of_lt_of_le hlt hB)).trans hc⟩
theorem RI.below {w w' : World} {B : Nat} {a : Option Addr} {xs : List Int} (h : RI w a xs) (hb : Below B w w') (hB : w.heap.size ≤ B) : RI w' a xs := Row.below h hb hB
theorem Row.kept {w w' : World} {a : Option Addr} {xs : List Value} (h : Row w a xs) (hb : Below w.heap.size w w') : Row w' a xs := h.below hb (Nat.le_refl _)
theorem RI.kept {w w' : World} {a : Option Addr} {xs : List Int} (h : RI w a xs) (hb : Below w.heap.size w w') : RI w' a xs := h.below hb (Nat.le_refl _)
theorem Row.nil (w : World) (a : Option Addr) : Row w a [] := fun j v h => by simp at h
theorem RI.nil (w : World) (a : Option Addr) : RI w a [] := Row.nil w a
theorem Row.off {w : World} {b off : Nat} {xs : List Value} (h : Row w (some ⟨b, off, none⟩) xs) {j : Nat} {v : Value} (hj : xs[j]? = some v) : w.cell? ⟨b, off + j, none⟩ = some v := by
  obtain ⟨b', off', ha, hc⟩ := h j v hj
  simp only [Option.some.injEq, Addr.mk.injEq] at ha
  obtain ⟨rfl, rfl, _⟩ := ha
  exact hc
/-- the kit has two of this name: here the one that keeps a bound -/
theorem below_drewN {B : Nat} {a w : World} (h : Below B a w) (n : Nat) : Below B a (w.drewN n) := _root_.Go.below_drewN h n
theorem below_drewN' {B : Nat} {a w : World} (h : Below B a w) (n : Nat) : Below B a (w.drewN n) := below_drewN h n

/-- two steps, the second below the first's new size -/
theorem bthen {w w1 w2 : World} (h : Below w.heap.size w w1) (k : Below w1.heap.size w1 w2) : Below w.heap.size w w2 := h.trans (k.mono h.size)
theorem below_alloc {w : World} (o : Obj) : Below w.heap.size w (w.alloc o) := (Below.refl _ _).alloc (Nat.le_refl _) o

/-- a row that the call has made itself, as a slice that is read -/
theorem own_slice {w : World} {B e size n : Nat} {v : Value} {xs : List Value} (h : w.ownsRow B e size v n xs) : ∃ a c, v = .slice a n c ∧ Row w a xs ∧ n ≤ c ∧ c ≤ maxLen := by
  obtain ⟨hl, ⟨rfl, rfl⟩ | ⟨g, cap, cur, rfl, hg, hcur, hn, hm, hs, ht⟩⟩ := h
  · exact ⟨none, 0, rfl, by rw [show xs = [] from List.eq_nil_of_length_eq_zero (by omega)]; exact Row.nil _ _, Nat.le_refl _, by simp [maxLen]⟩
  · refine ⟨_, cap, rfl, fun j u hj => ⟨g, 0, rfl, ?_⟩, hn, hm⟩
    rw [Nat.zero_add, cell_of_row w g j cur e (0, 0) hcur]
    rw [← ht, List.getElem?_take] at hj
    split at hj
    · simpa using hj
    · cases hj

/-- what was read of two lists so far -/
theorem take_eq_succ {α : Type} {xs ys : List α} {k : Nat} {x y : α} (hx : xs[k]? = some x) (hy : ys[k]? = some y) (h : xs.take k = ys.take k) (hxy : x = y) : xs.take (k + 1) = ys.take (k + 1) := by
  rw [List.take_add_one, List.take_add_one, hx, hy, h, hxy]
theorem ne_of_at {α : Type} {xs ys : List α} {k : Nat} {x y : α} (hx : xs[k]? = some x) (hy : ys[k]? = some y) (h : x ≠ y) : xs ≠ ys := fun e => by
  subst e; rw [hx] at hy; exact h (Option.some.inj hy)
theorem eq_of_take {α : Type} {xs ys : List α} {k : Nat} (h1 : xs.length ≤ k) (h2 : ys.length ≤ k) (h : xs.take k = ys.take k) : xs = ys := by
  rwa [List.take_of_length_le h1, List.take_of_length_le h2] at h
theorem get_some {α : Type} {l : List α} {k : Nat} (h : k < l.length) : ∃ x, l[k]? = some x := ⟨l[k], List.getElem?_eq_getElem h⟩

theorem map_at {α β : Type} {l : List α} {f : α → β} {k : Nat} {x : α} (h : l[k]? = some x) : (l.map f)[k]? = some (f x) := by rw [List.getElem?_map, h]; rfl
/-- a made row that has been filled up to k -/
def fillV (z : Value) (xs : List Value) (k : Nat) : List Value := xs.take k ++ List.replicate (xs.length - k) z
theorem fillV_zero (z : Value) (xs : List Value) : fillV z xs 0 = List.replicate xs.length z := by simp [fillV]
theorem fillV_all (z : Value) (xs : List Value) {k : Nat} (h : xs.length ≤ k) : fillV z xs k = xs := by
  rw [fillV, List.take_of_length_le h, Nat.sub_eq_zero_of_le h]; simp
theorem fillV_at (z : Value) (xs : List Value) {k : Nat} (h : k < xs.length) : (fillV z xs k)[k]? = some z := by
  rw [fillV, List.getElem?_append_right (by simp; omega)]
  rw [List.getElem?_replicate, if_pos (by simp; omega)]
theorem fillV_set (z : Value) (xs : List Value) {k : Nat} {v : Value} (h : xs[k]? = some v) : (fillV z xs k).set k v = fillV z xs (k + 1) := by
  obtain ⟨hk, hv⟩ := List.getElem?_eq_some_iff.1 h
  have h1 : (xs.take k).length = k := by rw [List.length_take]; omega
  rw [fillV, fillV, List.set_append_right _ _ (by omega), h1, Nat.sub_self, List.take_add_one, h]
  obtain ⟨m, hm⟩ : ∃ m, xs.length - k = m + 1 := ⟨xs.length - k - 1, by omega⟩
  rw [hm, List.replicate_succ, List.set_cons_zero, show xs.length - (k + 1) = m from by omega]
  simp

/-- the place of the first of which p holds; -1 if there is none -/
def firstB {α : Type} (p : α → Bool) (xs : List α) : Int := match xs.findIdx? p with | some i => (i : Int) | none => -1
theorem firstB_hit {α : Type} {p : α → Bool} {xs : List α} {k : Nat} {x : α} (h : xs[k]? = some x) (hk : (xs.take k).all (fun y => !p y) = true) (hp : p x = true) : firstB p xs = k := by
  unfold firstB; rw [(find_hit h hk hp).1]
theorem firstB_none {α : Type} {p : α → Bool} {xs : List α} {k : Nat} (h : xs.length ≤ k) (hk : (xs.take k).all (fun y => !p y) = true) : firstB p xs = -1 := by
  unfold firstB; rw [(find_none h hk).1]
theorem firstB_ge {α : Type} (p : α → Bool) (xs : List α) : -1 ≤ firstB p xs ∧ firstB p xs < xs.length ∧ decide (0 ≤ firstB p xs) = xs.any p := by
  unfold firstB
  cases h : xs.findIdx? p with
  | none =>
    refine ⟨by simp, by simp; omega, ?_⟩
    rw [List.findIdx?_eq_none_iff] at h
    symm; simpa using h
  | some i =>
    obtain ⟨h1, h2, _⟩ := List.findIdx?_eq_some_iff_getElem.1 h
    refine ⟨by simp only; omega, by simp only; omega, ?_⟩
    symm; simp only [Int.natCast_nonneg, decide_true, List.any_eq_true]
    exact ⟨xs[i], List.getElem_mem h1, h2⟩

/-- n zeros -/
def zerosL (n : Nat) : List Int := List.replicate n 0
theorem zerosL_length (n : Nat) : (zerosL n).length = n := by simp [zerosL]
theorem zerosL_vals (n : Nat) : (zerosL n).map (Value.int .i64) = List.replicate n (.int .i64 0) := by simp [zerosL]

theorem Row.add {w : World} {ad : Addr} {vs : List Value} (h : Row w (some ad) vs) : ∀ j u, vs[j]? = some u → w.cell? (ad.add j) = some u := fun j u hj => by
  obtain ⟨b, off, ha, hc⟩ := h j u hj
  simp only [Option.some.injEq] at ha
  subst ha
  unfold Addr.add
  split
  · subst_vars; exact hc
  · exact hc
theorem RI.none {w : World} {xs : List Int} (h : RI w none xs) : xs = [] := by
  cases xs with
  | nil => rfl
  | cons x r => obtain ⟨b, off, ha, _⟩ := h.at (j := 0) (x := x) rfl; cases ha
theorem ints_one (xs : List Int) : ∀ u ∈ xs.map (Value.int .i64), u.oneCell' = true := by
  intro u hu; obtain ⟨_, _, rfl⟩ := List.mem_map.1 hu; rfl

/-- are two lists one? -/
def eqB {α : Type} [DecidableEq α] (xs ys : List α) : Bool := decide (xs = ys)
theorem eqB_yes {α : Type} [DecidableEq α] {xs ys : List α} (h : xs = ys) : eqB xs ys = true := decide_eq_true h
theorem eqB_no {α : Type} [DecidableEq α] {xs ys : List α} (h : ¬ xs = ys) : eqB xs ys = false := decide_eq_false h
theorem eqB_refl {α : Type} [DecidableEq α] (xs : List α) : eqB xs xs = true := eqB_yes rfl
theorem eqB_eq {α : Type} [DecidableEq α] {xs ys : List α} (h : eqB xs ys = true) : xs = ys := of_decide_eq_true h

/-- 'left' less a length; -1 below 0 -/
def szI (left : Int) (n : Nat) : Int := if left - n < 0 then -1 else left - n
theorem szI_neg {left : Int} {n : Nat} (h : szI left n < 0) : szI left n = -1 := by
  unfold szI at *; split at h
  · rw [if_pos (by assumption)]
  · omega
theorem szI_fits {left : Int} {n : Nat} (h : ¬ szI left n < 0) : szI left n = left - n ∧ (n : Int) ≤ left := by
  unfold szI at *; split at h
  · omega
  · rw [if_neg (by assumption)]; omega
theorem below_alloc2 (w : World) (o o' : Obj) : Below w.heap.size w ((w.alloc o).alloc o') := bthen (below_alloc o) (below_alloc o')
theorem below_alloc3 (w : World) (o o' o'' : Obj) : Below w.heap.size w (((w.alloc o).alloc o').alloc o'') := bthen (below_alloc2 w o o') (below_alloc o'')
theorem below_alloc4 (w : World) (o o' o'' o3 : Obj) : Below w.heap.size w ((((w.alloc o).alloc o').alloc o'').alloc o3) := bthen (below_alloc3 w o o' o'') (below_alloc o3)
theorem below_alloc5 (w : World) (o o' o'' o3 o4 : Obj) : Below w.heap.size w (((((w.alloc o).alloc o').alloc o'').alloc o3).alloc o4) := bthen (below_alloc4 w o o' o'' o3) (below_alloc o4)
theorem below_alloc6 (w : World) (o o' o'' o3 o4 o5 : Obj) : Below w.heap.size w ((((((w.alloc o).alloc o').alloc o'').alloc o3).alloc o4).alloc o5) := bthen (below_alloc5 w o o' o'' o3 o4) (below_alloc o5)
theorem small {n : Nat} (h : n ≤ 1048576) : n ≤ maxLen := by simp only [maxLen]; omega
/-- the cells and marks that lay below, as rules of the walk -/
theorem bcell {W w1 : World} (hb : Below W.heap.size W w1) : (∀ b o, b < W.heap.size → w1.cell? ⟨b, o, none⟩ = W.cell? ⟨b, o, none⟩) ∧ (∀ b o, b < W.heap.size → w1.frozen? ⟨b, o, none⟩ = W.frozen? ⟨b, o, none⟩) :=
  ⟨fun b o h => hb.cell (p := ⟨b, o, none⟩) h, fun b o h => hb.frozen (p := ⟨b, o, none⟩) h⟩
theorem own_mono {w : World} {B B' e size n : Nat} {v : Value} {xs : List Value} (h : w.ownsRow B' e size v n xs) (hB : B ≤ B') : w.ownsRow B e size v n xs := by
  obtain ⟨h1, h2 | ⟨g, cap, cur, hv, hg, r⟩⟩ := h
  · exact ⟨h1, .inl h2⟩
  · exact ⟨h1, .inr ⟨g, cap, cur, hv, Nat.le_trans hB hg, r⟩⟩
/-- a cell that is there is there behind new blocks -/
theorem keep {w w' : World} (hb : Below w.heap.size w w') {p : Addr} {v : Value} (h : w.cell? p = some v) : w'.cell? p = some v :=
  (hb.cell (World.block_lt_of_cell? w p h)).trans h
theorem own_RI {w : World} {B e : Nat} {a : Option Addr} {n c : Nat} {xs : List Int} (h : w.ownsRow B e 1 (.slice a n c) n (xs.map (Value.int .i64))) : RI w a xs := by
  obtain ⟨a', c', hv, hr, _⟩ := own_slice h
  simp only [Value.slice.injEq] at hv
  obtain ⟨rfl, _, _⟩ := hv
  exact hr
/-- a cell that may be written may be written behind new blocks -/
theorem keepf {w w' : World} (hb : Below w.heap.size w w') {p : Addr} {v : Value} (h : w.cell? p = some v) (hf : w.frozen? p = false) : w'.frozen? p = false :=
  (hb.frozen (World.block_lt_of_cell? w p h)).trans hf
theorem below_grown {w w' : World} (h : w.grownBy w' none) : Below w.heap.size w w' := (Below.refl _ _).grown h (Nat.le_refl _) (by simp)
theorem szI_bd {left : Int} {n : Nat} (h0 : 0 ≤ left) (h1 : left ≤ 1048576) : -1 ≤ szI left n ∧ szI left n ≤ 1048576 := by
  unfold szI; split <;> omega
/-! ### rows that a call has made, with the blocks between which they lie; steps that write there alone -/
/-- nothing has turned but blocks from lo on, below hi; new blocks may lie behind -/
structure Within (lo hi : Nat) (w w' : World) : Prop where
  os : w'.os = w.os
  tape : w'.tape = w.tape
  output : w'.output = w.output
  size : w.heap.size ≤ w'.heap.size
  block : ∀ k, k < w.heap.size → ¬ (lo ≤ k ∧ k < hi) → w'.heap[k]? = w.heap[k]?
theorem Within.refl (lo hi : Nat) (w : World) : Within lo hi w w := ⟨rfl, rfl, rfl, Nat.le_refl _, fun _ _ _ => rfl⟩
theorem Within.trans {lo hi : Nat} {a b c : World} (h : Within lo hi a b) (k : Within lo hi b c) : Within lo hi a c :=
  ⟨k.os.trans h.os, k.tape.trans h.tape, k.output.trans h.output, Nat.le_trans h.size k.size, fun i hi hn => (k.block i (Nat.lt_of_lt_of_le hi h.size) hn).trans (h.block i hi hn)⟩
theorem Within.of_below {lo hi : Nat} {w w' : World} (h : Below w.heap.size w w') : Within lo hi w w' := ⟨h.os, h.tape, h.output, h.size, fun k hk _ => h.block k hk⟩
theorem Within.wider {lo hi lo' hi' : Nat} {w w' : World} (h : Within lo hi w w') (h1 : lo' ≤ lo) (h2 : hi ≤ hi') : Within lo' hi' w w' :=
  ⟨h.os, h.tape, h.output, h.size, fun k hk hn => h.block k hk (fun e => hn ⟨by omega, by omega⟩)⟩
theorem Within.setCell {lo hi : Nat} {w w' : World} (h : Within lo hi w w') {p : Addr} (h1 : lo ≤ p.block) (h2 : p.block < hi) (u : Value) : Within lo hi w (w'.setCell p u) :=
  h.trans ⟨rfl, rfl, rfl, by simp [World.setCell], fun k _ hn => Below.heap_setCell _ _ _ _ (fun e => hn (by omega))⟩
theorem Within.below {lo hi B : Nat} {w0 w w' : World} (h : Within lo hi w w') (hb : Below B w0 w) (h1 : B ≤ lo) (h2 : B ≤ w.heap.size) : Below B w0 w' :=
  hb.trans ⟨h.os, h.tape, h.output, h.size, fun k hk => h.block k (by omega) (fun e => by omega)⟩
theorem Within.cell {lo hi : Nat} {w w' : World} (h : Within lo hi w w') {p : Addr} {v : Value} (hc : w.cell? p = some v) (hp : p.block < lo ∨ hi ≤ p.block) : w'.cell? p = some v := by
  have hlt := World.block_lt_of_cell? w p hc
  exact (World.cell?_of_block (w := w) (h.block p.block hlt (fun e => by omega))).trans hc

/-- a row of the call's own that lies in blocks from lo on, below hi -/
def OV (lo hi : Nat) (w : World) (e size : Nat) (a : Option Addr) (n c : Nat) (vs : List Value) : Prop :=
  w.ownsRow lo e size (.slice a n c) n vs ∧ ∀ p, a = some p → p.block < hi
theorem OV.of {w' : World} {lo e size n c : Nat} {a : Option Addr} {vs : List Value} (h : w'.ownsRow lo e size (.slice a n c) n vs) : OV lo w'.heap.size w' e size a n c vs :=
  ⟨h, fun p hp => by subst hp; exact (h.lt p.block rfl).2⟩
theorem OV.row {w : World} {lo hi e size n c : Nat} {a : Option Addr} {vs : List Value} (h : OV lo hi w e size a n c vs) : Row w a vs := by
  obtain ⟨a', c', hv, hr, _⟩ := own_slice h.1
  simp only [Value.slice.injEq] at hv
  obtain ⟨rfl, _, _⟩ := hv
  exact hr
theorem OV.within {w w' : World} {lo hi lo' hi' e size n c : Nat} {a : Option Addr} {vs : List Value} (h : OV lo hi w e size a n c vs) (hw : Within lo' hi' w w') (hd : hi ≤ lo' ∨ hi' ≤ lo) : OV lo hi w' e size a n c vs := by
  refine ⟨?_, h.2⟩
  obtain ⟨h1, h2 | ⟨g, cap, cur, hv, hg, hc, r⟩⟩ := h.1
  · exact ⟨h1, .inl h2⟩
  · simp only [Value.slice.injEq] at hv
    have hlt : g < hi := h.2 _ hv.1
    refine ⟨h1, .inr ⟨g, cap, cur, by rw [hv.1, hv.2.2], hg, ?_, r⟩⟩
    rw [hw.block g (Array.getElem?_eq_some_iff.1 hc).1 (fun e => by omega)]; exact hc
theorem OV.kept {w w' : World} {lo hi e size n c : Nat} {a : Option Addr} {vs : List Value} (h : OV lo hi w e size a n c vs) (hb : Below w.heap.size w w') : OV lo hi w' e size a n c vs :=
  h.within (Within.of_below (lo := hi) (hi := hi) hb) (Or.inl (Nat.le_refl _))
theorem OV.addr {w : World} {lo hi e size n c : Nat} {a : Option Addr} {vs : List Value} (h : OV lo hi w e size a n c vs) (hn : 0 < n) : ∃ g, a = some ⟨g, 0, none⟩ ∧ lo ≤ g ∧ g < hi := by
  obtain ⟨h1, ⟨h2, h3⟩ | ⟨g, cap, cur, hv, hg, hc, r⟩⟩ := h.1
  · omega
  · simp only [Value.slice.injEq] at hv
    exact ⟨g, hv.1, hg, h.2 _ hv.1⟩
theorem OV.store {w : World} {lo hi e size n c g : Nat} {vs : List Value} (h : OV lo hi w e size (some ⟨g, 0, none⟩) n c vs) (j : Nat) (u : Value) : OV lo hi (w.setCell ⟨g, j, none⟩ u) e size (some ⟨g, 0, none⟩) n c (vs.set j u) :=
  ⟨(h.1.stored j u).1, h.2⟩
theorem OV.len {w : World} {lo hi e size n c : Nat} {a : Option Addr} {vs : List Value} (h : OV lo hi w e size a n c vs) : vs.length = n * size := h.1.1
/-- where a row that a call has made lies -/
theorem own_at {w : World} {B e size n c : Nat} {a : Option Addr} {vs : List Value} (h : w.ownsRow B e size (.slice a n c) n vs) {p : Addr} (hp : a = some p) : B ≤ p.block ∧ p.block < w.heap.size := by
  subst hp
  exact h.lt p.block rfl
theorem OV.tight {w : World} {lo hi e size n c B : Nat} {a : Option Addr} {vs : List Value} (h : OV lo hi w e size a n c vs) (hB : ∀ p, a = some p → ¬ p.block = B) :
    ∃ lo' hi', lo ≤ lo' ∧ hi' ≤ hi ∧ OV lo' hi' w e size a n c vs ∧ (B < lo' ∨ hi' ≤ B) := by
  obtain ⟨h1, ⟨h2, h3⟩ | ⟨g, cap, cur, hv, hg, hc, r⟩⟩ := h.1
  · exact ⟨max lo (B + 1), hi, Nat.le_max_left _ _, Nat.le_refl _, ⟨⟨h1, .inl ⟨h2, h3⟩⟩, h.2⟩, Or.inl (by omega)⟩
  · simp only [Value.slice.injEq] at hv
    have h5 := hB _ hv.1
    have h6 := h.2 _ hv.1
    refine ⟨g, g + 1, hg, h6, ⟨⟨h1, .inr ⟨g, cap, cur, by rw [hv.1, hv.2.2], Nat.le_refl _, hc, r⟩⟩, fun p hp => ?_⟩, ?_⟩
    · rw [hv.1] at hp; cases hp; exact Nat.lt_succ_self _
    · simp only at h5; omega
/-- a row of integers of the call's own -/
def OI (lo hi : Nat) (w : World) (e : Nat) (a : Option Addr) (c : Nat) (xs : List Int) : Prop := OV lo hi w e 1 a xs.length c (xs.map (Value.int .i64))
theorem OI.of {w' : World} {lo e c : Nat} {a : Option Addr} {xs : List Int} (h : w'.ownsRow lo e 1 (.slice a xs.length c) xs.length (xs.map (Value.int .i64))) : OI lo w'.heap.size w' e a c xs := OV.of h
theorem OI.RI {w : World} {lo hi e c : Nat} {a : Option Addr} {xs : List Int} (h : OI lo hi w e a c xs) : RI w a xs := OV.row h
theorem OI.kept {w w' : World} {lo hi e c : Nat} {a : Option Addr} {xs : List Int} (h : OI lo hi w e a c xs) (hb : Below w.heap.size w w') : OI lo hi w' e a c xs := OV.kept h hb
theorem OI.tight {w : World} {lo hi e c B : Nat} {a : Option Addr} {xs : List Int} (h : OI lo hi w e a c xs) (hB : ∀ p, a = some p → ¬ p.block = B) : ∃ lo' hi', lo ≤ lo' ∧ hi' ≤ hi ∧ OI lo' hi' w e a c xs ∧ (B < lo' ∨ hi' ≤ B) := OV.tight h hB
theorem OI.within {w w' : World} {lo hi lo' hi' e c : Nat} {a : Option Addr} {xs : List Int} (h : OI lo hi w e a c xs) (hw : Within lo' hi' w w') (hd : hi ≤ lo' ∨ hi' ≤ lo) : OI lo hi w' e a c xs := OV.within h hw hd

theorem OV.wider {w : World} {lo hi lo' hi' e size n c : Nat} {a : Option Addr} {vs : List Value} (h : OV lo hi w e size a n c vs) (h1 : lo' ≤ lo) (h2 : hi ≤ hi') : OV lo' hi' w e size a n c vs :=
  ⟨own_mono h.1 h1, fun p hp => Nat.lt_of_lt_of_le (h.2 p hp) h2⟩
theorem RI.kept0 {w w' : World} {a : Option Addr} {xs : List Int} (h : RI w a xs) (hb : Below w.heap.size w w') : RI w' a xs := h.kept hb
/-- a row that a call has made, behind a new block, and behind a store into an older block -/
theorem cut_alloc {w : World} {lo lo' e c : Nat} {a : Option Addr} {xs : List Int} (h : w.ownsRow lo' e 1 (.slice a xs.length c) xs.length (xs.map (Value.int .i64))) (o : Obj) (h1 : lo ≤ lo') : OI lo (w.alloc o).heap.size (w.alloc o) e a c xs :=
  ((OI.of (own_mono h h1)).kept (below_alloc o)).wider (Nat.le_refl _) (by simp)
theorem cut_set {w : World} {lo lo' e c B : Nat} {a : Option Addr} {xs : List Int} (h : w.ownsRow lo' e 1 (.slice a xs.length c) xs.length (xs.map (Value.int .i64))) (u : Value) (h1 : lo ≤ lo') (h2 : B < lo') : OI lo (w.setCell ⟨B, 0, none⟩ u).heap.size (w.setCell ⟨B, 0, none⟩ u) e a c xs :=
  OI.of (own_mono (ownsRow_setCell_below h (by exact h2) u) h1)
theorem below_realloc {B : Nat} {w W : World} {o o' : Obj} (h : Below B w (W.alloc o)) (hB : B ≤ W.heap.size) : Below B w (W.alloc o') :=
  ⟨h.os, h.tape, h.output, by have := h.size; simpa using this, fun k hk => by
    have := h.block k hk
    rw [← this, Below.heap_alloc _ _ _ (by omega), Below.heap_alloc _ _ _ (by omega)]⟩
theorem held1 {r W : World} {p1 : Addr} {v1 : Value} (hb : Below r.heap.size r W) (h1 : r.cell? p1 = some v1) : Below r.heap.size r W ∧ W.cell? p1 = some v1 := ⟨hb, keep hb h1⟩
theorem held2 {r W : World} {p1 p2 : Addr} {v1 v2 : Value} (hb : Below r.heap.size r W) (h1 : r.cell? p1 = some v1) (h2 : r.cell? p2 = some v2) : Below r.heap.size r W ∧ W.cell? p1 = some v1 ∧ W.cell? p2 = some v2 := ⟨hb, keep hb h1, keep hb h2⟩
theorem held3 {r W : World} {p1 p2 p3 : Addr} {v1 v2 v3 : Value} (hb : Below r.heap.size r W) (h1 : r.cell? p1 = some v1) (h2 : r.cell? p2 = some v2) (h3 : r.cell? p3 = some v3) : Below r.heap.size r W ∧ W.cell? p1 = some v1 ∧ W.cell? p2 = some v2 ∧ W.cell? p3 = some v3 := ⟨hb, keep hb h1, keep hb h2, keep hb h3⟩
theorem held4 {r W : World} {p1 p2 p3 p4 : Addr} {v1 v2 v3 v4 : Value} (hb : Below r.heap.size r W) (h1 : r.cell? p1 = some v1) (h2 : r.cell? p2 = some v2) (h3 : r.cell? p3 = some v3) (h4 : r.cell? p4 = some v4) : Below r.heap.size r W ∧ W.cell? p1 = some v1 ∧ W.cell? p2 = some v2 ∧ W.cell? p3 = some v3 ∧ W.cell? p4 = some v4 := ⟨hb, keep hb h1, keep hb h2, keep hb h3, keep hb h4⟩
theorem held5 {r W : World} {p1 p2 p3 p4 p5 : Addr} {v1 v2 v3 v4 v5 : Value} (hb : Below r.heap.size r W) (h1 : r.cell? p1 = some v1) (h2 : r.cell? p2 = some v2) (h3 : r.cell? p3 = some v3) (h4 : r.cell? p4 = some v4) (h5 : r.cell? p5 = some v5) : Below r.heap.size r W ∧ W.cell? p1 = some v1 ∧ W.cell? p2 = some v2 ∧ W.cell? p3 = some v3 ∧ W.cell? p4 = some v4 ∧ W.cell? p5 = some v5 := ⟨hb, keep hb h1, keep hb h2, keep hb h3, keep hb h4, keep hb h5⟩
theorem held6 {r W : World} {p1 p2 p3 p4 p5 p6 : Addr} {v1 v2 v3 v4 v5 v6 : Value} (hb : Below r.heap.size r W) (h1 : r.cell? p1 = some v1) (h2 : r.cell? p2 = some v2) (h3 : r.cell? p3 = some v3) (h4 : r.cell? p4 = some v4) (h5 : r.cell? p5 = some v5) (h6 : r.cell? p6 = some v6) : Below r.heap.size r W ∧ W.cell? p1 = some v1 ∧ W.cell? p2 = some v2 ∧ W.cell? p3 = some v3 ∧ W.cell? p4 = some v4 ∧ W.cell? p5 = some v5 ∧ W.cell? p6 = some v6 := ⟨hb, keep hb h1, keep hb h2, keep hb h3, keep hb h4, keep hb h5, keep hb h6⟩

/-- the marks k, k + 1, .. -/
def marksL (k : Int) (n : Nat) : List Int := (List.range n).map fun (j : Nat) => k + (j : Int)
theorem marksL_length (k : Int) (n : Nat) : (marksL k n).length = n := by simp [marksL]
theorem marksL_at (k : Int) {n j : Nat} (h : j < n) : (marksL k n)[j]? = some (k + j) := by simp [marksL, h]
/-- the first j are marked -/
def markUp (k : Int) (xs : List Int) (j : Nat) : List Int := marksL k j ++ xs.drop j
theorem markUp_zero (k : Int) (xs : List Int) : markUp k xs 0 = xs := by simp [markUp, marksL]
theorem markUp_all (k : Int) (xs : List Int) {j : Nat} (h : j = xs.length) : markUp k xs j = marksL k xs.length := by subst h; simp [markUp]
theorem markUp_set (k : Int) (xs : List Int) {j : Nat} (h : j < xs.length) : ((markUp k xs j).map (Value.int .i64)).set j (.int .i64 (k + j)) = (markUp k xs (j + 1)).map (Value.int .i64) := by
  have h1 : (marksL k j).length = j := marksL_length k j
  rw [markUp, markUp, List.map_append, List.set_append_right _ _ (by simp [h1]), List.length_map, h1, Nat.sub_self, List.drop_eq_getElem_cons h, List.map_cons, List.set_cons_zero]
  simp [marksL, List.range_succ]
theorem markUp_at (k : Int) (xs : List Int) {j : Nat} (h : j < xs.length) : ∃ x, ((markUp k xs j).map (Value.int .i64))[j]? = some x := by
  have h1 : (marksL k j).length = j := marksL_length k j
  exact get_some (by simp [markUp, h1]; omega)
theorem markUp_length (k : Int) (xs : List Int) {j : Nat} (h : j ≤ xs.length) : (markUp k xs j).length = xs.length := by
  simp [markUp, marksL_length]; omega

#print axioms own_slice
end Go.Proofs.YtmpfnkheohlmiaaGreatDoor
namespace Go.Proofs.YtmpfnkheohlmiaaGreatDoor
open Go.RowKit
set_option linter.unusedVariables false
set_option linter.unusedSimpArgs false
set_option linter.unnecessarySimpa false

/-- the cells of a datum that holds no pointers -/
def dataCells : DataW Unit → List Value
  | .lit (.int k z) => [.int k z]
  | .lit (.string l) => [.string ⟨l.toArray⟩]
  | .lit (.bool b) => [.bool b]
  | .agg ds => dataCellsAll ds
  | _ => []
where dataCellsAll : List (DataW Unit) → List Value
  | [] => []
  | d :: r => dataCells d ++ dataCellsAll r
/-- a variable's block laid anew -/
def layAt (h : Array Obj) (g : Nat) (d : DataW Unit) : Array Obj := h.modify g fun
  | .cells _ t frozen => .cells (dataCells d).toArray t frozen
  | o => o
theorem var_kept {P : Program} {w w' : World} {n : String} {cs : Array Value} (h : w.var? P n = some cs) (hb : Below w.heap.size w w') : w'.var? P n = some cs := by
  unfold World.var? at h ⊢
  cases hg : P.globalNamed n with
  | none => rw [hg] at h; cases h
  | some g =>
    rw [hg] at h
    simp only [Option.bind_some] at h ⊢
    have hlt : g < w.heap.size := by
      rcases Nat.lt_or_ge g w.heap.size with hh | hh
      · exact hh
      · rw [Array.getElem?_eq_none hh] at h; cases h
    rw [hb.block g hlt]; exact h
theorem TabIs.kept {P : Program} {w w' : World} {n : String} {k : IntKind} {zs : List Int} (h : Lib.TabIs P w n k zs) (hb : Below w.heap.size w w') : Lib.TabIs P w' n k zs := var_kept h hb
/-- a table of integers out of a row's condition, wherever it stands on the list -/
theorem tab_of_laid {W : World} {l : List (String × DataW Unit)} {n : String} {k : IntKind} {zs : List Int} {g : Nat} {t e : TypeId} {m : Nat} (hL : laidMet Tryz.prog l W) (hm : (n, Lib.tabData k zs) ∈ l)
    (hg : Tryz.prog.globalNamed n = some g) (hty : (Tryz.prog.globals[g]?).map (·.type) = some t) (ht : Tryz.prog.underlying t = some (.array m e)) (he : Tryz.prog.underlying e = some (.int k)) (hce : Tryz.prog.cellsOf e = 1) (hct : Tryz.prog.cellsOf t = m) : Lib.TabIs Tryz.prog W n k zs := by
  obtain ⟨g', t', cs, fuel, p, hg', ht', hvar, hd⟩ := Lib.laidMet.reads hL hm
  obtain rfl := Option.some.inj (hg.symm.trans hg')
  obtain rfl := Option.some.inj (hty.symm.trans ht')
  unfold Lib.TabIs
  rw [hvar, ← Lib.cells_of_tab ht he hce hct hd]
/-- an array of texts that reads as these texts holds them, cell for cell -/
theorem texts_of_tab {H : Type} {enc : TypeId × Value → H} {P : Program} {w : World} {base : Nat} {sp : Nat → Bool} {held : Bool} {fuel : Nat} {t e : TypeId} {n : Nat} {cs : List Value} {ss : List (List UInt8)} {p : List MemPlace}
    (ht : P.underlying t = some (.array n e)) (he : P.underlying e = some .string) (hce : P.cellsOf e = 1) (hct : P.cellsOf t = n)
    (h : DataW.trod enc P w base sp held fuel t cs = some (.agg (ss.map fun l => .lit (.string l)), p)) : cs = ss.map fun l => Value.string ⟨l.toArray⟩ := by
  cases fuel with
  | zero => simp [DataW.trod] at h
  | succ fuel =>
    simp only [DataW.trod, ht, hce, hct, Nat.mul_one] at h
    split at h
    · rename_i hl
      obtain ⟨xs, hm, hx⟩ := Option.map_eq_some_iff.1 h
      have hxs : xs.map (·.1) = ss.map fun l => (DataW.lit (.string l) : DataW H) := by
        have := congrArg Prod.fst hx
        simpa using this
      have hxl : xs.length = n := by simpa using Lib.mapM_length hm
      have hzl : ss.length = n := by
        have := congrArg List.length hxs
        simp at this
        omega
      apply List.ext_getElem?
      intro i
      by_cases hi : i < n
      · obtain ⟨b, hb, hf⟩ := Lib.mapM_at hm i i (by simp [hi])
        obtain ⟨z, hc, rfl, _⟩ := DataW.trod_string he hf
        have h1 : cs[i]? = some (.string z) := by
          have := congrArg (·[0]?) hc
          simpa [List.getElem?_take, List.getElem?_drop] using this
        have h2 : (xs.map (·.1))[i]? = some (DataW.lit (.string z.data.toList) : DataW H) := by simp [hb]
        rw [hxs] at h2
        simp only [List.getElem?_map, Option.map_eq_some_iff, DataW.lit.injEq, Lit.string.injEq] at h2
        obtain ⟨z', hz', rfl⟩ := h2
        simp [h1, hz']
      · rw [List.getElem?_eq_none (by omega), List.getElem?_eq_none (by simp; omega)]
    · cases h
theorem pow10_datum : (Rows.laid_internal_strconv_uint64pow10 : DataW Unit) = Lib.tabData .u64 Lib.pow10Tab := by rfl
theorem pow10_of {W : World} {l : List (String × DataW Unit)} (hL : laidMet Tryz.prog l W) (hm : ("internal/strconv.uint64pow10", (Rows.laid_internal_strconv_uint64pow10 : DataW Unit)) ∈ l) : Lib.TabIs Tryz.prog W "internal/strconv.uint64pow10" .u64 Lib.pow10Tab := by
  rw [pow10_datum] at hm
  exact tab_of_laid (g := 2) hL hm (by kernel_rfl) (by kernel_rfl) Tryz.underlying185 Tryz.underlying107 (by kernel_rfl) (by kernel_rfl)
end Go.Proofs.YtmpfnkheohlmiaaGreatDoor
namespace Go.Proofs.YtmpfnkheohlmiaaGreatDoor
open Go.RowKit
set_option linter.unusedVariables false
set_option linter.unusedSimpArgs false
set_option linter.unnecessarySimpa false

/-! ### rows of one-cell things, by a function into values -/
/-- the cells from an address on hold these texts -/
def RS (w : World) (a : Option Addr) (ss : List ByteArray) : Prop := Row w a (ss.map Value.string)
theorem RS.kept {w w' : World} {a : Option Addr} {ss : List ByteArray} (h : RS w a ss) (hb : Below w.heap.size w w') : RS w' a ss := Row.kept h hb
theorem RS.kept0 {w w' : World} {a : Option Addr} {ss : List ByteArray} (h : RS w a ss) (hb : Below w.heap.size w w') : RS w' a ss := Row.kept h hb
theorem RS.nil (w : World) (a : Option Addr) : RS w a [] := Row.nil w a
theorem RS.at {w : World} {a : Option Addr} {ss : List ByteArray} (h : RS w a ss) {j : Nat} {s : ByteArray} (hj : ss[j]? = some s) :
    ∃ b off, a = some ⟨b, off, none⟩ ∧ w.cell? ⟨b, off + j, none⟩ = some (.string s) := h j _ (by rw [List.getElem?_map, hj]; rfl)
/-- a row of texts of the call's own -/
def OS (lo hi : Nat) (w : World) (e : Nat) (a : Option Addr) (c : Nat) (ss : List ByteArray) : Prop := OV lo hi w e 1 a ss.length c (ss.map Value.string)
theorem OS.of {w' : World} {lo e c : Nat} {a : Option Addr} {ss : List ByteArray} (h : w'.ownsRow lo e 1 (.slice a ss.length c) ss.length (ss.map Value.string)) : OS lo w'.heap.size w' e a c ss := OV.of h
theorem OS.RS {w : World} {lo hi e c : Nat} {a : Option Addr} {ss : List ByteArray} (h : OS lo hi w e a c ss) : RS w a ss := OV.row h
theorem OS.kept {w w' : World} {lo hi e c : Nat} {a : Option Addr} {ss : List ByteArray} (h : OS lo hi w e a c ss) (hb : Below w.heap.size w w') : OS lo hi w' e a c ss := OV.kept h hb
theorem OS.within {w w' : World} {lo hi lo' hi' e c : Nat} {a : Option Addr} {ss : List ByteArray} (h : OS lo hi w e a c ss) (hw : Within lo' hi' w w') (hd : hi ≤ lo' ∨ hi' ≤ lo) : OS lo hi w' e a c ss := OV.within h hw hd
/-- the cells from an address on hold these bytes -/
def byteV (b : UInt8) : Value := .int .u8 b.toNat
def RB (w : World) (a : Option Addr) (bs : List UInt8) : Prop := Row w a (bs.map byteV)
theorem RB.kept {w w' : World} {a : Option Addr} {ss : List UInt8} (h : RB w a ss) (hb : Below w.heap.size w w') : RB w' a ss := Row.kept h hb
theorem RB.at {w : World} {a : Option Addr} {ss : List UInt8} (h : RB w a ss) {j : Nat} {s : UInt8} (hj : ss[j]? = some s) :
    ∃ b off, a = some ⟨b, off, none⟩ ∧ w.cell? ⟨b, off + j, none⟩ = some (.int .u8 s.toNat) := h j _ (by rw [List.getElem?_map, hj]; rfl)
theorem bytes_one (xs : List UInt8) : ∀ u ∈ xs.map byteV, u.oneCell' = true := by
  intro u hu; obtain ⟨_, _, rfl⟩ := List.mem_map.1 hu; rfl
theorem texts_one (xs : List ByteArray) : ∀ u ∈ xs.map Value.string, u.oneCell' = true := by
  intro u hu; obtain ⟨_, _, rfl⟩ := List.mem_map.1 hu; rfl
/-- 'string(b)' where the cells hold the bytes l -/
theorem run_text {P : Program} (w : World) (src dst e : TypeId) (a : Option Addr) (cap : Nat) (l : List UInt8) (hs : P.underlying src = some (.slice e)) (he : P.underlying e = some (.int .u8)) (hd : P.underlying dst = some .string)
    (ha : a ≠ none) (hr : RB w a l) : (convert src dst (.slice a l.length cap)).run P w = .ok (.string ⟨l.toArray⟩) w := by
  cases a with
  | none => exact absurd rfl ha
  | some ad =>
    refine run_convert_bytes_back w src dst e ad cap l hs he hd ?_
    intro j hj
    exact Row.add hr j _ (by rw [List.getElem?_map, List.getElem?_eq_getElem hj]; rfl)
/-- a row of the call's own, in the middle of being filled by append -/
theorem own_form {w : World} {B e size n : Nat} {v : Value} {xs : List Value} (h : w.ownsRow B e size v n xs) : ∃ a c, v = .slice a n c ∧ Row w a xs ∧ n ≤ c ∧ c ≤ maxLen := own_slice h

theorem news_one (w : World) (v : Value) (t : Nat) : ∀ j u, [v][j]? = some u → (w.alloc (.cells #[v] t)).cell? ((⟨w.heap.size, 0, none⟩ : Addr).add j) = some u := by
  intro j u h
  match j with
  | 0 =>
    simp only [List.getElem?_cons_zero, Option.some.injEq] at h
    subst h
    simp [go_sem, Addr.add]
  | j + 1 => simp at h
theorem one_one {v : Value} (h : v.oneCell' = true) : ∀ u ∈ [v], u.oneCell' = true := by
  intro u hu; simp only [List.mem_singleton] at hu; subst hu; exact h
/-- memory behind an append of one element to a row of the call's own -/
theorem app_below {w0 w w1 : World} {B base e size n : Nat} {v : Value} {xs : List Value} {o : Obj} (hb : Below B w0 w) (hB : B ≤ w.heap.size) (h : w.ownsRow base e size v n xs) (hbb : B ≤ base) (hg : (w.alloc o).grownBy w1 v.ownBlock) : Below B w0 w1 :=
  (hb.alloc hB o).grown hg (by simp; omega) (fun k hk => Nat.le_trans hbb (h.lt k hk).1)
theorem own_some {w : World} {B e size n c : Nat} {a : Option Addr} {vs : List Value} (h : w.ownsRow B e size (.slice a n c) n vs) (hn : 0 < n) : a ≠ none := by
  obtain ⟨_, ⟨h2, h3⟩ | ⟨g, cap, cur, hv, _⟩⟩ := h
  · omega
  · simp only [Value.slice.injEq] at hv
    rw [hv.1]; simp
theorem below_keep {w0 w w' : World} (hb : Below w0.heap.size w0 w) (h : Below w.heap.size w w') : Below w0.heap.size w0 w' := bthen hb h

/-! ### decks -/
/-- the headers of the columns of cards -/
def headsV (hs : List (Option Addr × Nat)) (xss : List (List Int)) : List Value := List.zipWith (fun h xs => .slice h.1 xs.length h.2) hs xss
theorem headsV_length {hs : List (Option Addr × Nat)} {xss : List (List Int)} (h : hs.length = xss.length) : (headsV hs xss).length = xss.length := by simp [headsV, h]
theorem headsV_at {hs : List (Option Addr × Nat)} {xss : List (List Int)} {k : Nat} {h : Option Addr × Nat} {xs : List Int} (h1 : hs[k]? = some h) (h2 : xss[k]? = some xs) : (headsV hs xss)[k]? = some (.slice h.1 xs.length h.2) := by
  simp [headsV, List.getElem?_zipWith, h1, h2]
/-- the cells from an address on hold the cards of a deck -/
def RD (w : World) (a : Option Addr) (xss : List (List Int)) : Prop :=
  ∃ hs : List (Option Addr × Nat), hs.length = xss.length ∧ Row w a (headsV hs xss) ∧ ∀ (k : Nat) (h : Option Addr × Nat) (xs : List Int), hs[k]? = some h → xss[k]? = some xs → RI w h.1 xs ∧ xs.length ≤ h.2 ∧ h.2 ≤ maxLen
theorem RD.kept {w w' : World} {a : Option Addr} {xss : List (List Int)} (h : RD w a xss) (hb : Below w.heap.size w w') : RD w' a xss := by
  obtain ⟨hs, h1, h2, h3⟩ := h
  exact ⟨hs, h1, h2.kept hb, fun k p xs e1 e2 => ⟨(h3 k p xs e1 e2).1.kept hb, (h3 k p xs e1 e2).2⟩⟩
theorem RD.kept0 {w w' : World} {a : Option Addr} {xss : List (List Int)} (h : RD w a xss) (hb : Below w.heap.size w w') : RD w' a xss := h.kept hb
theorem RD.nil (w : World) (a : Option Addr) : RD w a [] := ⟨[], rfl, by simpa [headsV] using Row.nil w a, fun k p xs e1 e2 => by simp at e1⟩
/-- the card at a place -/
theorem RD.at {w : World} {a : Option Addr} {xss : List (List Int)} (h : RD w a xss) {k : Nat} {xs : List Int} (hk : xss[k]? = some xs) :
    ∃ b off a' c', a = some ⟨b, off, none⟩ ∧ w.cell? ⟨b, off + k, none⟩ = some (.slice a' xs.length c') ∧ RI w a' xs ∧ xs.length ≤ c' ∧ c' ≤ maxLen := by
  obtain ⟨hs, h1, h2, h3⟩ := h
  have hlt : k < xss.length := (List.getElem?_eq_some_iff.1 hk).1
  obtain ⟨p, hp⟩ := get_some (l := hs) (k := k) (by omega)
  obtain ⟨b, off, ha, hc⟩ := h2 k _ (headsV_at hp hk)
  exact ⟨b, off, p.1, p.2, ha, hc, (h3 k p xs hp hk).1, (h3 k p xs hp hk).2⟩
theorem RD.off {w : World} {b off : Nat} {xss : List (List Int)} (h : RD w (some ⟨b, off, none⟩) xss) {k : Nat} {xs : List Int} (hk : xss[k]? = some xs) :
    ∃ a' c', w.cell? ⟨b, off + k, none⟩ = some (.slice a' xs.length c') ∧ RI w a' xs ∧ xs.length ≤ c' ∧ c' ≤ maxLen := by
  obtain ⟨b', off', a', c', ha, hc⟩ := h.at hk
  simp only [Option.some.injEq, Addr.mk.injEq] at ha
  obtain ⟨rfl, rfl, _⟩ := ha
  exact ⟨a', c', hc⟩
/-- a deck of the call's own: a row of cards, and for each card a row of its own, all in blocks of their own -/
def OD (lo hi : Nat) (w : World) (e e' : Nat) (a : Option Addr) (c : Nat) (xss : List (List Int)) : Prop :=
  ∃ hs : List (Option Addr × Nat), hs.length = xss.length ∧ OV lo hi w e 1 a xss.length c (headsV hs xss) ∧
    (∀ (k : Nat) (h : Option Addr × Nat) (xs : List Int), hs[k]? = some h → xss[k]? = some xs → OI lo hi w e' h.1 h.2 xs) ∧
    (∀ (i j : Nat) (h k : Option Addr × Nat) (p q : Addr), i < j → hs[i]? = some h → hs[j]? = some k → h.1 = some p → k.1 = some q → p.block < q.block)
theorem OI.cap0 {lo hi e c : Nat} {w : World} {a : Option Addr} {xs : List Int} (h : OI lo hi w e a c xs) : xs.length ≤ c := by
  obtain ⟨a', c', hv, _, hc, _⟩ := own_slice h.1
  simp only [Value.slice.injEq] at hv
  omega
theorem OI.capm {lo hi e c : Nat} {w : World} {a : Option Addr} {xs : List Int} (h : OI lo hi w e a c xs) : xs.length ≤ c ∧ c ≤ maxLen := by
  obtain ⟨a', c', hv, _, hc, hm⟩ := own_slice h.1
  simp only [Value.slice.injEq] at hv
  obtain ⟨_, _, rfl⟩ := hv
  exact ⟨hc, hm⟩
theorem OD.RD {w : World} {lo hi e e' c : Nat} {a : Option Addr} {xss : List (List Int)} (h : OD lo hi w e e' a c xss) : RD w a xss := by
  obtain ⟨hs, h1, h2, h3, _⟩ := h
  exact ⟨hs, h1, h2.row, fun k p xs e1 e2 => ⟨(h3 k p xs e1 e2).RI, (h3 k p xs e1 e2).capm⟩⟩
theorem OD.within {w w' : World} {lo hi lo' hi' e e' c : Nat} {a : Option Addr} {xss : List (List Int)} (h : OD lo hi w e e' a c xss) (hw : Within lo' hi' w w') (hd : hi ≤ lo' ∨ hi' ≤ lo) : OD lo hi w' e e' a c xss := by
  obtain ⟨hs, h1, h2, h3, h4⟩ := h
  exact ⟨hs, h1, h2.within hw hd, fun k p xs e1 e2 => (h3 k p xs e1 e2).within hw hd, h4⟩
theorem OD.kept {w w' : World} {lo hi e e' c : Nat} {a : Option Addr} {xss : List (List Int)} (h : OD lo hi w e e' a c xss) (hb : Below w.heap.size w w') : OD lo hi w' e e' a c xss :=
  h.within (Within.of_below (lo := hi) (hi := hi) hb) (Or.inl (Nat.le_refl _))
theorem OI.wider {w : World} {lo hi lo' hi' e c : Nat} {a : Option Addr} {xs : List Int} (h : OI lo hi w e a c xs) (h1 : lo' ≤ lo) (h2 : hi ≤ hi') : OI lo' hi' w e a c xs := OV.wider h h1 h2
theorem OD.wider {w : World} {lo hi lo' hi' e e' c : Nat} {a : Option Addr} {xss : List (List Int)} (h : OD lo hi w e e' a c xss) (h1 : lo' ≤ lo) (h2 : hi ≤ hi') : OD lo' hi' w e e' a c xss := by
  obtain ⟨hs, g1, g2, g3, g4⟩ := h
  exact ⟨hs, g1, g2.wider h1 h2, fun k p xs e1 e2 => (g3 k p xs e1 e2).wider h1 h2, g4⟩
/-- a store into a block of other elements leaves a row of the call's own as it was -/
theorem OV.far {w : World} {lo hi e size n c g t : Nat} {a : Option Addr} {vs : List Value} {cs : Array Value} {m : Nat × Nat} (h : OV lo hi w e size a n c vs) (hg : w.heap[g]? = some (.cells cs t m)) (hne : e ≠ t) (j : Nat) (u : Value) : OV lo hi (w.setCell ⟨g, j, none⟩ u) e size a n c vs := by
  refine ⟨?_, h.2⟩
  obtain ⟨h1, h2 | ⟨q, cap, cur, hv, hq, hc, r⟩⟩ := h.1
  · exact ⟨h1, .inl h2⟩
  · refine ⟨h1, .inr ⟨q, cap, cur, hv, hq, ?_, r⟩⟩
    have hqg : q ≠ g := fun e0 => by
      subst e0; rw [hg] at hc
      simp only [Option.some.injEq, Obj.cells.injEq] at hc
      exact hne hc.2.1.symm
    rw [Below.heap_setCell _ _ _ _ (by simpa using hqg)]; exact hc
theorem OV.block {w : World} {lo hi e size n c g : Nat} {vs : List Value} (h : OV lo hi w e size (some ⟨g, 0, none⟩) n c vs) : ∃ cs, w.heap[g]? = some (.cells cs e (0, 0)) := by
  obtain ⟨_, ⟨h2, _⟩ | ⟨q, cap, cur, hv, hq, hc, r⟩⟩ := h.1
  · cases h2
  · simp only [Value.slice.injEq, Option.some.injEq, Addr.mk.injEq, and_true] at hv
    obtain ⟨rfl, _⟩ := hv
    exact ⟨_, hc⟩
/-- a deck of the call's own, behind whose cards m cells wait that hold none yet -/
def ODz (lo hi : Nat) (w : World) (e e' : Nat) (a : Option Addr) (c : Nat) (xss : List (List Int)) (m : Nat) : Prop :=
  ∃ hs : List (Option Addr × Nat), hs.length = xss.length ∧ OV lo hi w e 1 a (xss.length + m) c (headsV hs xss ++ List.replicate m (.slice none 0 0)) ∧
    (∀ (k : Nat) (h : Option Addr × Nat) (xs : List Int), hs[k]? = some h → xss[k]? = some xs → OI lo hi w e' h.1 h.2 xs) ∧
    (∀ (i j : Nat) (h k : Option Addr × Nat) (p q : Addr), i < j → hs[i]? = some h → hs[j]? = some k → h.1 = some p → k.1 = some q → p.block < q.block)
theorem ODz.all {lo hi : Nat} {w : World} {e e' c : Nat} {a : Option Addr} {xss : List (List Int)} (h : ODz lo hi w e e' a c xss 0) : OD lo hi w e e' a c xss := by
  obtain ⟨hs, h1, h2, h3, h4⟩ := h
  exact ⟨hs, h1, by simpa using h2, h3, h4⟩
theorem headsV_snoc {hs : List (Option Addr × Nat)} {xss : List (List Int)} (h : hs.length = xss.length) (p : Option Addr × Nat) (x : List Int) : headsV (hs ++ [p]) (xss ++ [x]) = headsV hs xss ++ [.slice p.1 x.length p.2] := by
  unfold headsV; rw [List.zipWith_append h]; rfl
/-- the next card is laid into its cell -/
theorem ODz.put {lo : Nat} {w w1 : World} {e e' g c c' m : Nat} {a' : Option Addr} {xss : List (List Int)} {x : List Int} (hne : e' ≠ e) (h : ODz lo w.heap.size w e e' (some ⟨g, 0, none⟩) c xss (m + 1)) (hb : Below w.heap.size w w1)
    (hl : lo ≤ w.heap.size) (ho : w1.ownsRow w.heap.size e' 1 (.slice a' x.length c') x.length (x.map (Value.int .i64))) :
    ODz lo (w1.setCell ⟨g, xss.length, none⟩ (.slice a' x.length c')).heap.size (w1.setCell ⟨g, xss.length, none⟩ (.slice a' x.length c')) e e' (some ⟨g, 0, none⟩) c (xss ++ [x]) m := by
  obtain ⟨hs, h1, h2, h3, h4⟩ := h
  have hsz : (w1.setCell ⟨g, xss.length, none⟩ (.slice a' x.length c')).heap.size = w1.heap.size := by simp [World.setCell]
  have h2' := h2.kept hb
  obtain ⟨cs, hcs⟩ := h2'.block
  rw [hsz]
  refine ⟨hs ++ [(a', c')], by simp [h1], ?_, ?_, ?_⟩
  · have h5 := ((h2'.wider (Nat.le_refl lo) hb.size).store xss.length (.slice a' x.length c'))
    rw [headsV_snoc h1, List.length_append, List.length_singleton, Nat.add_assoc, Nat.add_comm 1 m]
    rw [List.set_append_right _ _ (by rw [headsV_length h1]; exact Nat.le_refl _), headsV_length h1, Nat.sub_self, List.replicate_succ, List.set_cons_zero] at h5
    simpa [List.append_assoc] using h5
  · intro k p xs e1 e2
    rcases Nat.lt_trichotomy k xss.length with hk | hk | hk
    · rw [List.getElem?_append_left (by omega)] at e1
      rw [List.getElem?_append_left hk] at e2
      exact OV.far (((h3 k p xs e1 e2).kept hb).wider (Nat.le_refl _) hb.size) hcs hne _ _
    · subst hk
      rw [List.getElem?_append_right (by omega), h1, Nat.sub_self] at e1
      rw [List.getElem?_append_right (Nat.le_refl _), Nat.sub_self] at e2
      simp only [List.getElem?_cons_zero, Option.some.injEq] at e1 e2
      subst e1 e2
      exact OV.far ((OI.of ho).wider hl (Nat.le_refl _)) hcs hne _ _
    · rw [List.getElem?_eq_none (by simp; omega)] at e2; cases e2
  · intro i j p q u v hij e1 e2 hu hv
    by_cases hj : j < xss.length
    · rw [List.getElem?_append_left (by omega)] at e1 e2
      exact h4 i j p q u v hij e1 e2 hu hv
    · have hj' : j = xss.length := by
        have := (List.getElem?_eq_some_iff.1 e2).1
        simp at this; omega
      subst hj'
      rw [List.getElem?_append_left (by omega)] at e1
      rw [List.getElem?_append_right (by omega), h1, Nat.sub_self] at e2
      simp only [List.getElem?_cons_zero, Option.some.injEq] at e2
      subst e2
      obtain ⟨xs, hxs⟩ := get_some (l := xss) (k := i) (by omega)
      have := (h3 i p xs e1 hxs).2 u hu
      have h7 := own_at ho hv
      omega
theorem ODz.kept {w w' : World} {lo hi e e' c m : Nat} {a : Option Addr} {xss : List (List Int)} (h : ODz lo hi w e e' a c xss m) (hb : Below w.heap.size w w') : ODz lo hi w' e e' a c xss m := by
  obtain ⟨hs, h1, h2, h3, h4⟩ := h
  exact ⟨hs, h1, h2.kept hb, fun k p xs e1 e2 => (h3 k p xs e1 e2).kept hb, h4⟩

theorem ODz.next {lo hi : Nat} {w : World} {e e' g c m : Nat} {xss : List (List Int)} (h : ODz lo hi w e e' (some ⟨g, 0, none⟩) c xss (m + 1)) : w.cell? ⟨g, xss.length, none⟩ = some (.slice none 0 0) ∧ w.frozen? ⟨g, xss.length, none⟩ = false := by
  obtain ⟨hs, h1, h2, h3, h4⟩ := h
  refine ⟨?_, h2.1.frozenAt _⟩
  rw [h2.1.cellAt _ (by omega), List.getElem?_append_right (by rw [headsV_length h1]; exact Nat.le_refl _), headsV_length h1, Nat.sub_self]
  rfl
/-- how many cells a deck has: one for each card, and one for each column -/
def deckSz (xss : List (List Int)) : Nat := xss.length + (xss.map List.length).sum
def lensUp (xss : List (List Int)) (k : Nat) : Nat := ((xss.take k).map List.length).sum
theorem lensUp_succ {xss : List (List Int)} {k : Nat} {x : List Int} (h : xss[k]? = some x) : lensUp xss (k + 1) = lensUp xss k + x.length := by
  unfold lensUp; rw [List.take_add_one, h]; simp
theorem lensUp_le (xss : List (List Int)) (k : Nat) : lensUp xss k ≤ (xss.map List.length).sum := by
  have h : (xss.map List.length).sum = ((xss.take k).map List.length).sum + ((xss.drop k).map List.length).sum := by rw [← List.sum_append, ← List.map_append, List.take_append_drop]
  unfold lensUp
  omega
theorem lensUp_all {xss : List (List Int)} {k : Nat} (h : xss.length ≤ k) : lensUp xss k = (xss.map List.length).sum := by unfold lensUp; rw [List.take_of_length_le h]
theorem deckSz_at {xss : List (List Int)} {k : Nat} {x : List Int} (h : xss[k]? = some x) : x.length + xss.length ≤ deckSz xss := by
  have h1 := lensUp_le xss (k + 1)
  rw [lensUp_succ h] at h1
  unfold deckSz; omega
theorem deckSz_len (xss : List (List Int)) : xss.length ≤ deckSz xss := by unfold deckSz; omega
end Go.Proofs.YtmpfnkheohlmiaaGreatDoor
namespace Go.Proofs.YtmpfnkheohlmiaaGreatDoor
open Go.RowKit
set_option linter.unusedVariables false
set_option linter.unusedSimpArgs false
set_option linter.unnecessarySimpa false

/-- an item: its name, its kind, its field -/
structure Itm where
  name : ByteArray
  kind : Int
  fr : Int
  to : Int
instance : DecidableEq Itm := fun a b => decidable_of_iff (a.name = b.name ∧ a.kind = b.kind ∧ a.fr = b.fr ∧ a.to = b.to) ⟨fun h => by cases a; cases b; simp_all, fun h => by subst h; simp⟩
def Itm.cells (x : Itm) : List Value := [.string x.name, .int .i64 x.kind, .int .i64 x.fr, .int .i64 x.to]
def itemsV (xs : List Itm) : List Value := xs.flatMap Itm.cells
theorem itemsV_length (xs : List Itm) : (itemsV xs).length = xs.length * 4 := by
  induction xs with
  | nil => rfl
  | cons x r ih => simp only [itemsV, List.flatMap_cons, List.length_append, List.length_cons] at *; rw [ih]; simp [Itm.cells]; omega
theorem itemsV_append (xs ys : List Itm) : itemsV (xs ++ ys) = itemsV xs ++ itemsV ys := by simp [itemsV]
theorem itemsV_one (x : Itm) : itemsV [x] = x.cells := by simp [itemsV]
theorem itemsV_at {xs : List Itm} {k : Nat} {x : Itm} (h : xs[k]? = some x) : (itemsV xs)[k * 4]? = some (.string x.name) ∧ (itemsV xs)[k * 4 + 1]? = some (.int .i64 x.kind) ∧ (itemsV xs)[k * 4 + 2]? = some (.int .i64 x.fr) ∧ (itemsV xs)[k * 4 + 3]? = some (.int .i64 x.to) := by
  have h1 : xs = xs.take k ++ x :: xs.drop (k + 1) := by
    obtain ⟨hk, hv⟩ := List.getElem?_eq_some_iff.1 h
    rw [← hv, ← List.drop_eq_getElem_cons hk, List.take_append_drop]
  have hl : (itemsV (xs.take k)).length = k * 4 := by rw [itemsV_length, List.length_take]; have := (List.getElem?_eq_some_iff.1 h).1; rw [Nat.min_eq_left (by omega)]
  have h2 : itemsV xs = itemsV (xs.take k) ++ (x.cells ++ itemsV (xs.drop (k + 1))) := by
    conv => lhs; rw [h1]
    rw [itemsV_append]; simp [itemsV]
  rw [h2]
  refine ⟨?_, ?_, ?_, ?_⟩ <;> rw [List.getElem?_append_right (by omega), hl]
  · rw [Nat.sub_self]; rfl
  · rw [show k * 4 + 1 - k * 4 = 1 by omega]; rfl
  · rw [show k * 4 + 2 - k * 4 = 2 by omega]; rfl
  · rw [show k * 4 + 3 - k * 4 = 3 by omega]; rfl
/-- the cells from an address on hold these items -/
def RT (w : World) (a : Option Addr) (xs : List Itm) : Prop := Row w a (itemsV xs)
theorem RT.kept {w w' : World} {a : Option Addr} {xs : List Itm} (h : RT w a xs) (hb : Below w.heap.size w w') : RT w' a xs := Row.kept h hb
theorem RT.kept0 {w w' : World} {a : Option Addr} {xs : List Itm} (h : RT w a xs) (hb : Below w.heap.size w w') : RT w' a xs := Row.kept h hb
theorem RT.nil (w : World) (a : Option Addr) : RT w a [] := Row.nil w a
theorem RT.at {w : World} {a : Option Addr} {xs : List Itm} (h : RT w a xs) {k : Nat} {x : Itm} (hk : xs[k]? = some x) :
    ∃ b off, a = some ⟨b, off, none⟩ ∧ w.cell? ⟨b, off + k * 4, none⟩ = some (.string x.name) ∧ w.cell? ⟨b, off + k * 4 + 1, none⟩ = some (.int .i64 x.kind) ∧ w.cell? ⟨b, off + k * 4 + 2, none⟩ = some (.int .i64 x.fr) ∧ w.cell? ⟨b, off + k * 4 + 3, none⟩ = some (.int .i64 x.to) := by
  obtain ⟨h0, h1, h2, h3⟩ := itemsV_at hk
  obtain ⟨b, off, rfl, g0⟩ := h _ _ h0
  exact ⟨b, off, rfl, g0, Row.off h h1, Row.off h h2, Row.off h h3⟩
theorem RT.off {w : World} {b off : Nat} {xs : List Itm} (h : RT w (some ⟨b, off, none⟩) xs) {k : Nat} {x : Itm} (hk : xs[k]? = some x) :
    w.cell? ⟨b, off + k * 4, none⟩ = some (.string x.name) ∧ w.cell? ⟨b, off + k * 4 + 1, none⟩ = some (.int .i64 x.kind) ∧ w.cell? ⟨b, off + k * 4 + 2, none⟩ = some (.int .i64 x.fr) ∧ w.cell? ⟨b, off + k * 4 + 3, none⟩ = some (.int .i64 x.to) := by
  obtain ⟨h0, h1, h2, h3⟩ := itemsV_at hk
  exact ⟨Row.off h h0, Row.off h h1, Row.off h h2, Row.off h h3⟩
/-- a row of items of the call's own -/
def OT (lo hi : Nat) (w : World) (e : Nat) (a : Option Addr) (c : Nat) (xs : List Itm) : Prop := OV lo hi w e 4 a xs.length c (itemsV xs)
theorem OT.of {w' : World} {lo e c : Nat} {a : Option Addr} {xs : List Itm} (h : w'.ownsRow lo e 4 (.slice a xs.length c) xs.length (itemsV xs)) : OT lo w'.heap.size w' e a c xs := OV.of h
theorem OT.RT {w : World} {lo hi e c : Nat} {a : Option Addr} {xs : List Itm} (h : OT lo hi w e a c xs) : RT w a xs := OV.row h
theorem OT.kept {w w' : World} {lo hi e c : Nat} {a : Option Addr} {xs : List Itm} (h : OT lo hi w e a c xs) (hb : Below w.heap.size w w') : OT lo hi w' e a c xs := OV.kept h hb
theorem OT.within {w w' : World} {lo hi lo' hi' e c : Nat} {a : Option Addr} {xs : List Itm} (h : OT lo hi w e a c xs) (hw : Within lo' hi' w w') (hd : hi ≤ lo' ∨ hi' ≤ lo) : OT lo hi w' e a c xs := OV.within h hw hd
theorem OT.tight {w : World} {lo hi e c B : Nat} {a : Option Addr} {xs : List Itm} (h : OT lo hi w e a c xs) (hB : ∀ p, a = some p → ¬ p.block = B) : ∃ lo' hi', lo ≤ lo' ∧ hi' ≤ hi ∧ OT lo' hi' w e a c xs ∧ (B < lo' ∨ hi' ≤ B) := OV.tight h hB
theorem OT.capm {lo hi e c : Nat} {w : World} {a : Option Addr} {xs : List Itm} (h : OT lo hi w e a c xs) : xs.length ≤ c ∧ c ≤ maxLen := by
  obtain ⟨a', c', hv, _, hc, hm⟩ := own_slice h.1
  simp only [Value.slice.injEq] at hv
  obtain ⟨_, _, rfl⟩ := hv
  exact ⟨hc, hm⟩
theorem set4 {P M : List Value} {p : Nat} {a b c d : Value} (hP : P.length = p) (hM : p + 4 ≤ M.length) :
    ((((P ++ M.drop p).set p a).set (p + 1) b).set (p + 2) c).set (p + 3) d = P ++ [a, b, c, d] ++ M.drop (p + 4) := by
  obtain ⟨m0, m1, m2, m3, r, hr⟩ : ∃ m0 m1 m2 m3 r, M.drop p = m0 :: m1 :: m2 :: m3 :: r := by
    match hq : M.drop p with
    | m0 :: m1 :: m2 :: m3 :: r => exact ⟨m0, m1, m2, m3, r, rfl⟩
    | [] => have := congrArg List.length hq; simp at this; omega
    | [_] => have := congrArg List.length hq; simp at this; omega
    | [_, _] => have := congrArg List.length hq; simp at this; omega
    | [_, _, _] => have := congrArg List.length hq; simp at this; omega
  have h4 : M.drop (p + 4) = r := by rw [← List.drop_drop, hr]; rfl
  rw [hr, h4]
  subst hP
  simp [List.set_append_right]
theorem cell4 {P M : List Value} {p j : Nat} (hP : P.length = p) (hj : j < 4) (hM : p + 4 ≤ M.length) : ∃ v, (P ++ M.drop p)[p + j]? = some v :=
  get_some (by simp; omega)
def itNe (x y : Itm) : Bool := decide (¬ x = y)
theorem itNe_no {x y : Itm} (h : itNe x y = false) : x = y := by unfold itNe at h; simpa using h
theorem itNe_yes {x y : Itm} (h : itNe x y = true) : ¬ x = y := by unfold itNe at h; simpa using h
theorem itNe_refl (x : Itm) : itNe x x = false := by unfold itNe; simp
theorem held7 {r W : World} {p1 p2 p3 p4 p5 p6 p7 : Addr} {v1 v2 v3 v4 v5 v6 v7 : Value} (hb : Below r.heap.size r W) (h1 : r.cell? p1 = some v1) (h2 : r.cell? p2 = some v2) (h3 : r.cell? p3 = some v3) (h4 : r.cell? p4 = some v4) (h5 : r.cell? p5 = some v5) (h6 : r.cell? p6 = some v6) (h7 : r.cell? p7 = some v7) : Below r.heap.size r W ∧ W.cell? p1 = some v1 ∧ W.cell? p2 = some v2 ∧ W.cell? p3 = some v3 ∧ W.cell? p4 = some v4 ∧ W.cell? p5 = some v5 ∧ W.cell? p6 = some v6 ∧ W.cell? p7 = some v7 := ⟨hb, keep hb h1, keep hb h2, keep hb h3, keep hb h4, keep hb h5, keep hb h6, keep hb h7⟩
/-- how many things a list of items holds: the items, and the letters of their names -/
def itemsSz (xs : List Itm) : Nat := xs.length + (xs.map fun x => x.name.size).sum
def namesUp (xs : List Itm) (k : Nat) : Nat := ((xs.take k).map fun x => x.name.size).sum
theorem namesUp_succ {xs : List Itm} {k : Nat} {x : Itm} (h : xs[k]? = some x) : namesUp xs (k + 1) = namesUp xs k + x.name.size := by
  unfold namesUp; rw [List.take_add_one, h]; simp
theorem namesUp_le (xs : List Itm) (k : Nat) : namesUp xs k ≤ (xs.map fun x => x.name.size).sum := by
  have h : (xs.map fun x => x.name.size).sum = ((xs.take k).map fun x => x.name.size).sum + ((xs.drop k).map fun x => x.name.size).sum := by rw [← List.sum_append, ← List.map_append, List.take_append_drop]
  unfold namesUp
  omega
theorem namesUp_all {xs : List Itm} {k : Nat} (h : xs.length ≤ k) : namesUp xs k = (xs.map fun x => x.name.size).sum := by unfold namesUp; rw [List.take_of_length_le h]
theorem itemsSz_at {xs : List Itm} {k : Nat} {x : Itm} (h : xs[k]? = some x) : x.name.size + xs.length ≤ itemsSz xs := by
  have h1 := namesUp_le xs (k + 1)
  rw [namesUp_succ h] at h1
  unfold itemsSz; omega
theorem itemsSz_len (xs : List Itm) : xs.length ≤ itemsSz xs := by unfold itemsSz; omega
theorem cut_alloc_T {w : World} {lo lo' e c : Nat} {a : Option Addr} {xs : List Itm} (h : w.ownsRow lo' e 4 (.slice a xs.length c) xs.length (itemsV xs)) (o : Obj) (h1 : lo ≤ lo') : OT lo (w.alloc o).heap.size (w.alloc o) e a c xs :=
  ((OT.of (own_mono h h1)).kept (below_alloc o)).wider (Nat.le_refl _) (by simp)
theorem cut_set_T {w : World} {lo lo' e c B : Nat} {a : Option Addr} {xs : List Itm} (h : w.ownsRow lo' e 4 (.slice a xs.length c) xs.length (itemsV xs)) (u : Value) {u' : Value} (h1 : lo ≤ lo') (h2 : B < lo') : OT lo ((w.setCell ⟨B, 0, none⟩ u).setCell ⟨B, 1, none⟩ u').heap.size ((w.setCell ⟨B, 0, none⟩ u).setCell ⟨B, 1, none⟩ u') e a c xs :=
  OT.of (own_mono (ownsRow_setCell_below (ownsRow_setCell_below h (by exact h2) u) (by exact h2) u') h1)
end Go.Proofs.YtmpfnkheohlmiaaGreatDoor
