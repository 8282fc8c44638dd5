/- Plain lemmas that the walks of this seat use: bytes of a text, lists, the numbers of punched columns. No program in sight. -/
import Derived.WalkKit
import Derived.Handy
import Derived.Lib.Hide
namespace Go.Proofs.YtcbjfgjlhjjpiaaDoor
open Go.RowKit

/-! ### bytes -/
def smallB (c : Int) : Bool := decide (97 ≤ c) && decide (c ≤ 122)
def digitB (c : Int) : Bool := decide (48 ≤ c) && decide (c ≤ 57)
def nameB (c : Int) : Bool := smallB c || digitB c || (c == 45)
def letterB (c : Int) : Bool := (c == 109) || (c == 110) || (c == 115) || (c == 100)

/-- does a number lie between two others? -/
def inB (n lo hi : Int) : Bool := decide (lo ≤ n) && decide (n ≤ hi)
theorem inB_true {n lo hi : Int} : inB n lo hi = true ↔ lo ≤ n ∧ n ≤ hi := by simp [inB]
theorem inB_false {n lo hi : Int} : inB n lo hi = false ↔ ¬ (lo ≤ n ∧ n ≤ hi) := by rw [← inB_true]; simp
theorem len_bytes (s : ByteArray) : s.data.toList.length = s.size := by
  rw [Array.length_toList]; rfl
theorem get_bytes (s : ByteArray) (k : Nat) (h : k < s.size) : s.data.toList[k]? = some s[k] := by
  rw [List.getElem?_eq_getElem (by rw [len_bytes]; exact h)]; rfl
theorem toList_eq (s : ByteArray) : s.toList = s.data.toList := by
  exact ByteArray.toList_eq s
theorem empty_text {s : ByteArray} (h : s.size = 0) : s.toList = [] ∧ s.toList.isEmpty = true := by
  have : s.toList = [] := by rw [toList_eq]; exact List.eq_nil_of_length_eq_zero (by rw [len_bytes]; exact h)
  exact ⟨this, by rw [this]; rfl⟩
theorem full_text {s : ByteArray} (h : ¬ s.size = 0) : ¬ s.toList = [] ∧ s.toList.isEmpty = false := by
  have : ¬ s.toList = [] := fun e => h (by rw [toList_eq] at e; rw [← len_bytes, e]; rfl)
  exact ⟨this, by simpa using this⟩
theorem byte_lt (c : UInt8) : (c.toNat : Int) < 256 := by have := UInt8.toNat_lt c; omega

/-! ### lists -/
theorem all_succ {α : Type} {l : List α} {p : α → Bool} {k : Nat} {x : α} (h : l[k]? = some x) (hk : (l.take k).all p = true) (hp : p x = true) : (l.take (k + 1)).all p = true := by
  obtain ⟨h1, h2⟩ := List.getElem?_eq_some_iff.1 h
  rw [List.take_succ_eq_append_getElem h1, List.all_append, hk, h2, List.all_cons, hp]; rfl
theorem all_not {α : Type} {l : List α} {p : α → Bool} {k : Nat} {x : α} (h : l[k]? = some x) (hp : p x = false) : l.all p = false := by
  rw [List.all_eq_false]; exact ⟨x, List.mem_of_getElem? h, fun e => by rw [hp] at e; cases e⟩
theorem all_take {α : Type} {l : List α} {p : α → Bool} {k : Nat} (h : l.length ≤ k) (hk : (l.take k).all p = true) : l.all p = true := by
  rwa [List.take_of_length_le h] at hk
theorem find_hit {α : Type} {l : List α} {p : α → Bool} {k : Nat} {x : α} (h : l[k]? = some x) (hk : (l.take k).all (fun y => !p y) = true) (hp : p x = true) : l.findIdx? p = some k ∧ l.find? p = some x := by
  induction l generalizing k with
  | nil => cases h
  | cons y r ih =>
    cases k with
    | zero => simp only [List.getElem?_cons_zero, Option.some.injEq] at h; subst h; simp [List.findIdx?_cons, hp]
    | succ k =>
      simp only [List.getElem?_cons_succ] at h
      simp only [List.take_succ_cons, List.all_cons, Bool.and_eq_true, Bool.not_eq_true'] at hk
      obtain ⟨i1, i2⟩ := ih h hk.2
      simp [List.findIdx?_cons, hk.1, i1, i2]
theorem find_none {α : Type} {l : List α} {p : α → Bool} {k : Nat} (h : l.length ≤ k) (hk : (l.take k).all (fun y => !p y) = true) : l.findIdx? p = none ∧ l.find? p = none := by
  rw [List.take_of_length_le h] at hk
  simp only [List.all_eq_true, Bool.not_eq_true'] at hk
  exact ⟨by rw [List.findIdx?_eq_none_iff]; exact hk, by rw [List.find?_eq_none]; exact fun x hx => by rw [hk x hx]; simp⟩
theorem ret_int {k : IntKind} {a b : Int} (h : a = b) : Ending.returned (.int k a) = .returned (.int k b) := by rw [h]
theorem ret_ib {k : IntKind} {a a' : Int} {b b' : Bool} (h : a = a') (h' : b = b') : Ending.returned (.tuple #[.int k a, .bool b]) = .returned (.tuple #[.int k a', .bool b']) := by rw [h, h']
theorem ret_ii {k l : IntKind} {a a' b b' : Int} (h : a = a') (h' : b = b') : Ending.returned (.tuple #[.int k a, .int l b]) = .returned (.tuple #[.int k a', .int l b']) := by rw [h, h']
theorem ret_bool {a b : Bool} (h : a = b) : Ending.returned (.bool a) = .returned (.bool b) := by rw [h]

/-! ### names and program cards -/
def isNameL (l : List UInt8) : Bool := decide (1 ≤ l.length) && decide (l.length ≤ 12) && (match l with | [] => false | c :: _ => smallB c.toNat) && l.all (fun c => nameB c.toNat)
theorem isName_len {l : List UInt8} (h : l.length < 1 ∨ 12 < l.length) : isNameL l = false := by
  unfold isNameL
  rcases h with h | h
  · rw [decide_eq_false (show ¬ 1 ≤ l.length by omega)]; rfl
  · rw [decide_eq_false (show ¬ l.length ≤ 12 by omega)]; simp
theorem isName_first {l : List UInt8} {c : UInt8} (h : l[0]? = some c) (hc : smallB c.toNat = false) : isNameL l = false := by
  cases l with
  | nil => cases h
  | cons d r => simp only [List.getElem?_cons_zero, Option.some.injEq] at h; subst h; simp [isNameL, hc]
theorem isName_not {l : List UInt8} {k : Nat} {c : UInt8} (h : l[k]? = some c) (hc : nameB c.toNat = false) : isNameL l = false := by
  unfold isNameL; rw [all_not h hc]; simp
theorem isName_yes {l : List UInt8} {c : UInt8} {k : Nat} (h1 : ¬ l.length < 1) (h2 : ¬ 12 < l.length) (h : l[0]? = some c) (hc : smallB c.toNat = true) (hk : l.length ≤ k) (ha : (l.take k).all (fun c => nameB c.toNat) = true) : isNameL l = true := by
  cases l with
  | nil => cases h
  | cons d r =>
    simp only [List.getElem?_cons_zero, Option.some.injEq] at h; subst h
    have := all_take hk ha
    unfold isNameL
    rw [this, decide_eq_true (show 1 ≤ (d :: r).length by omega), decide_eq_true (show (d :: r).length ≤ 12 by omega)]
    simp only [hc]; rfl

def validProgL (l : List UInt8) : Bool := l.all (fun c => letterB c.toNat) && inB l.length 1 20
theorem validProg_not {l : List UInt8} {k : Nat} {c : UInt8} (h : l[k]? = some c) (hc : letterB c.toNat = false) : validProgL l = false := by
  unfold validProgL; rw [all_not h hc]; rfl
theorem validProg_end {l : List UInt8} {k : Nat} (hk : l.length ≤ k) (ha : (l.take k).all (fun c => letterB c.toNat) = true) : validProgL l = inB l.length 1 20 := by
  unfold validProgL; rw [all_take hk ha]; rfl

#print axioms isName_yes
end Go.Proofs.YtcbjfgjlhjjpiaaDoor
