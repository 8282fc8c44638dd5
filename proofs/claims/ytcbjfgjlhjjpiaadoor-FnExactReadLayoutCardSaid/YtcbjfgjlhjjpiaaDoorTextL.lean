/- The text of a layout, in plain Lean. No program in sight. -/
import Derived.Test.YtcbjfgjlhjjpiaaDoorValid
import Derived.Test.YtcbjfgjlhjjpiaaDoorDecL
import Derived.Lib.ItoaLen
namespace Go.Proofs.YtcbjfgjlhjjpiaaDoor
open Go.RowKit
set_option linter.unusedVariables false
set_option linter.unusedSimpArgs false
set_option linter.unnecessarySimpa false

def kindL (k : Int) : List UInt8 := if k == 2 then [110, 117, 109, 98, 101, 114] else [116, 101, 120, 116]
def lineL (x : Itm) : List UInt8 := x.name.data.toList ++ [32] ++ kindL x.kind ++ [32] ++ Lib.itoa x.fr ++ [45] ++ Lib.itoa x.to ++ [10]
def headL (wd : Int) : List UInt8 := [119, 105, 100, 116, 104, 32] ++ Lib.itoa wd ++ [10]
def linesL (xs : List Itm) (k : Nat) : List UInt8 := (xs.take k).flatMap lineL
def layUp (wd : Int) (xs : List Itm) (k : Nat) : List UInt8 := headL wd ++ linesL xs k
theorem layUp_zero (wd : Int) (xs : List Itm) : layUp wd xs 0 = headL wd := by unfold layUp linesL; simp
theorem layUp_succ {wd : Int} {xs : List Itm} {k : Nat} {x : Itm} (h : xs[k]? = some x) : layUp wd xs (k + 1) = layUp wd xs k ++ lineL x := by
  unfold layUp linesL
  rw [List.take_add_one, h, List.flatMap_append, List.append_assoc]; simp
def layTextL (wd : Int) (xs : List Itm) : List UInt8 := layUp wd xs xs.length
def layoutText (wd : Int) (xs : List Itm) : ByteArray := if validLayB wd xs then ⟨(layTextL wd xs).toArray⟩ else ⟨#[]⟩
theorem lt_no {wd : Int} {xs : List Itm} (h : validLayB wd xs = false) : layoutText wd xs = ⟨#[]⟩ := by unfold layoutText; rw [h]; rfl
theorem lt_yes {wd : Int} {xs : List Itm} (h : validLayB wd xs = true) : layoutText wd xs = ⟨(layUp wd xs xs.length).toArray⟩ := by unfold layoutText; rw [h]; rfl
theorem item_name {x : Itm} {wd : Int} (h : itemB x wd = true) : x.name.size ≤ 12 := by
  unfold itemB nameIs isNameL at h
  simp only [Bool.and_eq_true, decide_eq_true_eq] at h
  have := h.1.1.1.1.2
  rwa [len_bytes] at this
theorem item_kind {x : Itm} {wd : Int} (h : itemB x wd = true) : x.kind = 1 ∨ x.kind = 2 := by
  unfold itemB kindB at h
  simp only [Bool.and_eq_true, Bool.or_eq_true, beq_iff_eq] at h
  rcases h.2 with h | h
  · exact .inl h
  · exact .inr h.1
theorem kindL_len (k : Int) : (kindL k).length ≤ 6 := by unfold kindL; split <;> simp
theorem lineL_len {x : Itm} {wd : Int} (h : itemB x wd = true) (hw : wd ≤ 20) : (lineL x).length ≤ 64 := by
  obtain ⟨h1, h2, h3⟩ := itemB_field h
  have a1 := item_name h
  have a2 := kindL_len x.kind
  have a3 := Lib.itoa_length_le x.fr (by omega) (by omega)
  have a4 := Lib.itoa_length_le x.to (by omega) (by omega)
  have a5 := len_bytes x.name
  unfold lineL
  simp only [List.length_append, List.length_singleton]; omega
theorem layUp_len {wd : Int} {xs : List Itm} (h : validLayB wd xs = true) : ∀ k, k ≤ xs.length → (layUp wd xs k).length ≤ 28 + 64 * k
  | 0, _ => by
    obtain ⟨w1, w2, _, _⟩ := validLay_is h
    have := Lib.itoa_length_le wd (by omega) (by omega)
    rw [layUp_zero]; unfold headL
    simp only [List.length_append, List.length_cons, List.length_nil]; omega
  | k + 1, hk => by
    obtain ⟨w1, w2, _, _⟩ := validLay_is h
    obtain ⟨x, hx⟩ : ∃ x, xs[k]? = some x := ⟨xs[k], List.getElem?_eq_getElem (by omega)⟩
    have ih := layUp_len h k (by omega)
    have hl := lineL_len (validLay_item h (List.mem_of_getElem? hx)) w2
    rw [layUp_succ hx, List.length_append]; omega
theorem ba_app (a b : List UInt8) : (⟨a.toArray⟩ : ByteArray) ++ ⟨b.toArray⟩ = ⟨(a ++ b).toArray⟩ := by
  apply ByteArray.ext
  rw [ByteArray.data_append]
  simp
theorem ba_size (a : List UInt8) : (⟨a.toArray⟩ : ByteArray).size = a.length := by show a.toArray.size = _; simp
theorem ba_self (s : ByteArray) : s = ⟨s.data.toList.toArray⟩ := by apply ByteArray.ext; simp
end Go.Proofs.YtcbjfgjlhjjpiaaDoor
