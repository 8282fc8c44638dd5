/- Plain lemmas for the laws: parts of cards, counts of holes. No program in sight. -/
import Derived.Test.YtdjggbccdjbcoaaCount
import Derived.Test.YtdjggbccdjbcoaaField
namespace Go.Proofs.Ytdjggbccdjbcoaa
open Go.RowKit
set_option linter.unusedVariables false
set_option linter.unusedSimpArgs false
set_option linter.unnecessarySimpa false

theorem cntN_pos : ∀ f x, x < 2 ^ f → 0 < x → 0 < cntN f x
  | 0, x, h, h0 => by simp at h; omega
  | f + 1, x, h, h0 => by
    unfold cntN
    by_cases h2 : x % 2 = 0
    · have := cntN_pos f (x / 2) (by rw [Nat.pow_succ] at h; omega) (by omega)
      repeat (first | omega | split)
    · repeat (first | omega | split)
theorem ones_pos {x : Int} (h0 : 0 < x) (h1 : x ≤ 4095) : 0 < onesI x := by
  have := cntN_pos 12 x.toNat (by omega) (by omega)
  unfold onesI; omega
theorem ones_zero : onesI 0 = 0 := rfl
theorem sum_zero : ∀ (xs : List Int), (∀ x ∈ xs, 0 ≤ x ∧ x ≤ 4095) → (((xs.map onesI).sum == 0) = !(xs.any fun m => m != 0)) ∧ 0 ≤ (xs.map onesI).sum
  | [], _ => ⟨rfl, by simp⟩
  | x :: r, h => by
    obtain ⟨ih1, ih2⟩ := sum_zero r (fun y hy => h y (List.mem_cons_of_mem _ hy))
    have hx := h x List.mem_cons_self
    have hb := onesI_bd x
    by_cases h0 : x = 0
    · subst h0
      simp only [List.map_cons, List.sum_cons, List.any_cons, ones_zero, Int.zero_add]
      exact ⟨by rw [ih1]; rfl, ih2⟩
    · have hp := ones_pos (x := x) (by omega) hx.2
      simp only [List.map_cons, List.sum_cons, List.any_cons]
      refine ⟨?_, by omega⟩
      have h1 : (x != 0) = true := by simpa using h0
      rw [h1, Bool.true_or]
      simp; omega
theorem partL_at {xs : List Int} {f t k : Nat} (hk : k < t - f) : (partL xs (f : Int) (t : Int))[k]? = xs[f + k]? := by
  unfold partL
  rw [List.getElem?_take, if_pos (by omega), List.getElem?_drop]
  congr 1
theorem partL_mem {xs : List Int} {f t : Int} {x : Int} (h : x ∈ partL xs f t) : x ∈ xs := List.mem_of_mem_drop (List.mem_of_mem_take h)
theorem count_part {ys : List Int} (h : ∀ x ∈ ys, 0 ≤ x ∧ x ≤ 4095) (hv : validCardL ys = true) : countCode ys = 0 ∧ (countI ys == 0) = !(ys.any fun m => m != 0) := by
  obtain ⟨h1, h2⟩ := count_ok hv
  refine ⟨h2, ?_⟩
  rw [h1]
  have := (sum_zero ys h).1
  unfold sumUp; rwa [List.take_length]
end Go.Proofs.Ytdjggbccdjbcoaa
