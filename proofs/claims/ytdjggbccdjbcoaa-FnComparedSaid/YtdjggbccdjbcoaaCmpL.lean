/- Plain laws of comparing: both directions alike, and one behind the other. No program in sight. -/
import Derived.Test.YtdjggbccdjbcoaaComp
namespace Go.Proofs.Ytdjggbccdjbcoaa
open Go.RowKit
set_option linter.unusedVariables false
set_option linter.unusedSimpArgs false
set_option linter.unnecessarySimpa false

theorem cmpI_cons (x y : Int) (r s : List Int) : cmpI (x :: r) (y :: s) = if rankM x = rankM y then cmpI r s else sgnI (rankM x) (rankM y) := by
  unfold cmpI
  simp only [List.zip_cons_cons, List.find?_cons]
  by_cases he : rankM x = rankM y
  · rw [if_pos he]; simp [he]
  · rw [if_neg he]
    have : (!(rankM x == rankM y)) = true := by simpa using he
    rw [this]
theorem cmpI_nil : ∀ xs : List Int, cmpI xs [] = 0
  | [] => rfl
  | _ :: _ => rfl
theorem cmp_anti : ∀ xs ys : List Int, cmpI ys xs = - cmpI xs ys
  | [], ys => by rw [cmpI_nil]; rfl
  | x :: r, [] => by rw [cmpI_nil]; rfl
  | x :: r, y :: s => by
    rw [cmpI_cons, cmpI_cons, cmp_anti r s]
    by_cases he : rankM x = rankM y
    · rw [if_pos he, if_pos he.symm]
    · rw [if_neg he, if_neg (fun e => he e.symm)]
      unfold sgnI; split <;> split <;> omega
theorem sgn_le {p q : Int} (h : sgnI p q ≤ 0) : p < q := by unfold sgnI at h; split at h <;> omega
theorem cmp_trans : ∀ xs ys zs : List Int, xs.length = ys.length → ys.length = zs.length → cmpI xs ys ≤ 0 → cmpI ys zs ≤ 0 → cmpI xs zs ≤ 0
  | [], _, _, _, _, _, _ => by show (0 : Int) ≤ 0; omega
  | x :: r, [], _, h, _, _, _ => by simp at h
  | x :: r, y :: s, [], _, h, _, _ => by simp at h
  | x :: r, y :: s, z :: t, h1, h2, a, b => by
    rw [cmpI_cons] at a b ⊢
    have ih := cmp_trans r s t (by simpa using h1) (by simpa using h2)
    by_cases e1 : rankM x = rankM y
    · rw [if_pos e1] at a
      by_cases e2 : rankM y = rankM z
      · rw [if_pos e2] at b
        rw [if_pos (e1.trans e2)]
        exact ih a b
      · rw [if_neg e2] at b
        have := sgn_le b
        rw [if_neg (by omega), sgn_lt (by omega)]; omega
    · rw [if_neg e1] at a
      have h3 := sgn_le a
      by_cases e2 : rankM y = rankM z
      · rw [if_neg (by omega), sgn_lt (by omega)]; omega
      · rw [if_neg e2] at b
        have := sgn_le b
        rw [if_neg (by omega), sgn_lt (by omega)]; omega
/-- three cards of one width whose columns have characters -/
theorem compared {xs ys zs : List Int} {f t n : Nat} (hx : xs.length = n) (hy : ys.length = n) (hz : zs.length = n) (hft : f < t) (htn : t ≤ n) (h20 : n ≤ 20)
    (vx : validCardL xs = true) (vy : validCardL ys = true) (vz : validCardL zs = true) (lx : legalL xs = true) (ly : legalL ys = true) (lz : legalL zs = true) :
    ∃ p q r : Int, (cmpFI xs ys f t = p ∧ cmpCode xs ys f t = 0) ∧ (cmpFI ys xs f t = -p ∧ cmpCode ys xs f t = 0) ∧ (cmpFI ys zs f t = q ∧ cmpCode ys zs f t = 0) ∧ (cmpFI xs zs f t = r ∧ cmpCode xs zs f t = 0) ∧ (-1 ≤ p ∧ p ≤ 1) ∧ (0 < p ∨ 0 < q ∨ r ≤ 0) := by
  have part : ∀ us : List Int, legalL us = true → legalL (partL us f t) = true := by
    intro us h
    unfold legalL at *
    rw [List.all_eq_true] at *
    exact fun u hu => h u (List.mem_of_mem_drop (List.mem_of_mem_take hu))
  have fb : fieldB (f : Int) (t : Int) (n : Int) = true := fieldB_ok (by omega) (by omega) (by omega)
  have fx : fieldB (f : Int) (t : Int) (xs.length : Int) = true := by rw [hx]; exact fb
  have fy : fieldB (f : Int) (t : Int) (ys.length : Int) = true := by rw [hy]; exact fb
  have fz : fieldB (f : Int) (t : Int) (zs.length : Int) = true := by rw [hz]; exact fb
  have e1 := cf_ok vx vy fx fy (part xs lx) (part ys ly)
  have e2 := cf_ok vy vx fy fx (part ys ly) (part xs lx)
  have e3 := cf_ok vy vz fy fz (part ys ly) (part zs lz)
  have e4 := cf_ok vx vz fx fz (part xs lx) (part zs lz)
  refine ⟨_, _, _, e1, ⟨by rw [e2.1, cmp_anti], e2.2⟩, e3, e4, ?_, ?_⟩
  · generalize partL xs f t = a
    generalize partL ys f t = b
    induction a generalizing b with
    | nil => show (-1 : Int) ≤ 0 ∧ (0 : Int) ≤ 1; omega
    | cons u a ih =>
      cases b with
      | nil => rw [cmpI_nil]; omega
      | cons v b =>
        rw [cmpI_cons]
        split
        · exact ih b
        · unfold sgnI; split <;> omega
  · have lp : (partL xs f t).length = (partL ys f t).length := by rw [partL_length fx, partL_length fy]
    have lq : (partL ys f t).length = (partL zs f t).length := by rw [partL_length fy, partL_length fz]
    have h := cmp_trans _ _ _ lp lq
    omega
end Go.Proofs.Ytdjggbccdjbcoaa
