/- What is read back from the text of a layout: plain. No program in sight. -/
import Derived.Test.YtmpfnkheohlmiaaGreatDoorQM
import Derived.Test.YtmpfnkheohlmiaaGreatDoorQS
import Derived.Test.YtmpfnkheohlmiaaGreatDoorQR
namespace Go.Proofs.YtmpfnkheohlmiaaGreatDoor
open Go.RowKit
set_option linter.unusedVariables false
set_option linter.unusedSimpArgs false

theorem text_back (wd : Int) (xs : List Itm) : ∃ (W : Int) (X : List Itm) (o : Bool), layW (layoutText wd xs).data.toList = W ∧ layX (layoutText wd xs).data.toList = X ∧ layOk (layoutText wd xs).data.toList = o ∧ (layoutText wd xs).size ≤ 1048576 ∧ ((o = true ∧ W = wd ∧ X = xs ∧ ¬ (layoutText wd xs).size = 0) ∨ (o = false ∧ (layoutText wd xs).size = 0)) := by
  refine ⟨_, _, _, rfl, rfl, rfl, ?_⟩
  cases hv : validLayB wd xs
  · rw [lt_no hv]
    exact ⟨by decide, .inr ⟨by decide, by decide⟩⟩
  · obtain ⟨h1, h2, h3⟩ := lay_read hv
    obtain ⟨_, _, h4, _⟩ := validLay_is hv
    have h5 := layUp_len hv xs.length (Nat.le_refl _)
    have e : (layoutText wd xs).data.toList = layTextL wd xs := by rw [lt_yes hv]; rfl
    have hz : (layoutText wd xs).size = (layTextL wd xs).length := by rw [← e, len_bytes]
    have h6 : 0 < (layTextL wd xs).length := by unfold layTextL layUp headL; simp only [List.length_append, List.length_cons]; omega
    rw [e, hz]
    exact ⟨by unfold layTextL; omega, .inl ⟨h1, h2, h3, by omega⟩⟩
end Go.Proofs.YtmpfnkheohlmiaaGreatDoor
