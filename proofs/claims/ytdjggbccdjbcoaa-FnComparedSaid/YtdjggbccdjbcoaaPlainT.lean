/- Plain lemmas for the laws: texts on cards and illegal columns. No program in sight. -/
import Derived.Test.YtdjggbccdjbcoaaRead
import Derived.Test.YtdjggbccdjbcoaaPunch
namespace Go.Proofs.Ytdjggbccdjbcoaa
open Go.RowKit
set_option linter.unusedVariables false
set_option linter.unusedSimpArgs false
set_option linter.unnecessarySimpa false

theorem ill_mem {xs : List Int} {n k : Nat} {v : Int} (h : (illL xs n)[k]? = some v) : ∃ j : Nat, v = j ∧ j < n ∧ legalB (xs.getD j 0) = false := by
  have hm := List.mem_of_getElem? h
  unfold illL at hm
  rw [List.mem_map] at hm
  obtain ⟨j, hj, rfl⟩ := hm
  rw [List.mem_filter, List.mem_range] at hj
  exact ⟨j, rfl, hj.1, by simpa using hj.2⟩
theorem ill_rise (xs : List Int) (n : Nat) : (illL xs n).Pairwise (· < ·) := by
  unfold illL
  rw [List.pairwise_map]
  refine (List.pairwise_lt_range.sublist List.filter_sublist).imp ?_
  intro a b h
  exact Int.ofNat_lt.2 h
theorem ill_next {xs : List Int} {n k : Nat} {u v : Int} (hu : (illL xs n)[k]? = some u) (hv : (illL xs n)[k + 1]? = some v) : u < v := by
  obtain ⟨h1, e1⟩ := List.getElem?_eq_some_iff.1 hu
  obtain ⟨h2, e2⟩ := List.getElem?_eq_some_iff.1 hv
  have := List.pairwise_iff_getElem.1 (ill_rise xs n) k (k + 1) h1 h2 (Nat.lt_succ_self k)
  rwa [e1, e2] at this
theorem ill_nil {xs : List Int} (h : legalL xs = true) : illL xs xs.length = [] := by
  unfold illL
  rw [List.map_eq_nil_iff, List.filter_eq_nil_iff]
  intro j hj
  rw [List.mem_range] at hj
  unfold legalL at h
  rw [List.all_eq_true] at h
  have := h xs[j] (List.getElem_mem hj)
  simp [List.getD_eq_getElem?_getD, hj, this]
theorem ill_some {xs : List Int} (h : legalL xs = false) : 0 < (illL xs xs.length).length := by
  unfold legalL at h
  rw [List.all_eq_false] at h
  obtain ⟨x, hx, hl⟩ := h
  obtain ⟨j, hj, rfl⟩ := List.getElem_of_mem hx
  have hm : (j : Int) ∈ illL xs xs.length := by
    unfold illL
    rw [List.mem_map]
    refine ⟨j, ?_, rfl⟩
    rw [List.mem_filter, List.mem_range]
    exact ⟨hj, by simp [List.getD_eq_getElem?_getD, hj, hl]⟩
  exact List.length_pos_of_mem hm
theorem code0_chU {m : Int} (h : 0 ≤ rankM m) : code0 (chU m).toNat = m := by
  obtain ⟨h1, _, _, h4⟩ := charM_is h
  rw [chU_is h, code0_yes h4, h1]
theorem text_codes {xs : List Int} (h : legalL xs = true) : (textL xs).map (fun c => code0 c.toNat) = xs := by
  unfold textL
  rw [List.map_map]
  have : ∀ x ∈ xs, ((fun c : UInt8 => code0 c.toNat) ∘ chU) x = id x := by
    intro x hx
    unfold legalL at h
    rw [List.all_eq_true] at h
    exact code0_chU (by simpa [legalB] using h x hx)
  rw [List.map_congr_left this, List.map_id]
theorem text_chars {xs : List Int} (h : legalL xs = true) : charsB (textS xs) = true := by
  unfold charsB textS
  rw [List.all_eq_true]
  intro c hc
  simp only at hc
  unfold textL at hc
  rw [List.mem_map] at hc
  obtain ⟨x, hx, rfl⟩ := hc
  unfold legalL at h
  rw [List.all_eq_true] at h
  have h0 : 0 ≤ rankM x := by simpa [legalB] using h x hx
  rw [chU_is h0]
  exact (charM_is h0).2.2.2
theorem punch_read {xs : List Int} (hv : validCardL xs = true) (h : legalL xs = true) : punchTextCode (textS xs) xs.length = 0 ∧ punchTextL (textS xs) xs.length = xs := by
  have hl := validCard_len hv
  have hs := textS_size xs
  obtain ⟨h1, h2⟩ := pt_ok (s := textS xs) (n := xs.length) (inB_true.2 ⟨by omega, by omega⟩) (by omega) (text_chars h)
  refine ⟨h1, ?_⟩
  rw [h2, hs]
  unfold punchUp
  have ht : (textS xs).data.toList = textL xs := rfl
  rw [ht, List.take_of_length_le (by rw [textL_length]; exact Nat.le_refl _), text_codes h]
  simp
end Go.Proofs.Ytdjggbccdjbcoaa
