/- Plain lemmas for the laws: characters, holes and ranks; texts that are punched and read. No program in sight. -/
import Derived.Test.YtdjggbccdjbcoaaPlainT
namespace Go.Proofs.Ytdjggbccdjbcoaa
open Go.RowKit
set_option linter.unusedVariables false
set_option linter.unusedSimpArgs false
set_option linter.unnecessarySimpa false

theorem char_back_dec : ∀ c : Fin 256, charB c.val = true → charM (code0 c.val) = c.val ∧ 0 ≤ rankM (code0 c.val) ∧ 0 ≤ rank0 c.val ∧ rank0 c.val ≤ 39 ∧ ((chars.getD (rank0 c.val).toNat 0).toNat : Int) = c.val := by decide +kernel
theorem char_back (u : UInt8) (h : charB u.toNat = true) : charM (code0 u.toNat) = u.toNat ∧ 0 ≤ rankM (code0 u.toNat) ∧ 0 ≤ rank0 u.toNat ∧ rank0 u.toNat ≤ 39 ∧ ((chars.getD (rank0 u.toNat).toNat 0).toNat : Int) = u.toNat :=
  char_back_dec ⟨u.toNat, UInt8.toNat_lt u⟩ h
theorem rank_inj {u v : UInt8} (hu : charB u.toNat = true) (hv : charB v.toNat = true) (h : rank0 u.toNat = rank0 v.toNat) : (u.toNat : Int) = v.toNat := by
  have h1 := (char_back u hu).2.2.2.2
  have h2 := (char_back v hv).2.2.2.2
  rw [h] at h1
  exact h1.symm.trans h2
theorem blank_char : 0 ≤ rankM 0 ∧ chU 0 = 32 := by decide +kernel
def colsT (t : ByteArray) : List Int := (t.data.toList.map fun c => code0 c.toNat) ++ [0]
theorem colsT_is (t : ByteArray) : punchUp t (t.size + 1) t.size = colsT t := by
  unfold punchUp colsT
  rw [List.take_of_length_le (by rw [len_bytes]; exact Nat.le_refl _), show t.size + 1 - t.size = 1 by omega]
  rfl
theorem colsT_length (t : ByteArray) : (colsT t).length = t.size + 1 := by
  unfold colsT; rw [List.length_append, List.length_map, len_bytes]; rfl
theorem code0_mask (u : UInt8) : 0 ≤ code0 u.toNat ∧ code0 u.toNat ≤ 4095 := by
  have hb := byte_bd u
  have := codeI_ge hb.1 hb.2
  unfold code0; split <;> omega
theorem colsT_valid {t : ByteArray} (h : t.size ≤ 8) : validCardL (colsT t) = true := by
  unfold validCardL
  rw [inB_true.2 ⟨by rw [colsT_length]; omega, by rw [colsT_length]; omega⟩, Bool.true_and, List.all_eq_true]
  intro x hx
  unfold colsT at hx
  simp only [List.mem_append, List.mem_map, List.mem_singleton] at hx
  rcases hx with ⟨c, _, rfl⟩ | rfl
  · exact inB_true.2 (code0_mask c)
  · exact inB_true.2 ⟨by decide, by decide⟩
theorem colsT_legal {t : ByteArray} (h : charsB t = true) : legalL (colsT t) = true := by
  unfold legalL
  rw [List.all_eq_true]
  intro x hx
  unfold colsT at hx
  unfold charsB at h
  rw [List.all_eq_true] at h
  simp only [List.mem_append, List.mem_map, List.mem_singleton] at hx
  rcases hx with ⟨c, hc, rfl⟩ | rfl
  · exact decide_eq_true (char_back c (h c hc)).2.1
  · exact decide_eq_true blank_char.1
theorem colsT_text {t : ByteArray} (h : charsB t = true) : textS (colsT t) = t ++ ⟨#[32]⟩ := by
  unfold charsB at h
  rw [List.all_eq_true] at h
  have h1 : textL (colsT t) = t.data.toList ++ [32] := by
    unfold textL colsT
    rw [List.map_append, List.map_map]
    congr 1
    · have : ∀ c ∈ t.data.toList, (chU ∘ fun c : UInt8 => code0 c.toNat) c = id c := by
        intro c hc
        obtain ⟨q1, q2, _⟩ := char_back c (h c hc)
        have := chU_is q2
        rw [q1] at this
        exact UInt8.toNat_inj.1 (by exact Int.ofNat_inj.1 this)
      rw [List.map_congr_left this, List.map_id]
    all_goals simp [blank_char.2]
  unfold textS
  rw [h1]
  apply ByteArray.ext
  apply Array.ext'
  simp
end Go.Proofs.Ytdjggbccdjbcoaa
