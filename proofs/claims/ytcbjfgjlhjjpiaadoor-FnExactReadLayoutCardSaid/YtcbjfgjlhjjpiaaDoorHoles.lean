/- Plain facts on the numbers of punched columns: a row's bit, a character's code, the order of the characters. No program in sight. -/
import Derived.Test.YtcbjfgjlhjjpiaaDoorBase
import Derived.Lib.Bytealg
namespace Go.Proofs.YtcbjfgjlhjjpiaaDoor
open Go.RowKit

/-- a row's bit; 0 if there is no such row -/
def bitI (r : Int) : Int := if r = 12 then 1 else if r = 11 then 2 else if 0 ≤ r ∧ r ≤ 9 then 4 * 2 ^ r.toNat else 0
theorem bitI_shift {r : Int} (h : 0 ≤ r ∧ r ≤ 9) : wrap64 (4 * 2 ^ r.toNat) = 4 * 2 ^ r.toNat := by
  obtain ⟨h1, h2⟩ := h
  have h3 : r = 0 ∨ r = 1 ∨ r = 2 ∨ r = 3 ∨ r = 4 ∨ r = 5 ∨ r = 6 ∨ r = 7 ∨ r = 8 ∨ r = 9 := by omega
  unfold wrap64
  rcases h3 with rfl | rfl | rfl | rfl | rfl | rfl | rfl | rfl | rfl | rfl <;> decide
theorem bitI_12 : bitI 12 = 1 := rfl
theorem bitI_11 : bitI 11 = 2 := rfl
theorem bitI_row {r : Int} (h : 0 ≤ r ∧ r ≤ 9) : bitI r = 4 * 2 ^ r.toNat := by
  unfold bitI; rw [if_neg (by omega), if_neg (by omega), if_pos h]
theorem bitI_none {r : Int} (h12 : ¬ r = 12) (h11 : ¬ r = 11) (h : ¬ (0 ≤ r ∧ r ≤ 9)) : bitI r = 0 := by
  unfold bitI; rw [if_neg h12, if_neg h11, if_neg h]

/-- or of two numbers, as Go has it -/
def orI (a b : Int) : Int := bits BinOp.or IntKind.i64 a b
def andI (a b : Int) : Int := bits BinOp.and IntKind.i64 a b

/-- the number of the holes of a character; -1 if it is none -/
def codeI (c : Int) : Int :=
  if c = 32 then 0 else if c = 38 then 1 else if c = 45 then 2 else if 48 ≤ c ∧ c ≤ 57 then bitI (c - 48)
  else if 65 ≤ c ∧ c ≤ 73 then orI 1 (bitI (c - 65 + 1)) else if 74 ≤ c ∧ c ≤ 82 then orI 2 (bitI (c - 74 + 1))
  else if c = 47 then 12 else if 83 ≤ c ∧ c ≤ 90 then orI 4 (bitI (c - 83 + 2)) else -1
theorem codeI_dec : ∀ c : Fin 256, -1 ≤ codeI c.val ∧ codeI c.val ≤ 4095 := by decide +kernel
theorem codeI_ge {c : Int} (h0 : 0 ≤ c) (h1 : c ≤ 255) : -1 ≤ codeI c ∧ codeI c ≤ 4095 := by
  have h := codeI_dec ⟨c.toNat, by omega⟩
  simpa [Int.toNat_of_nonneg h0] using h
/-- is it a character? -/
def charB (c : Int) : Bool := decide (0 ≤ codeI c)
/-- the code, 0 where there is none -/
def code0 (c : Int) : Int := if codeI c < 0 then 0 else codeI c
theorem code0_of {c : Int} (h : 0 ≤ codeI c) : code0 c = codeI c := by unfold code0; rw [if_neg (by omega)]

theorem codeI_dig {c : Int} (h0 : 48 ≤ c) (h1 : c ≤ 57) : codeI c = bitI (c - 48) := by
  unfold codeI; rw [if_neg (by omega), if_neg (by omega), if_neg (by omega), if_pos ⟨h0, h1⟩]
theorem codeI_AI {c : Int} (h : 65 ≤ c ∧ c ≤ 73) : codeI c = orI 1 (bitI (c - 65 + 1)) := by
  unfold codeI; rw [if_neg (by omega), if_neg (by omega), if_neg (by omega), if_neg (by omega), if_pos h]
theorem codeI_JR {c : Int} (h : 74 ≤ c ∧ c ≤ 82) : codeI c = orI 2 (bitI (c - 74 + 1)) := by
  unfold codeI; rw [if_neg (by omega), if_neg (by omega), if_neg (by omega), if_neg (by omega), if_neg (by omega), if_pos h]
theorem codeI_SZ {c : Int} (h : 83 ≤ c ∧ c ≤ 90) : codeI c = orI 4 (bitI (c - 83 + 2)) := by
  unfold codeI; rw [if_neg (by omega), if_neg (by omega), if_neg (by omega), if_neg (by omega), if_neg (by omega), if_neg (by omega), if_neg (by omega), if_pos h]
theorem codeI_none {c : Int} (h : ¬ c = 32 ∧ ¬ c = 38 ∧ ¬ c = 45 ∧ ¬ (48 ≤ c ∧ c ≤ 57) ∧ ¬ (65 ≤ c ∧ c ≤ 73) ∧ ¬ (74 ≤ c ∧ c ≤ 82) ∧ ¬ c = 47 ∧ ¬ (83 ≤ c ∧ c ≤ 90)) : codeI c = -1 := by
  obtain ⟨a1, a2, a3, a4, a5, a6, a7, a8⟩ := h
  unfold codeI; rw [if_neg a1, if_neg a2, if_neg a3, if_neg a4, if_neg a5, if_neg a6, if_neg a7, if_neg a8]
theorem charB_dec : ∀ c : Fin 256, (48 ≤ (c.val : Int) ∧ (c.val : Int) ≤ 57) ∨ (65 ≤ (c.val : Int) ∧ (c.val : Int) ≤ 73) ∨ (74 ≤ (c.val : Int) ∧ (c.val : Int) ≤ 82) ∨ (83 ≤ (c.val : Int) ∧ (c.val : Int) ≤ 90) → charB c.val = true := by decide +kernel
theorem charB_yes {c : Int} (h : (48 ≤ c ∧ c ≤ 57) ∨ (65 ≤ c ∧ c ≤ 73) ∨ (74 ≤ c ∧ c ≤ 82) ∨ (83 ≤ c ∧ c ≤ 90)) : charB c = true := by
  have h2 := charB_dec ⟨c.toNat, by omega⟩
  have h3 : ((c.toNat : Nat) : Int) = c := Int.toNat_of_nonneg (by omega)
  simp only [h3] at h2
  exact h2 h
theorem code0_yes {c : Int} (h : charB c = true) : code0 c = codeI c := code0_of (by simpa [charB] using h)
theorem codeI_digit {c : Int} (h0 : 48 ≤ c) (h1 : c ≤ 57) : code0 c = bitI (c - 48) ∧ charB c = true := by
  have hb := charB_yes (c := c) (Or.inl ⟨h0, h1⟩)
  exact ⟨by rw [code0_yes hb, codeI_dig h0 h1], hb⟩
theorem charB_AI {c : Int} (h : 65 ≤ c ∧ c ≤ 73) : charB c = true := charB_yes (by omega)
theorem charB_JR {c : Int} (h : 74 ≤ c ∧ c ≤ 82) : charB c = true := charB_yes (by omega)
theorem charB_SZ {c : Int} (h : 83 ≤ c ∧ c ≤ 90) : charB c = true := charB_yes (by omega)
theorem code0_AI {c : Int} (h : 65 ≤ c ∧ c ≤ 73) : code0 c = orI 1 (bitI (c - 65 + 1)) := by rw [code0_yes (charB_AI h), codeI_AI h]
theorem code0_JR {c : Int} (h : 74 ≤ c ∧ c ≤ 82) : code0 c = orI 2 (bitI (c - 74 + 1)) := by rw [code0_yes (charB_JR h), codeI_JR h]
theorem code0_SZ {c : Int} (h : 83 ≤ c ∧ c ≤ 90) : code0 c = orI 4 (bitI (c - 83 + 2)) := by rw [code0_yes (charB_SZ h), codeI_SZ h]
theorem code0_none {c : Int} (h : ¬ c = 32 ∧ ¬ c = 38 ∧ ¬ c = 45 ∧ ¬ (48 ≤ c ∧ c ≤ 57) ∧ ¬ (65 ≤ c ∧ c ≤ 73) ∧ ¬ (74 ≤ c ∧ c ≤ 82) ∧ ¬ c = 47 ∧ ¬ (83 ≤ c ∧ c ≤ 90)) : code0 c = 0 := by
  unfold code0; rw [codeI_none h]; rfl
theorem charB_none {c : Int} (h : ¬ c = 32 ∧ ¬ c = 38 ∧ ¬ c = 45 ∧ ¬ (48 ≤ c ∧ c ≤ 57) ∧ ¬ (65 ≤ c ∧ c ≤ 73) ∧ ¬ (74 ≤ c ∧ c ≤ 82) ∧ ¬ c = 47 ∧ ¬ (83 ≤ c ∧ c ≤ 90)) : charB c = false := by
  unfold charB; rw [codeI_none h]; rfl

/-- the characters in the order of their ranks -/
def chars : List UInt8 := [32, 38, 65, 66, 67, 68, 69, 70, 71, 72, 73, 45, 74, 75, 76, 77, 78, 79, 80, 81, 82, 47, 83, 84, 85, 86, 87, 88, 89, 90, 48, 49, 50, 51, 52, 53, 54, 55, 56, 57]
def charsS : ByteArray := ⟨chars.toArray⟩
theorem chars_get {k : Nat} (h : k < 40) : chars[k]? = some ((⟨#[32, 38, 65, 66, 67, 68, 69, 70, 71, 72, 73, 45, 74, 75, 76, 77, 78, 79, 80, 81, 82, 47, 83, 84, 85, 86, 87, 88, 89, 90, 48, 49, 50, 51, 52, 53, 54, 55, 56, 57]⟩ : ByteArray)[k]'h) := get_bytes charsS k h
theorem chars_are : ∀ c ∈ chars, charB c.toNat = true := by decide +kernel
/-- the rank of a character; -1 if it is none -/
def rankC (c : Int) : Int := Lib.indexByte chars c.toNat.toUInt8
/-- the place of the first character with these holes; -1 if there is none -/
def rankM (m : Int) : Int := match chars.findIdx? (fun c => codeI c.toNat == m) with | some i => (i : Int) | none => -1
/-- the character with these holes; 0 if there is none -/
def charM (m : Int) : Int := match chars.find? (fun c => codeI c.toNat == m) with | some c => (c.toNat : Int) | none => 0
/-- the rank, 0 where there is none -/
def rank0 (c : Int) : Int := if charB c then rankC c else 0
/-- a row's bit and its code -/
def bitCode (r : Int) : Int := if bitI r = 0 then 2 else 0
theorem byte_bd (c : UInt8) : 0 ≤ (c.toNat : Int) ∧ (c.toNat : Int) ≤ 255 := by have := byte_lt c; omega
theorem byte_of {c : Int} (h0 : 0 ≤ c) (h1 : c ≤ 255) : ∃ u : UInt8, c = (u.toNat : Int) :=
  ⟨c.toNat.toUInt8, by
    rw [show (c.toNat.toUInt8).toNat = c.toNat % 256 by simp]
    rw [Nat.mod_eq_of_lt (by omega)]; omega⟩
theorem rankM_hit {m : Int} {k : Nat} {c : UInt8} (h : chars[k]? = some c) (hk : (chars.take k).all (fun c => !(codeI c.toNat == m)) = true) (hp : codeI c.toNat = m) : rankM m = k ∧ charM m = c.toNat := by
  obtain ⟨h1, h2⟩ := find_hit (p := fun c => codeI c.toNat == m) h hk (by simpa using hp)
  unfold rankM charM; rw [h1, h2]; exact ⟨rfl, rfl⟩
theorem rankM_none {m : Int} {k : Nat} (h : 40 ≤ k) (hk : (chars.take k).all (fun c => !(codeI c.toNat == m)) = true) : rankM m = -1 ∧ charM m = 0 := by
  obtain ⟨h1, h2⟩ := find_none (p := fun c => codeI c.toNat == m) (show chars.length ≤ k from h) hk
  unfold rankM charM; rw [h1, h2]; exact ⟨rfl, rfl⟩
theorem rankM_ge (m : Int) : -1 ≤ rankM m ∧ rankM m < 40 := by
  unfold rankM
  cases h : chars.findIdx? (fun c => codeI c.toNat == m) with
  | none => simp
  | some i => have h1 := (List.findIdx?_eq_some_iff_getElem.1 h).1; have h2 : chars.length = 40 := rfl; simp only; omega
theorem char_at {m : Int} {k : Nat} (h : rankM m = k) (hk : k < 40) : charM m = ((⟨#[32, 38, 65, 66, 67, 68, 69, 70, 71, 72, 73, 45, 74, 75, 76, 77, 78, 79, 80, 81, 82, 47, 83, 84, 85, 86, 87, 88, 89, 90, 48, 49, 50, 51, 52, 53, 54, 55, 56, 57]⟩ : ByteArray)[k]'hk).toNat := by
  unfold rankM at h
  cases hf : chars.findIdx? (fun c => codeI c.toNat == m) with
  | none => rw [hf] at h; simp only at h; omega
  | some i =>
    rw [hf] at h; simp only at h
    obtain rfl : i = k := by omega
    obtain ⟨h1, h2, h3⟩ := List.findIdx?_eq_some_iff_getElem.1 hf
    have hg := chars_get hk
    have hx := List.getElem?_eq_some_iff.1 hg
    have hh : (chars.take i).all (fun y => !(fun c : UInt8 => codeI c.toNat == m) y) = true := by
      rw [List.all_eq_true]; intro y hy
      obtain ⟨j, hj, rfl⟩ := List.getElem_of_mem hy
      rw [List.length_take] at hj
      have := h3 j (by omega)
      simpa using this
    have := (find_hit (p := fun c => codeI c.toNat == m) hg hh (by rw [← hx.2]; exact h2)).2
    unfold charM; rw [this]
theorem charM_is {m : Int} (h : 0 ≤ rankM m) : codeI (charM m) = m ∧ 0 ≤ charM m ∧ charM m ≤ 255 ∧ charB (charM m) = true := by
  unfold rankM at h
  cases hf : chars.findIdx? (fun c => codeI c.toNat == m) with
  | none => rw [hf] at h; simp at h
  | some i =>
    obtain ⟨h1, h2, h3⟩ := List.findIdx?_eq_some_iff_getElem.1 hf
    have hk : i < 40 := h1
    have hr : rankM m = i := by unfold rankM; rw [hf]
    have hg := chars_get hk
    have hx := List.getElem?_eq_some_iff.1 hg
    rw [char_at hr hk]
    refine ⟨by rw [← hx.2]; simpa using h2, by omega, by have := byte_lt ((⟨#[32, 38, 65, 66, 67, 68, 69, 70, 71, 72, 73, 45, 74, 75, 76, 77, 78, 79, 80, 81, 82, 47, 83, 84, 85, 86, 87, 88, 89, 90, 48, 49, 50, 51, 52, 53, 54, 55, 56, 57]⟩ : ByteArray)[i]'hk); omega, ?_⟩
    exact chars_are _ (List.mem_of_getElem? hg)
theorem charM_none {m : Int} (h : rankM m < 0) : charM m = 0 := by
  unfold rankM at h
  cases hf : chars.findIdx? (fun c => codeI c.toNat == m) with
  | none =>
    have : chars.find? (fun c => codeI c.toNat == m) = none := by
      rw [List.find?_eq_none]; rw [List.findIdx?_eq_none_iff] at hf; exact fun x hx => by rw [hf x hx]; simp
    unfold charM; rw [this]
  | some i => rw [hf] at h; simp only at h; omega
theorem rankC_dec : ∀ c : Fin 256, (decide (0 ≤ rankC c.val) = charB c.val) ∧ (rankC c.val = -1 ∨ 0 ≤ rankC c.val) := by decide +kernel
theorem rankC_is {c : Int} (h0 : 0 ≤ c) (h1 : c ≤ 255) : (decide (0 ≤ rankC c) = charB c) ∧ (rankC c = -1 ∨ 0 ≤ rankC c) := by
  have h2 := rankC_dec ⟨c.toNat, by omega⟩
  have h3 : ((c.toNat : Nat) : Int) = c := Int.toNat_of_nonneg (by omega)
  simpa only [h3] using h2
theorem rankC_hit_dec : ∀ (k : Fin 40) (c : Fin 256), (((⟨#[32, 38, 65, 66, 67, 68, 69, 70, 71, 72, 73, 45, 74, 75, 76, 77, 78, 79, 80, 81, 82, 47, 83, 84, 85, 86, 87, 88, 89, 90, 48, 49, 50, 51, 52, 53, 54, 55, 56, 57]⟩ : ByteArray)[k.val]'k.isLt).toNat = c.val) → rankC c.val = k.val := by decide +kernel
theorem rankC_hit {c : Int} {k : Nat} (hk : k < 40) (h : (((⟨#[32, 38, 65, 66, 67, 68, 69, 70, 71, 72, 73, 45, 74, 75, 76, 77, 78, 79, 80, 81, 82, 47, 83, 84, 85, 86, 87, 88, 89, 90, 48, 49, 50, 51, 52, 53, 54, 55, 56, 57]⟩ : ByteArray)[k]'hk).toNat : Int) = c) : rankC c = k := by
  subst h
  exact rankC_hit_dec ⟨k, hk⟩ ⟨_, UInt8.toNat_lt _⟩ rfl
theorem rankC_none_dec : ∀ c : Fin 256, chars.all (fun d => !((d.toNat : Int) == c.val)) = true → rankC c.val = -1 := by decide +kernel
theorem rankC_none {c : Int} {k : Nat} (h0 : 0 ≤ c) (h1 : c ≤ 255) (hk : 40 ≤ k) (h : (chars.take k).all (fun d => !((d.toNat : Int) == c)) = true) : rankC c = -1 := by
  have h2 := rankC_none_dec ⟨c.toNat, by omega⟩
  have h3 : ((c.toNat : Nat) : Int) = c := Int.toNat_of_nonneg (by omega)
  simp only [h3] at h2
  exact h2 (all_take (show chars.length ≤ k from hk) h)

end Go.Proofs.YtcbjfgjlhjjpiaaDoor
