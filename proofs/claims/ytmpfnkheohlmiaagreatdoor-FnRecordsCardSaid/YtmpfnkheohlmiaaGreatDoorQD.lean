/- Plain facts on the numbers of punched columns: a row's bit, a character's code, the order of the characters. No program in sight. The walks of the functions on codes and ranks of characters. The walks of the functions on ranks of characters. Appends to rows that a call has made, at a step of a region whose order is open. No program in sight. The walks of the functions that draw numbers from bytes: in which bounds the numbers lie, and that nothing but the source is written. -/
import Derived.Test.YtmpfnkheohlmiaaGreatDoorQA
import Derived.Lib.Bytealg
import Derived.Test.YtmpfnkheohlmiaaGreatDoorQC
import Derived.Test.YtmpfnkheohlmiaaGreatDoorShelf
import Derived.Maps.AppendAt
import Derived.Deep.AppendLies
import Derived.RegionTactic
import Derived.Deep.QuietTactic
import Derived.BigQuiet
import Derived.Laws.Bits64
namespace Go.Proofs.YtmpfnkheohlmiaaGreatDoor
open Go.RowKit

/-- a row's bit; 0 if there is no such row -/
def bitI (r : Int) : Int := if r = 12 then 1 else if r = 11 then 2 else if 0 ≤ r ∧ r ≤ 9 then 4 * 2 ^ r.toNat else 0
theorem bitI_shift {r : Int} (h : 0 ≤ r ∧ r ≤ 9) : wrap64 (4 * 2 ^ r.toNat) = 4 * 2 ^ r.toNat := by
  obtain ⟨h1, h2⟩ := h
  have h3 : r = 0 ∨ r = 1 ∨ r = 2 ∨ r = 3 ∨ r = 4 ∨ r = 5 ∨ r = 6 ∨ r = 7 ∨ r = 8 ∨ r = 9 := by omega
  unfold wrap64
  rcases h3 with rfl | rfl | rfl | rfl | rfl | rfl | rfl | rfl | rfl | rfl <;> decide
theorem bitI_12 : bitI 12 = 1 := rfl
theorem bitI_11 : bitI 11 = 2 := rfl
theorem bitI_row {r : Int} (h : 0 ≤ r ∧ r ≤ 9) : bitI r = 4 * 2 ^ r.toNat := by
  unfold bitI; rw [if_neg (by omega), if_neg (by omega), if_pos h]
theorem bitI_none {r : Int} (h12 : ¬ r = 12) (h11 : ¬ r = 11) (h : ¬ (0 ≤ r ∧ r ≤ 9)) : bitI r = 0 := by
  unfold bitI; rw [if_neg h12, if_neg h11, if_neg h]

/-- or of two numbers, as Go has it -/
def orI (a b : Int) : Int := bits BinOp.or IntKind.i64 a b
def andI (a b : Int) : Int := bits BinOp.and IntKind.i64 a b

/-- the number of the holes of a character; -1 if it is none -/
def codeI (c : Int) : Int :=
  if c = 32 then 0 else if c = 38 then 1 else if c = 45 then 2 else if 48 ≤ c ∧ c ≤ 57 then bitI (c - 48)
  else if 65 ≤ c ∧ c ≤ 73 then orI 1 (bitI (c - 65 + 1)) else if 74 ≤ c ∧ c ≤ 82 then orI 2 (bitI (c - 74 + 1))
  else if c = 47 then 12 else if 83 ≤ c ∧ c ≤ 90 then orI 4 (bitI (c - 83 + 2)) else -1
theorem codeI_dec : ∀ c : Fin 256, -1 ≤ codeI c.val ∧ codeI c.val ≤ 4095 := by decide +kernel
theorem codeI_ge {c : Int} (h0 : 0 ≤ c) (h1 : c ≤ 255) : -1 ≤ codeI c ∧ codeI c ≤ 4095 := by
  have h := codeI_dec ⟨c.toNat, by omega⟩
  simpa [Int.toNat_of_nonneg h0] using h
/-- is it a character? -/
def charB (c : Int) : Bool := decide (0 ≤ codeI c)
/-- the code, 0 where there is none -/
def code0 (c : Int) : Int := if codeI c < 0 then 0 else codeI c
theorem code0_of {c : Int} (h : 0 ≤ codeI c) : code0 c = codeI c := by unfold code0; rw [if_neg (by omega)]

theorem codeI_dig {c : Int} (h0 : 48 ≤ c) (h1 : c ≤ 57) : codeI c = bitI (c - 48) := by
  unfold codeI; rw [if_neg (by omega), if_neg (by omega), if_neg (by omega), if_pos ⟨h0, h1⟩]
theorem codeI_AI {c : Int} (h : 65 ≤ c ∧ c ≤ 73) : codeI c = orI 1 (bitI (c - 65 + 1)) := by
  unfold codeI; rw [if_neg (by omega), if_neg (by omega), if_neg (by omega), if_neg (by omega), if_pos h]
theorem codeI_JR {c : Int} (h : 74 ≤ c ∧ c ≤ 82) : codeI c = orI 2 (bitI (c - 74 + 1)) := by
  unfold codeI; rw [if_neg (by omega), if_neg (by omega), if_neg (by omega), if_neg (by omega), if_neg (by omega), if_pos h]
theorem codeI_SZ {c : Int} (h : 83 ≤ c ∧ c ≤ 90) : codeI c = orI 4 (bitI (c - 83 + 2)) := by
  unfold codeI; rw [if_neg (by omega), if_neg (by omega), if_neg (by omega), if_neg (by omega), if_neg (by omega), if_neg (by omega), if_neg (by omega), if_pos h]
theorem codeI_none {c : Int} (h : ¬ c = 32 ∧ ¬ c = 38 ∧ ¬ c = 45 ∧ ¬ (48 ≤ c ∧ c ≤ 57) ∧ ¬ (65 ≤ c ∧ c ≤ 73) ∧ ¬ (74 ≤ c ∧ c ≤ 82) ∧ ¬ c = 47 ∧ ¬ (83 ≤ c ∧ c ≤ 90)) : codeI c = -1 := by
  obtain ⟨a1, a2, a3, a4, a5, a6, a7, a8⟩ := h
  unfold codeI; rw [if_neg a1, if_neg a2, if_neg a3, if_neg a4, if_neg a5, if_neg a6, if_neg a7, if_neg a8]
theorem charB_dec : ∀ c : Fin 256, (48 ≤ (c.val : Int) ∧ (c.val : Int) ≤ 57) ∨ (65 ≤ (c.val : Int) ∧ (c.val : Int) ≤ 73) ∨ (74 ≤ (c.val : Int) ∧ (c.val : Int) ≤ 82) ∨ (83 ≤ (c.val : Int) ∧ (c.val : Int) ≤ 90) → charB c.val = true := by decide +kernel
theorem charB_yes {c : Int} (h : (48 ≤ c ∧ c ≤ 57) ∨ (65 ≤ c ∧ c ≤ 73) ∨ (74 ≤ c ∧ c ≤ 82) ∨ (83 ≤ c ∧ c ≤ 90)) : charB c = true := by
  have h2 := charB_dec ⟨c.toNat, by omega⟩
  have h3 : ((c.toNat : Nat) : Int) = c := Int.toNat_of_nonneg (by omega)
  simp only [h3] at h2
  exact h2 h
theorem code0_yes {c : Int} (h : charB c = true) : code0 c = codeI c := code0_of (by simpa [charB] using h)
theorem codeI_digit {c : Int} (h0 : 48 ≤ c) (h1 : c ≤ 57) : code0 c = bitI (c - 48) ∧ charB c = true := by
  have hb := charB_yes (c := c) (Or.inl ⟨h0, h1⟩)
  exact ⟨by rw [code0_yes hb, codeI_dig h0 h1], hb⟩
theorem charB_AI {c : Int} (h : 65 ≤ c ∧ c ≤ 73) : charB c = true := charB_yes (by omega)
theorem charB_JR {c : Int} (h : 74 ≤ c ∧ c ≤ 82) : charB c = true := charB_yes (by omega)
theorem charB_SZ {c : Int} (h : 83 ≤ c ∧ c ≤ 90) : charB c = true := charB_yes (by omega)
theorem code0_AI {c : Int} (h : 65 ≤ c ∧ c ≤ 73) : code0 c = orI 1 (bitI (c - 65 + 1)) := by rw [code0_yes (charB_AI h), codeI_AI h]
theorem code0_JR {c : Int} (h : 74 ≤ c ∧ c ≤ 82) : code0 c = orI 2 (bitI (c - 74 + 1)) := by rw [code0_yes (charB_JR h), codeI_JR h]
theorem code0_SZ {c : Int} (h : 83 ≤ c ∧ c ≤ 90) : code0 c = orI 4 (bitI (c - 83 + 2)) := by rw [code0_yes (charB_SZ h), codeI_SZ h]
theorem code0_none {c : Int} (h : ¬ c = 32 ∧ ¬ c = 38 ∧ ¬ c = 45 ∧ ¬ (48 ≤ c ∧ c ≤ 57) ∧ ¬ (65 ≤ c ∧ c ≤ 73) ∧ ¬ (74 ≤ c ∧ c ≤ 82) ∧ ¬ c = 47 ∧ ¬ (83 ≤ c ∧ c ≤ 90)) : code0 c = 0 := by
  unfold code0; rw [codeI_none h]; rfl
theorem charB_none {c : Int} (h : ¬ c = 32 ∧ ¬ c = 38 ∧ ¬ c = 45 ∧ ¬ (48 ≤ c ∧ c ≤ 57) ∧ ¬ (65 ≤ c ∧ c ≤ 73) ∧ ¬ (74 ≤ c ∧ c ≤ 82) ∧ ¬ c = 47 ∧ ¬ (83 ≤ c ∧ c ≤ 90)) : charB c = false := by
  unfold charB; rw [codeI_none h]; rfl

/-- the characters in the order of their ranks -/
def chars : List UInt8 := [32, 38, 65, 66, 67, 68, 69, 70, 71, 72, 73, 45, 74, 75, 76, 77, 78, 79, 80, 81, 82, 47, 83, 84, 85, 86, 87, 88, 89, 90, 48, 49, 50, 51, 52, 53, 54, 55, 56, 57]
def charsS : ByteArray := ⟨chars.toArray⟩
theorem chars_get {k : Nat} (h : k < 40) : chars[k]? = some ((⟨#[32, 38, 65, 66, 67, 68, 69, 70, 71, 72, 73, 45, 74, 75, 76, 77, 78, 79, 80, 81, 82, 47, 83, 84, 85, 86, 87, 88, 89, 90, 48, 49, 50, 51, 52, 53, 54, 55, 56, 57]⟩ : ByteArray)[k]'h) := get_bytes charsS k h
theorem chars_are : ∀ c ∈ chars, charB c.toNat = true := by decide +kernel
/-- the rank of a character; -1 if it is none -/
def rankC (c : Int) : Int := Lib.indexByte chars c.toNat.toUInt8
/-- the place of the first character with these holes; -1 if there is none -/
def rankM (m : Int) : Int := match chars.findIdx? (fun c => codeI c.toNat == m) with | some i => (i : Int) | none => -1
/-- the character with these holes; 0 if there is none -/
def charM (m : Int) : Int := match chars.find? (fun c => codeI c.toNat == m) with | some c => (c.toNat : Int) | none => 0
/-- the rank, 0 where there is none -/
def rank0 (c : Int) : Int := if charB c then rankC c else 0
/-- a row's bit and its code -/
def bitCode (r : Int) : Int := if bitI r = 0 then 2 else 0
theorem byte_bd (c : UInt8) : 0 ≤ (c.toNat : Int) ∧ (c.toNat : Int) ≤ 255 := by have := byte_lt c; omega
theorem byte_of {c : Int} (h0 : 0 ≤ c) (h1 : c ≤ 255) : ∃ u : UInt8, c = (u.toNat : Int) :=
  ⟨c.toNat.toUInt8, by
    rw [show (c.toNat.toUInt8).toNat = c.toNat % 256 by simp]
    rw [Nat.mod_eq_of_lt (by omega)]; omega⟩
theorem rankM_hit {m : Int} {k : Nat} {c : UInt8} (h : chars[k]? = some c) (hk : (chars.take k).all (fun c => !(codeI c.toNat == m)) = true) (hp : codeI c.toNat = m) : rankM m = k ∧ charM m = c.toNat := by
  obtain ⟨h1, h2⟩ := find_hit (p := fun c => codeI c.toNat == m) h hk (by simpa using hp)
  unfold rankM charM; rw [h1, h2]; exact ⟨rfl, rfl⟩
theorem rankM_none {m : Int} {k : Nat} (h : 40 ≤ k) (hk : (chars.take k).all (fun c => !(codeI c.toNat == m)) = true) : rankM m = -1 ∧ charM m = 0 := by
  obtain ⟨h1, h2⟩ := find_none (p := fun c => codeI c.toNat == m) (show chars.length ≤ k from h) hk
  unfold rankM charM; rw [h1, h2]; exact ⟨rfl, rfl⟩
theorem rankM_ge (m : Int) : -1 ≤ rankM m ∧ rankM m < 40 := by
  unfold rankM
  cases h : chars.findIdx? (fun c => codeI c.toNat == m) with
  | none => simp
  | some i => have h1 := (List.findIdx?_eq_some_iff_getElem.1 h).1; have h2 : chars.length = 40 := rfl; simp only; omega
theorem char_at {m : Int} {k : Nat} (h : rankM m = k) (hk : k < 40) : charM m = ((⟨#[32, 38, 65, 66, 67, 68, 69, 70, 71, 72, 73, 45, 74, 75, 76, 77, 78, 79, 80, 81, 82, 47, 83, 84, 85, 86, 87, 88, 89, 90, 48, 49, 50, 51, 52, 53, 54, 55, 56, 57]⟩ : ByteArray)[k]'hk).toNat := by
  unfold rankM at h
  cases hf : chars.findIdx? (fun c => codeI c.toNat == m) with
  | none => rw [hf] at h; simp only at h; omega
  | some i =>
    rw [hf] at h; simp only at h
    obtain rfl : i = k := by omega
    obtain ⟨h1, h2, h3⟩ := List.findIdx?_eq_some_iff_getElem.1 hf
    have hg := chars_get hk
    have hx := List.getElem?_eq_some_iff.1 hg
    have hh : (chars.take i).all (fun y => !(fun c : UInt8 => codeI c.toNat == m) y) = true := by
      rw [List.all_eq_true]; intro y hy
      obtain ⟨j, hj, rfl⟩ := List.getElem_of_mem hy
      rw [List.length_take] at hj
      have := h3 j (by omega)
      simpa using this
    have := (find_hit (p := fun c => codeI c.toNat == m) hg hh (by rw [← hx.2]; exact h2)).2
    unfold charM; rw [this]
theorem charM_is {m : Int} (h : 0 ≤ rankM m) : codeI (charM m) = m ∧ 0 ≤ charM m ∧ charM m ≤ 255 ∧ charB (charM m) = true := by
  unfold rankM at h
  cases hf : chars.findIdx? (fun c => codeI c.toNat == m) with
  | none => rw [hf] at h; simp at h
  | some i =>
    obtain ⟨h1, h2, h3⟩ := List.findIdx?_eq_some_iff_getElem.1 hf
    have hk : i < 40 := h1
    have hr : rankM m = i := by unfold rankM; rw [hf]
    have hg := chars_get hk
    have hx := List.getElem?_eq_some_iff.1 hg
    rw [char_at hr hk]
    refine ⟨by rw [← hx.2]; simpa using h2, by omega, by have := byte_lt ((⟨#[32, 38, 65, 66, 67, 68, 69, 70, 71, 72, 73, 45, 74, 75, 76, 77, 78, 79, 80, 81, 82, 47, 83, 84, 85, 86, 87, 88, 89, 90, 48, 49, 50, 51, 52, 53, 54, 55, 56, 57]⟩ : ByteArray)[i]'hk); omega, ?_⟩
    exact chars_are _ (List.mem_of_getElem? hg)
theorem charM_none {m : Int} (h : rankM m < 0) : charM m = 0 := by
  unfold rankM at h
  cases hf : chars.findIdx? (fun c => codeI c.toNat == m) with
  | none =>
    have : chars.find? (fun c => codeI c.toNat == m) = none := by
      rw [List.find?_eq_none]; rw [List.findIdx?_eq_none_iff] at hf; exact fun x hx => by rw [hf x hx]; simp
    unfold charM; rw [this]
  | some i => rw [hf] at h; simp only at h; omega
theorem rankC_dec : ∀ c : Fin 256, (decide (0 ≤ rankC c.val) = charB c.val) ∧ (rankC c.val = -1 ∨ 0 ≤ rankC c.val) := by decide +kernel
theorem rankC_is {c : Int} (h0 : 0 ≤ c) (h1 : c ≤ 255) : (decide (0 ≤ rankC c) = charB c) ∧ (rankC c = -1 ∨ 0 ≤ rankC c) := by
  have h2 := rankC_dec ⟨c.toNat, by omega⟩
  have h3 : ((c.toNat : Nat) : Int) = c := Int.toNat_of_nonneg (by omega)
  simpa only [h3] using h2
theorem rankC_hit_dec : ∀ (k : Fin 40) (c : Fin 256), (((⟨#[32, 38, 65, 66, 67, 68, 69, 70, 71, 72, 73, 45, 74, 75, 76, 77, 78, 79, 80, 81, 82, 47, 83, 84, 85, 86, 87, 88, 89, 90, 48, 49, 50, 51, 52, 53, 54, 55, 56, 57]⟩ : ByteArray)[k.val]'k.isLt).toNat = c.val) → rankC c.val = k.val := by decide +kernel
theorem rankC_hit {c : Int} {k : Nat} (hk : k < 40) (h : (((⟨#[32, 38, 65, 66, 67, 68, 69, 70, 71, 72, 73, 45, 74, 75, 76, 77, 78, 79, 80, 81, 82, 47, 83, 84, 85, 86, 87, 88, 89, 90, 48, 49, 50, 51, 52, 53, 54, 55, 56, 57]⟩ : ByteArray)[k]'hk).toNat : Int) = c) : rankC c = k := by
  subst h
  exact rankC_hit_dec ⟨k, hk⟩ ⟨_, UInt8.toNat_lt _⟩ rfl
theorem rankC_none_dec : ∀ c : Fin 256, chars.all (fun d => !((d.toNat : Int) == c.val)) = true → rankC c.val = -1 := by decide +kernel
theorem rankC_none {c : Int} {k : Nat} (h0 : 0 ≤ c) (h1 : c ≤ 255) (hk : 40 ≤ k) (h : (chars.take k).all (fun d => !((d.toNat : Int) == c)) = true) : rankC c = -1 := by
  have h2 := rankC_none_dec ⟨c.toNat, by omega⟩
  have h3 : ((c.toNat : Nat) : Int) = c := Int.toNat_of_nonneg (by omega)
  simp only [h3] at h2
  exact h2 (all_take (show chars.length ≤ k from hk) h)

end Go.Proofs.YtmpfnkheohlmiaaGreatDoor
namespace Go.Proofs.YtmpfnkheohlmiaaGreatDoor
open Go.RowKit
set_option maxRecDepth 100000

theorem impl_bitOf (r : Int) (w : World) : Calls Tryz.prog 113 #[.int .i64 r] w fun e w' => e = .returned (.int .i64 (bitI r)) ∧ w = w' := by
  by_cases h9 : 0 ≤ r ∧ r ≤ 9
  · have hi := inB_true.2 h9
    have hr := Lib.hid (bitI_row h9)
    have hs := Lib.hid (bitI_shift h9)
    obtain ⟨h1, h2⟩ := h9
    go_enter Tryz.func113, Tryz.ntmps113
    go_wp2_with (go_at_call 62; ((with_reducible refine (impl_inside _ _ _ _).mono ?_); rintro e w' ⟨rfl, rfl⟩))
    go_ret
    exact ⟨ret_int (by rw [hr.out, hs.out]), rfl⟩
  · have hi := inB_false.2 h9
    have h9' := Lib.hid h9
    clear h9
    go_enter Tryz.func113, Tryz.ntmps113
    go_wp2_with (go_at_call 62; ((with_reducible refine (impl_inside _ _ _ _).mono ?_); rintro e w' ⟨rfl, rfl⟩))
    all_goals go_ret
    all_goals refine ⟨ret_int ?_, rfl⟩
    all_goals simp only [beq_iff_eq, beq_eq_false_iff_ne, ne_eq] at *
    · subst_vars; rfl
    · subst_vars; rfl
    · rw [bitI_none (by assumption) (by assumption) h9'.out]
theorem spec_l02Bit (r : Int) (w : World) : Calls Tryz.prog 120 #[.int .i64 r] w fun e w' => e = .returned (.int .i64 (bitI r)) ∧ w = w' := by
  by_cases h9 : 0 ≤ r ∧ r ≤ 9
  · have hi := inB_true.2 h9
    have hr := Lib.hid (bitI_row h9)
    have hs := Lib.hid (bitI_shift h9)
    obtain ⟨h1, h2⟩ := h9
    go_enter Tryz.func120, Tryz.ntmps120
    go_wp2_with (go_at_call 82; ((with_reducible refine (spec_l00In _ _ _ _).mono ?_); rintro e w' ⟨rfl, rfl⟩))
    go_ret
    exact ⟨ret_int (by rw [hr.out, hs.out]), rfl⟩
  · have hi := inB_false.2 h9
    have h9' := Lib.hid h9
    clear h9
    go_enter Tryz.func120, Tryz.ntmps120
    go_wp2_with (go_at_call 82; ((with_reducible refine (spec_l00In _ _ _ _).mono ?_); rintro e w' ⟨rfl, rfl⟩))
    all_goals go_ret
    all_goals refine ⟨ret_int ?_, rfl⟩
    all_goals simp only [beq_iff_eq, beq_eq_false_iff_ne, ne_eq] at *
    · subst_vars; rfl
    · subst_vars; rfl
    · rw [bitI_none (by assumption) (by assumption) h9'.out]
theorem impl_CodeOf (u : UInt8) (w : World) : Calls Tryz.prog 146 #[.int .u8 u.toNat] w fun e w' => e = .returned (.tuple #[.int .i64 (code0 u.toNat), .bool (charB u.toNat)]) ∧ w = w' := by
  have h0 := (byte_bd u).1
  have h1 := (byte_bd u).2
  generalize (u.toNat : Int) = c at *
  by_cases hd : 48 ≤ c ∧ c ≤ 57
  · have hb : digitB c = true := by simp [digitB, hd]
    obtain ⟨hd1, hd2⟩ := hd
    have g := Lib.hid (codeI_digit hd1 hd2)
    go_enter Tryz.func146, Tryz.ntmps146
    go_wp2_with (first | (go_at_call 144; ((with_reducible refine (impl_isDigit _ _).mono ?_); rintro e w' ⟨rfl, rfl⟩)) | (go_at_call 113; ((with_reducible refine (impl_bitOf _ _).mono ?_); rintro e w' ⟨rfl, rfl⟩)))
    go_ret2
    exact ⟨ret_ib (by rw [g.out.1]) (by rw [g.out.2]), rfl⟩
  · have hb : digitB c = false := by simp [digitB]; omega
    go_enter Tryz.func146, Tryz.ntmps146
    go_wp2_with (first | (go_at_call 144; ((with_reducible refine (impl_isDigit _ _).mono ?_); rintro e w' ⟨rfl, rfl⟩)) | (go_at_call 113; ((with_reducible refine (impl_bitOf _ _).mono ?_); rintro e w' ⟨rfl, rfl⟩)))
    all_goals go_ret2
    all_goals simp only [beq_iff_eq, beq_eq_false_iff_ne, ne_eq] at *
    all_goals refine ⟨ret_ib (Eq.symm ?_) (Eq.symm ?_), by trivial⟩
    all_goals first
      | (subst_vars; decide)
      | (rw [code0_AI (by omega)]; rfl) | (rw [code0_JR (by omega)]; rfl) | (rw [code0_SZ (by omega)]; rfl) | (rw [code0_none (by omega)])
      | (rw [charB_AI (by omega)]) | (rw [charB_JR (by omega)]) | (rw [charB_SZ (by omega)]) | (rw [charB_none (by omega)])
theorem spec_l03Code (u : UInt8) (w : World) : Calls Tryz.prog 86 #[.int .u8 u.toNat] w fun e w' => e = .returned (.int .i64 (codeI u.toNat)) ∧ w = w' := by
  have h0 := (byte_bd u).1
  have h1 := (byte_bd u).2
  generalize (u.toNat : Int) = c at *
  by_cases hd : 48 ≤ c ∧ c ≤ 57
  · have hb : digitB c = true := by simp [digitB, hd]
    obtain ⟨hd1, hd2⟩ := hd
    have g := Lib.hid (codeI_dig hd1 hd2)
    go_enter Tryz.func86, Tryz.ntmps86
    go_wp2_with (first | (go_at_call 105; ((with_reducible refine (spec_l01Digit _ _).mono ?_); rintro e w' ⟨rfl, rfl⟩)) | (go_at_call 120; ((with_reducible refine (spec_l02Bit _ _).mono ?_); rintro e w' ⟨rfl, rfl⟩)))
    go_ret
    exact ⟨ret_int (by rw [g.out]), rfl⟩
  · have hb : digitB c = false := by simp [digitB]; omega
    go_enter Tryz.func86, Tryz.ntmps86
    go_wp2_with (first | (go_at_call 105; ((with_reducible refine (spec_l01Digit _ _).mono ?_); rintro e w' ⟨rfl, rfl⟩)) | (go_at_call 120; ((with_reducible refine (spec_l02Bit _ _).mono ?_); rintro e w' ⟨rfl, rfl⟩)))
    all_goals go_ret
    all_goals simp only [beq_iff_eq, beq_eq_false_iff_ne, ne_eq] at *
    all_goals refine ⟨ret_int (Eq.symm ?_), by trivial⟩
    all_goals first
      | (subst_vars; decide)
      | (rw [codeI_AI (by omega)]; rfl) | (rw [codeI_JR (by omega)]; rfl) | (rw [codeI_SZ (by omega)]; rfl) | (rw [codeI_none (by omega)])

end Go.Proofs.YtmpfnkheohlmiaaGreatDoor
namespace Go.Proofs.YtmpfnkheohlmiaaGreatDoor
open Go.RowKit
set_option maxRecDepth 100000

theorem impl_codeOf (c : UInt8) (w : World) : Calls Tryz.prog 117 #[.int .u8 c.toNat] w fun e w' => e = .returned (.int .i64 (code0 c.toNat)) ∧ w = w' := by
  go_enter Tryz.func117, Tryz.ntmps117
  go_wp2_with (go_at_call 146; ((with_reducible refine (impl_CodeOf _ _).mono ?_); rintro e w' ⟨rfl, rfl⟩))
  go_ret
  exact ⟨rfl, rfl⟩
theorem impl_rankOf (m : Int) (w : World) : Calls Tryz.prog 132 #[.int .i64 m] w fun e w' => e = .returned (.int .i64 (rankM m)) ∧ w = w' := by
  go_enter Tryz.func132, Tryz.ntmps132
  go_wp2_with fail
  go_loop [3] (fun i => ∃ k : Nat, k ≤ 40 ∧ i = .int .i64 k ∧ Hid ((chars.take k).all (fun c => !(codeI c.toNat == m)) = true)) (fun i => 40 - (intOf i).toNat)
  case atStart => exact ⟨0, by omega, rfl, by simp [Hid]⟩
  case round =>
    obtain ⟨k, hk, rfl, hall⟩ := hrel
    by_cases hlt : k < 40
    · have hget := Lib.hid (chars_get hlt)
      have hc := Lib.hid (code0_yes (chars_are _ (List.mem_of_getElem? hget.out)))
      go_wp2_with (go_at_call 117; ((with_reducible refine (impl_codeOf _ _).mono ?_); rintro e w' ⟨rfl, rfl⟩))
      · go_ret
        have h := ‹(code0 _ == m) = true›
        rw [hc.out] at h
        exact ⟨ret_int (by rw [(rankM_hit hget.out hall.out (by simpa using h)).1]), rfl⟩
      · go_round
        case rel =>
          have h := ‹(code0 _ == m) = false›
          rw [hc.out] at h
          exact ⟨k + 1, by omega, by go_num, all_succ hget.out hall.out (by rw [h]; rfl)⟩
        case measure => simp [intOf]; omega
    · go_wp2_with fail
      go_ret
      exact ⟨ret_int (by rw [(rankM_none (by omega) hall.out).1]), rfl⟩
theorem spec_l03Order (w : World) : Calls Tryz.prog 112 #[] w fun e w' => e = .returned (.string ⟨#[32, 38, 65, 66, 67, 68, 69, 70, 71, 72, 73, 45, 74, 75, 76, 77, 78, 79, 80, 81, 82, 47, 83, 84, 85, 86, 87, 88, 89, 90, 48, 49, 50, 51, 52, 53, 54, 55, 56, 57]⟩) ∧ w = w' := by
  go_enter Tryz.func112, Tryz.ntmps112
  go_wp2
  go_ret
  exact ⟨rfl, rfl⟩
theorem spec_l03Char (m : Int) (w : World) : Calls Tryz.prog 134 #[.int .i64 m] w fun e w' => e = .returned (.tuple #[.int .u8 (charM m), .bool (decide (0 ≤ rankM m))]) ∧ w = w' := by
  go_enter Tryz.func134, Tryz.ntmps134
  go_wp2_with (go_at_call 112; ((with_reducible refine (spec_l03Order _).mono ?_); rintro e w' ⟨rfl, rfl⟩))
  go_loop [5] (fun i => ∃ k : Nat, k ≤ 40 ∧ i = .int .i64 k ∧ Hid ((chars.take k).all (fun c => !(codeI c.toNat == m)) = true)) (fun i => 40 - (intOf i).toNat)
  case atStart => exact ⟨0, by omega, rfl, by simp [Hid]⟩
  case round =>
    obtain ⟨k, hk, rfl, hall⟩ := hrel
    by_cases hlt : k < 40
    · have hget := Lib.hid (chars_get hlt)
      go_wp2_with (go_at_call 86; ((with_reducible refine (spec_l03Code _ _).mono ?_); rintro e w' ⟨rfl, rfl⟩))
      · go_ret2
        have h := ‹(codeI _ == m) = true›
        obtain ⟨r1, r2⟩ := rankM_hit hget.out hall.out (by simpa using h)
        exact ⟨ret_ib (by rw [r2]) (by rw [r1]; simp), rfl⟩
      · go_round
        case rel =>
          have h := ‹(codeI _ == m) = false›
          exact ⟨k + 1, by omega, by go_num, all_succ hget.out hall.out (by rw [h]; rfl)⟩
        case measure => simp [intOf]; omega
    · go_wp2_with fail
      go_ret2
      obtain ⟨r1, r2⟩ := rankM_none (by omega) hall.out
      exact ⟨ret_ib (by rw [r2]) (by rw [r1]; rfl), rfl⟩
theorem indexByte_chars (c : Int) (w : World) : Calls Tryz.prog 145 #[.string ⟨#[32, 38, 65, 66, 67, 68, 69, 70, 71, 72, 73, 45, 74, 75, 76, 77, 78, 79, 80, 81, 82, 47, 83, 84, 85, 86, 87, 88, 89, 90, 48, 49, 50, 51, 52, 53, 54, 55, 56, 57]⟩, .int .u8 c] w fun e w' => e = .returned (.int .i64 (rankC c)) ∧ w = w' :=
  (Tryz.strings_IndexByte ⟨#[32, 38, 65, 66, 67, 68, 69, 70, 71, 72, 73, 45, 74, 75, 76, 77, 78, 79, 80, 81, 82, 47, 83, 84, 85, 86, 87, 88, 89, 90, 48, 49, 50, 51, 52, 53, 54, 55, 56, 57]⟩ c w).mono fun _ _ h => ⟨h.1, h.2.symm⟩
theorem impl_isCharacter (c : UInt8) (w : World) : Calls Tryz.prog 114 #[.int .u8 c.toNat] w fun e w' => e = .returned (.bool (charB c.toNat)) ∧ w = w' := by
  have hr := Lib.hid (rankC_is (byte_bd c).1 (byte_bd c).2).1
  go_enter Tryz.func114, Tryz.ntmps114
  go_wp2_with (go_at_call 145; ((with_reducible refine (indexByte_chars _ _).mono ?_); rintro e w' ⟨rfl, rfl⟩))
  go_ret
  exact ⟨ret_bool (by rw [← hr.out]), rfl⟩

end Go.Proofs.YtmpfnkheohlmiaaGreatDoor
namespace Go.Proofs.YtmpfnkheohlmiaaGreatDoor
open Go.RowKit
set_option linter.unusedVariables false
set_option linter.unusedSimpArgs false
set_option linter.unnecessarySimpa false

/-- the cells from an address on hold cards -/
def RDx (w : World) (a : Option Addr) (xss : List (List Int)) : Prop := ∀ (k : Nat) (x : List Int), xss[k]? = some x → ∃ b o a' c', a = some ⟨b, o, none⟩ ∧ w.cell? ⟨b, o + k, none⟩ = some (.slice a' x.length c') ∧ RI w a' x
theorem RDx.kept {w w' : World} {a : Option Addr} {xss : List (List Int)} (h : RDx w a xss) (hb : Below w.heap.size w w') : RDx w' a xss := fun k x hk => by
  obtain ⟨b, o, a', c', e, hc, hr⟩ := h k x hk
  exact ⟨b, o, a', c', e, keep hb hc, hr.kept hb⟩
theorem RDx.at {w : World} {a : Option Addr} {xss : List (List Int)} (h : RDx w a xss) {k : Nat} {x : List Int} (hk : xss[k]? = some x) : ∃ b o a' c', a = some ⟨b, o, none⟩ ∧ w.cell? ⟨b, o + k, none⟩ = some (.slice a' x.length c') ∧ RI w a' x := h k x hk
theorem RDx.one {w : World} {B c : Nat} {a : Option Addr} {xs : List Int} (hc : w.cell? ⟨B, 0, none⟩ = some (.slice a xs.length c)) (hx : RI w a xs) : RDx w (some ⟨B, 0, none⟩) [xs] := fun k x hk => by
  match k with
  | 0 => simp only [List.getElem?_cons_zero, Option.some.injEq] at hk; subst hk; exact ⟨B, 0, a, c, rfl, hc, hx⟩
  | k + 1 => simp at hk
theorem RDx.two {w : World} {B c d : Nat} {a b : Option Addr} {xs ys : List Int} (hc : w.cell? ⟨B, 0, none⟩ = some (.slice a xs.length c)) (hd : w.cell? ⟨B, 1, none⟩ = some (.slice b ys.length d)) (hx : RI w a xs) (hy : RI w b ys) : RDx w (some ⟨B, 0, none⟩) [xs, ys] := fun k x hk => by
  match k with
  | 0 => simp only [List.getElem?_cons_zero, Option.some.injEq] at hk; subst hk; exact ⟨B, 0, a, c, rfl, hc, hx⟩
  | 1 => simp only [List.getElem?_cons_succ, List.getElem?_cons_zero, Option.some.injEq] at hk; subst hk; exact ⟨B, 0, b, d, rfl, hd, hy⟩
  | k + 2 => simp at hk
section
variable {P : Program}
/-- the cells of a block that is known whole -/
theorem row_block {w : World} {B : Nat} {cs : Array Value} {t : TypeId} {fr : Nat × Nat} (h : w.heap[B]? = some (.cells cs t fr)) : Row w (some ⟨B, 0, none⟩) cs.toList := fun j v hj =>
  ⟨B, 0, rfl, by rw [Nat.zero_add, cell_of_row w B j cs t fr h]; simpa using hj⟩
theorem Row.grown {w w' : World} {row : Option Nat} {B : Nat} {vs : List Value} (h : Row w (some ⟨B, 0, none⟩) vs) (hg : w.grownBy w' row) (hne : some B ≠ row) : Row w' (some ⟨B, 0, none⟩) vs := fun j v hj => by
  obtain ⟨b, o, e, hc⟩ := h j v hj
  simp only [Option.some.injEq, Addr.mk.injEq, and_true] at e
  obtain ⟨rfl, rfl⟩ := e
  exact ⟨B, 0, rfl, (hg.cell_far _ (World.block_lt_of_cell? w _ hc) hne).trans hc⟩
/-- append onto a row of the call's own, from whatever row -/
theorem run_row (w : World) (base : Nat) (t ty e : TypeId) (i : TypeInfo) (z : Value) (size bytes : Nat) (ht : P.underlying t = some (.slice e)) (hi : P.info? e = some i) (hz : i.zero = some z)
    (hsize : i.size = size) (hby : i.bytes = bytes) (hzs : z.cells.size = size) (hsz : 0 < size) (v : Value) (n : Nat) (xs : List Value) (hown : w.ownsRow base e size v n xs)
    (A : Option Addr) (m c : Nat) (news : List Value) (hl : news.length = m * size) (hr : Row w A news) (h1 : ∀ u ∈ news, u.oneCell' = true) (h63 : n + m ≤ maxLen) (hbytes : (n + m) * bytes ≤ 140737488355328) (hbase : base ≤ w.heap.size) :
    ∃ v' w', (Builtin.append_ #[t, t] ty #[v, .slice A m c]).run P w = .ok v' w' ∧ w'.ownsRow base e size v' (n + m) (xs ++ news) ∧ w.grownBy w' v.ownBlock := by
  match A, hr with
  | some ad, hr =>
    obtain ⟨v', w', h, h2, h3, _⟩ := run_append_own_at (P := P) w base t ty e i z size bytes ht hi hz hsize hby hzs hsz v n xs hown ad m c news hl (Row.add hr) h1 h63 hbytes hbase
    exact ⟨v', w', h, h2, h3⟩
  | none, hr =>
    obtain rfl : news = [] := by
      cases news with
      | nil => rfl
      | cons u r => obtain ⟨_, _, he, _⟩ := hr 0 u rfl; cases he
    obtain rfl : m = 0 := by
      rcases Nat.eq_zero_or_pos m with h | h
      · exact h
      · have := Nat.mul_pos h hsz; simp at hl; omega
    refine ⟨v, w, ?_, by simpa using hown, World.grownBy.refl w _⟩
    rcases hown.2 with ⟨rfl, rfl⟩ | ⟨g, cap, cur, rfl, _, _, hnc, _⟩
    · simp [Builtin.append_, run_underlying ht, sizeOf, typeInfo, hi, Builtin.lenOf, Builtin.firstCells]
    · simp [Builtin.append_, run_underlying ht, sizeOf, typeInfo, hi, Builtin.lenOf, Builtin.firstCells, hnc, storeCells]
theorem step_row {w : World} {ops : Array Oper} {o : Oper} {a : Act} {K : Act → World → Prop} {Q : Exit → Act → World → Prop} {E : Prop} (hgd : o.guard = none) (s x : Operand) (t : TypeId)
    (ho : o.op = .call { callee := .builtin .append, args := #[s, x], argTypes := #[t, t] }) (base : Nat) (e : TypeId) (i : TypeInfo) (z : Value) (size bytes : Nat) (ht : P.underlying t = some (.slice e)) (hi : P.info? e = some i) (hz : i.zero = some z)
    (hsize : i.size = size) (hby : i.bytes = bytes) (hzs : z.cells.size = size) (hsz : 0 < size) (v : Value) (n : Nat) (xs : List Value) (hs : a.eval s = v) (hown : w.ownsRow base e size v n xs)
    (A : Option Addr) (m c : Nat) (news : List Value) (hx : a.eval x = .slice A m c) (hl : news.length = m * size) (hr : Row w A news) (h1 : ∀ u ∈ news, u.oneCell' = true) (h63 : n + m ≤ maxLen) (hbytes : (n + m) * bytes ≤ 140737488355328) (hbase : base ≤ w.heap.size)
    (h : ∀ v' w', w'.ownsRow base e size v' (n + m) (xs ++ news) → w.grownBy w' v.ownBlock → K (a.put o.dst v') w') : if Region.wanted o (yielded ops a.tmps) = true then Oper.wp P o a w K Q else E := by
  have hw : Region.wanted o (yielded ops a.tmps) = true := by simp [Region.wanted, hgd]
  rw [if_pos hw]
  obtain ⟨v', w', hrun, h2, h3⟩ := run_row (P := P) w base t o.type e i z size bytes ht hi hz hsize hby hzs hsz v n xs hown A m c news hl hr h1 h63 hbytes hbase
  unfold Oper.wp execOp
  simp only [ho, resolve, invoke, builtin, Sem.run_bind, Sem.run_pure, Result.andThen_ok, List.map_toArray, List.map_cons, List.map_nil, hs, hx, hrun]
  exact h v' w' h2 h3
theorem heldB {B : Nat} {r W : World} (hb : Below B r W) {b o : Nat} (hlt : b < B) {v : Value} (h : r.cell? ⟨b, o, none⟩ = some v) : W.cell? ⟨b, o, none⟩ = some v := (hb.cell (p := ⟨b, o, none⟩) hlt).trans h
theorem blk_set {w : World} {g t : Nat} {cs : Array Value} {m : Nat × Nat} (h : w.heap[g]? = some (.cells cs t m)) (j : Nat) (u : Value) : (w.setCell ⟨g, j, none⟩ u).heap[g]? = some (.cells (cs.setIfInBounds j u) t m) := by
  simp [World.setCell, Array.getElem?_modify, h]
theorem blk_set2 {w : World} {g t : Nat} {u v : Value} {m : Nat × Nat} {u' v' : Value} (h : w.heap[g]? = some (.cells #[u, v] t m)) : ((w.setCell ⟨g, 0, none⟩ u').setCell ⟨g, 1, none⟩ v').heap[g]? = some (.cells #[u', v'] t m) := blk_set (blk_set h 0 u') 1 v'
theorem OV.far2 {w : World} {lo hi e size n c g t : Nat} {a : Option Addr} {vs : List Value} {cs : Array Value} {m : Nat × Nat} (h : OV lo hi w e size a n c vs) (hg : w.heap[g]? = some (.cells cs t m)) (hne : e ≠ t) (j k : Nat) (u v : Value) : OV lo hi ((w.setCell ⟨g, j, none⟩ u).setCell ⟨g, k, none⟩ v) e size a n c vs :=
  (h.far hg hne j u).far (blk_set hg j u) hne k v
theorem OV.ne_block {w : World} {lo hi e size n c g t : Nat} {a : Option Addr} {vs : List Value} {cs : Array Value} {m : Nat × Nat} (h : OV lo hi w e size a n c vs) (hg : w.heap[g]? = some (.cells cs t m)) (hne : e ≠ t) : ∀ q, a = some q → ¬ q.block = g := by
  intro q hq hb
  obtain ⟨h1, ⟨h2, _⟩ | ⟨g', cap, cur, hv, hg', hc, r⟩⟩ := h.1
  · rw [hq] at h2; cases h2
  · simp only [Value.slice.injEq] at hv
    rw [hq] at hv
    obtain ⟨hv, _⟩ := hv
    simp only [Option.some.injEq] at hv
    subst hv
    simp only at hb
    subst hb
    rw [hg] at hc
    simp only [Option.some.injEq, Obj.cells.injEq] at hc
    exact hne hc.2.1.symm
theorem own_ne {a : Option Addr} {n c B : Nat} (h : ∀ q, a = some q → ¬ q.block = B) : some B ≠ (Value.slice a n c).ownBlock := by
  cases a with
  | none => simp [Value.ownBlock]
  | some q => simp only [Value.ownBlock, ne_eq, Option.some.injEq]; exact fun e => h q rfl e.symm
theorem blk_cell {w : World} {g t : Nat} {u v : Value} (h : w.heap[g]? = some (.cells #[u, v] t (0, 0))) : w.cell? ⟨g, 0, none⟩ = some u ∧ w.cell? ⟨g, 1, none⟩ = some v ∧ w.frozen? ⟨g, 0, none⟩ = false ∧ w.frozen? ⟨g, 1, none⟩ = false := by
  refine ⟨by rw [cell_of_row w g 0 _ t (0, 0) h]; rfl, by rw [cell_of_row w g 1 _ t (0, 0) h]; rfl, ?_, ?_⟩ <;> simp [World.frozen?, h]
theorem blk_far {w w' : World} {row : Option Nat} {g : Nat} {o : Obj} (h : w.heap[g]? = some o) (hg : w.grownBy w' row) (hne : some g ≠ row) : w'.heap[g]? = some o :=
  (hg.block g (by rcases Nat.lt_or_ge g w.heap.size with hlt | hge; exact hlt; rw [Array.getElem?_eq_none hge] at h; cases h) hne).trans h
end
end Go.Proofs.YtmpfnkheohlmiaaGreatDoor
namespace Go.Proofs.YtmpfnkheohlmiaaGreatDoor
open Go.RowKit
set_option maxRecDepth 100000
set_option linter.unusedVariables false
set_option linter.unusedSimpArgs false
set_option linter.unnecessarySimpa false

/-- a block is a source of numbers over the bytes l, of which at most k have been read -/
def SrcIs (w : World) (B : Nat) (a : Option Addr) (c : Nat) (l : List UInt8) (k : Nat) : Prop :=
  ∃ (i : Nat) (seed : Int), i ≤ k ∧ w.heap[B]? = some (.cells #[.slice a l.length c, .int .i64 i, .int .u64 seed] 109 (0, 0)) ∧ RB w a l ∧ (0 < l.length → ∀ p, a = some p → p.block < B)
theorem SrcIs.more {w : World} {B c k k' : Nat} {a : Option Addr} {l : List UInt8} (h : SrcIs w B a c l k) (hk : k ≤ k') : SrcIs w B a c l k' := by
  obtain ⟨i, seed, h1, h2⟩ := h
  exact ⟨i, seed, Nat.le_trans h1 hk, h2⟩
theorem SrcIs.lt {w : World} {B c k : Nat} {a : Option Addr} {l : List UInt8} (h : SrcIs w B a c l k) : B < w.heap.size := by
  obtain ⟨i, seed, h1, h2, _⟩ := h
  exact (Array.getElem?_eq_some_iff.1 h2).1
/-- the bytes a source reads are not written where nothing below it is -/
theorem pos_of_map {l : List UInt8} {j : Nat} {v : Value} (h : (l.map byteV)[j]? = some v) : 0 < l.length := by
  have := (List.getElem?_eq_some_iff.1 h).1
  rw [List.length_map] at this; omega
theorem RB.lt {w : World} {a : Option Addr} {l : List UInt8} (h : RB w a l) (hl : 0 < l.length) : ∀ p, a = some p → p.block < w.heap.size := by
  intro p hp
  obtain ⟨u, hu⟩ := get_some (l := l) (k := 0) hl
  obtain ⟨b, o, e, hc⟩ := h.at hu
  rw [hp] at e
  simp only [Option.some.injEq] at e
  subst e
  exact World.block_lt_of_cell? _ _ hc
theorem RB.within {w w' : World} {lo hi : Nat} {a : Option Addr} {l : List UInt8} (h : RB w a l) (hw : Within lo hi w w') (hd : 0 < l.length → ∀ p, a = some p → p.block < lo) : RB w' a l := fun j v hj => by
  obtain ⟨b, o, rfl, hc⟩ := h j v hj
  exact ⟨b, o, rfl, hw.cell hc (Or.inl (show b < lo from hd (pos_of_map hj) ⟨b, o, none⟩ rfl))⟩
theorem SrcIs.within {w w' : World} {lo hi B c k : Nat} {a : Option Addr} {l : List UInt8} (h : SrcIs w B a c l k) (hw : Within lo hi w w') (hd : B < lo) : SrcIs w' B a c l k := by
  obtain ⟨i, seed, h1, h2, h3, h4⟩ := h
  exact ⟨i, seed, h1, (hw.block B (Array.getElem?_eq_some_iff.1 h2).1 (fun e => by omega)).trans h2, h3.within hw (fun hl p hp => by have := h4 hl p hp; omega), h4⟩
theorem SrcIs.kept {w w' : World} {B c k : Nat} {a : Option Addr} {l : List UInt8} (h : SrcIs w B a c l k) (hb : Below w.heap.size w w') : SrcIs w' B a c l k :=
  h.within (Within.of_below (lo := B + 1) (hi := B + 1) hb) (Nat.lt_succ_self B)
theorem and255 (x : Int) : 0 ≤ bits .and .u64 x 255 ∧ bits .and .u64 x 255 ≤ 255 := by
  have h : (BitVec.ofInt 64 x &&& BitVec.ofInt 64 255).toNat ≤ 255 := by
    rw [BitVec.toNat_and]
    exact Nat.le_trans Nat.and_le_right (by decide)
  have h2 : ∀ n : Nat, n ≤ 255 → 0 ≤ (n : Int) % 18446744073709551616 ∧ (n : Int) % 18446744073709551616 ≤ 255 := by omega
  unfold bits
  rw [IntKind.wrap_u64]
  exact h2 _ h
/-- a number has been drawn, of which P holds -/
def Drawn (w : World) (B : Nat) (a : Option Addr) (c : Nat) (l : List UInt8) (k : Nat) (P : Int → Prop) (e : Ending) (w' : World) : Prop :=
  ∃ r : Int, e = .returned (.int .i64 r) ∧ P r ∧ SrcIs w' B a c l k ∧ Within B (B + 1) w w'
theorem src_cells {w : World} {B t : Nat} {u v x : Value} (h : w.heap[B]? = some (.cells #[u, v, x] t (0, 0))) : (w.cell? ⟨B, 0, none⟩ = some u ∧ w.cell? ⟨B, 1, none⟩ = some v ∧ w.cell? ⟨B, 2, none⟩ = some x) ∧ w.frozen? ⟨B, 0, none⟩ = false ∧ w.frozen? ⟨B, 1, none⟩ = false ∧ w.frozen? ⟨B, 2, none⟩ = false := by
  refine ⟨⟨by rw [cell_of_row w B 0 _ t (0, 0) h]; rfl, by rw [cell_of_row w B 1 _ t (0, 0) h]; rfl, by rw [cell_of_row w B 2 _ t (0, 0) h]; rfl⟩, ?_, ?_, ?_⟩ <;> simp [World.frozen?, h]
theorem src_set {w : World} {B t : Nat} {u v x v' x' : Value} (h : w.heap[B]? = some (.cells #[u, v, x] t (0, 0))) : ((w.setCell ⟨B, 1, none⟩ v').setCell ⟨B, 2, none⟩ x').heap[B]? = some (.cells #[u, v', x'] t (0, 0)) := by
  simp [World.setCell, Array.getElem?_modify, h]
theorem spec_l00From (a : Option Addr) (c : Nat) (l : List UInt8) (w : World) (hx : RB w a l) :
    Calls Tryz.prog 28 #[.slice a l.length c] w fun e w' => e = .returned (.pointer (some ⟨w.heap.size, 0, none⟩)) ∧ SrcIs w' w.heap.size a c l 0 ∧ Below w.heap.size w w' := by
  go_enter Tryz.func28, Tryz.ntmps28
  go_wp2_with fail
  go_ret
  exact ⟨rfl, ⟨0, 0, Nat.le_refl _, heap_alloc_new _ _, hx.kept (below_alloc _), fun hl => hx.lt hl⟩, below_alloc _⟩
theorem src_within (w : World) (B m n : Nat) (v' x' : Value) : Within B (B + 1) w ((((w.drewN m).setCell ⟨B, 1, none⟩ v').setCell ⟨B, 2, none⟩ x').drewN n) :=
  (((Within.of_below (lo := B) (hi := B + 1) (below_drewN (Below.refl w.heap.size w) m)).setCell (p := ⟨B, 1, none⟩) (Nat.le_refl B) (Nat.lt_succ_self B) v').setCell (p := ⟨B, 2, none⟩) (Nat.le_refl B) (Nat.lt_succ_self B) x').trans (Within.of_below (below_drewN (Below.refl _ _) n))
set_option maxHeartbeats 1000000 in
theorem spec_next (B : Nat) (a : Option Addr) (c : Nat) (l : List UInt8) (k : Nat) (w : World) (h : SrcIs w B a c l k) (hk : k ≤ 1073741824) (hl : l.length ≤ 1073741824) :
    Calls Tryz.prog 106 #[.pointer (some ⟨B, 0, none⟩)] w (Drawn w B a c l (k + 1) fun r => 0 ≤ r ∧ r ≤ 255) := by
  obtain ⟨i, seed, hik, hbk, hrb, hd⟩ := h
  obtain ⟨⟨hc0, hc1, hc2⟩, hf0, hf1, hf2⟩ := src_cells hbk
  have hbk' := Lib.hid hbk
  have hd' := Lib.hid hd
  clear hbk hd
  by_cases hlt : i < l.length
  · obtain ⟨u, hu⟩ := get_some (l := l) (k := i) hlt
    obtain ⟨b1, o1, rfl, hcu⟩ := hrb.at hu
    have hne : b1 < B := hd'.out (by omega) _ rfl
    have hne1 : ¬ b1 = B := by omega
    have hne2 : ¬ B = b1 := by omega
    obtain ⟨hub0, hub1⟩ := byte_bd u
    have hlt' : (i : Int) < (l.length : Int) := by omega
    have hi1 : (i : Int) + 1 ≤ (l.length : Int) := by omega
    have hrb' := Lib.hid hrb
    clear hu
    go_enter Tryz.func106, Tryz.ntmps106
    go_wp2_with fail
    first | go_quiet (fail) | fail
    go_wp2_with fail
    first | go_quiet (fail) | fail
    go_wp2_with fail
    first | go_quiet (fail) | fail
    go_wp2_with fail
    go_ret
    exact ⟨_, rfl, ⟨hub0, hub1⟩, ⟨i + 1, _, by omega, src_set hbk'.out, hrb'.out.within (src_within w B _ _ _ _) hd'.out, hd'.out⟩, src_within w B _ _ _ _⟩
  · have hlt' : ¬ (i : Int) < (l.length : Int) := by omega
    have hi1 : ¬ (i : Int) + 1 ≤ (l.length : Int) := by omega
    have hrb' := Lib.hid hrb
    have hand := Lib.hid and255
    have hand2 := Lib.hid (fun (x : Int) => (show wrap64 (bits .and .u64 x 255) = bits .and .u64 x 255 by have := and255 x; unfold wrap64; omega))
    go_enter Tryz.func106, Tryz.ntmps106
    go_wp2_with fail
    first | go_quiet (fail) | fail
    go_wp2_with fail
    first | go_quiet (fail) | fail
    go_wp2_with fail
    go_ret
    refine ⟨_, rfl, ?_, ⟨i + 1, _, by omega, src_set hbk'.out, hrb'.out.within (src_within w B _ _ _ _) hd'.out, hd'.out⟩, src_within w B _ _ _ _⟩
    rw [hand2.out]
    exact hand.out _
/-- what pick n gives -/
def PickP (n r : Int) : Prop := 0 ≤ r ∧ (1 ≤ n → r < n) ∧ (n ≤ 1 → r = 0)
set_option maxHeartbeats 1000000 in
theorem spec_pick (B : Nat) (a : Option Addr) (c : Nat) (l : List UInt8) (k : Nat) (n : Int) (w : World) (h : SrcIs w B a c l k) (hk : k + 2 ≤ 1073741824) (hl : l.length ≤ 1073741824) (hn0 : -65536 ≤ n) (hn : n ≤ 65536) :
    Calls Tryz.prog 56 #[.pointer (some ⟨B, 0, none⟩), .int .i64 n] w (Drawn w B a c l (k + 2) (PickP n)) := by
  have h' := Lib.hid h
  clear h
  by_cases h1 : n ≤ 1
  · go_enter Tryz.func56, Tryz.ntmps56
    go_wp2_with fail
    go_ret
    exact ⟨0, rfl, ⟨Int.le_refl _, fun h => by omega, fun _ => rfl⟩, h'.out.more (by omega), Within.refl _ _ _⟩
  · have hnx := Lib.hid (spec_next B a c l k w h'.out (by omega) hl)
    have hnp : 0 < n := by omega
    go_enter Tryz.func56, Tryz.ntmps56
    go_wp2_with fail
    all_goals
      refine hnx.out.mono ?_
      rintro e w1 ⟨r, rfl, ⟨hr0, hr1⟩, hs, hw⟩
      have hs' := Lib.hid hs
      have hw' := Lib.hid hw
      clear hs hw
      by_cases h2 : 200 < n
      · have hny := Lib.hid (spec_next B a c l (k + 1) w1 hs'.out (by omega) hl)
        go_wp2_with fail
        refine hny.out.mono ?_
        rintro e w2 ⟨q, rfl, ⟨hq0, hq1⟩, hs2, hw2⟩
        have hs2' := Lib.hid hs2
        have hw2' := Lib.hid hw2
        clear hs2 hw2
        have hsum : 0 ≤ r * 256 + q := by omega
        go_wp2_with fail
        go_ret
        have hm1 := Int.emod_nonneg (r * 256 + q) (show n ≠ 0 by omega)
        have hm2 := Int.emod_lt_of_pos (r * 256 + q) hnp
        exact ⟨_, rfl, ⟨hm1, fun _ => hm2, fun h => by omega⟩, hs2'.out, hw'.out.trans hw2'.out⟩
      · go_wp2_with fail
        go_ret
        have hm1 := Int.emod_nonneg r (show n ≠ 0 by omega)
        have hm2 := Int.emod_lt_of_pos r hnp
        exact ⟨_, rfl, ⟨hm1, fun _ => hm2, fun h => by omega⟩, hs'.out.more (by omega), hw'.out⟩
/-- a yes or a no has been drawn -/
def DrawnB (w : World) (B : Nat) (a : Option Addr) (c : Nat) (l : List UInt8) (k : Nat) (e : Ending) (w' : World) : Prop :=
  ∃ b : Bool, e = .returned (.bool b) ∧ SrcIs w' B a c l k ∧ Within B (B + 1) w w'
theorem spec_one (B : Nat) (a : Option Addr) (c : Nat) (l : List UInt8) (k : Nat) (n : Int) (w : World) (h : SrcIs w B a c l k) (hk : k + 2 ≤ 1073741824) (hl : l.length ≤ 1073741824) (hn0 : -65536 ≤ n) (hn : n ≤ 65536) :
    Calls Tryz.prog 31 #[.pointer (some ⟨B, 0, none⟩), .int .i64 n] w (DrawnB w B a c l (k + 2)) := by
  have hp := Lib.hid (spec_pick B a c l k n w h hk hl hn0 hn)
  clear h
  go_enter Tryz.func31, Tryz.ntmps31
  go_wp2_with fail
  refine hp.out.mono ?_
  rintro e w1 ⟨r, rfl, _, hs, hw⟩
  have hs' := Lib.hid hs
  have hw' := Lib.hid hw
  clear hs hw
  go_wp2_with fail
  go_ret
  exact ⟨_, rfl, hs'.out, hw'.out⟩
theorem Within.then_below {lo hi M : Nat} {w w' w'' : World} (h : Within lo hi w w') (hb : Below M w' w'') (hM : w.heap.size ≤ M) : Within lo hi w w'' :=
  ⟨hb.os.trans h.os, hb.tape.trans h.tape, hb.output.trans h.output, Nat.le_trans h.size hb.size, fun k hk hn => (hb.block k (by omega)).trans (h.block k hk hn)⟩
theorem SrcIs.below {w w' : World} {M B c k : Nat} {a : Option Addr} {l : List UInt8} (h : SrcIs w B a c l k) (hb : Below M w w') (hd : B < M) : SrcIs w' B a c l k := by
  obtain ⟨i, seed, h1, h2, h3, h4⟩ := h
  refine ⟨i, seed, h1, (hb.block B hd).trans h2, fun j v hj => ?_, h4⟩
  obtain ⟨b, o, rfl, hc⟩ := h3 j v hj
  have hbb : b < B := h4 (pos_of_map hj) ⟨b, o, none⟩ rfl
  exact ⟨b, o, rfl, (hb.cell (p := ⟨b, o + j, none⟩) (show b < M by omega)).trans hc⟩
end Go.Proofs.YtmpfnkheohlmiaaGreatDoor
