/- The walks of the functions on keys of program cards: what each returns; memory is as it was. -/
import Derived.Test.YtoeohebobmkobaaWords
import Derived.Test.YtoeohebobmkobaaShelf
namespace Go.Proofs.Ytoeohebobmkobaa
open Go.RowKit
set_option maxRecDepth 100000
set_option linter.unusedVariables false
set_option linter.unusedSimpArgs false
set_option linter.unnecessarySimpa false

def keyedB (c : Int) : Bool := (c == 109) || (c == 110)
/-- how many keys a program card needs -/
def keysN (l : List UInt8) : Nat := l.count 109 + l.count 110
theorem keysN_le (l : List UInt8) : keysN l ≤ l.length := by
  unfold keysN
  induction l with
  | nil => simp
  | cons x r ih =>
    simp only [List.count_cons, List.length_cons]
    by_cases h : x = 109
    · subst h; simp; omega
    · by_cases h2 : x = 110
      · subst h2; simp; omega
      · simp [h, h2]; omega
theorem keyed_iff (c : UInt8) : keyedB c.toNat = (c == 109 || c == 110) := by
  rw [Bool.eq_iff_iff]
  simp only [keyedB, Bool.or_eq_true, beq_iff_eq, ← UInt8.toNat_inj]
  show _ ↔ c.toNat = 109 ∨ c.toNat = 110
  omega
theorem keysN_yes {l : List UInt8} {k : Nat} {c : UInt8} (h : l[k]? = some c) (hc : keyedB c.toNat = true) : keysN (l.take (k + 1)) = keysN (l.take k) + 1 := by
  rw [keyed_iff] at hc
  unfold keysN; rw [List.take_add_one, h]
  simp only [Option.toList_some, List.count_append, List.count_singleton]
  simp only [Bool.or_eq_true, beq_iff_eq] at hc
  rcases hc with rfl | rfl <;> simp <;> omega
theorem keysN_no {l : List UInt8} {k : Nat} {c : UInt8} (h : l[k]? = some c) (hc : keyedB c.toNat = false) : keysN (l.take (k + 1)) = keysN (l.take k) := by
  rw [keyed_iff] at hc
  unfold keysN; rw [List.take_add_one, h]
  simp only [Option.toList_some, List.count_append, List.count_singleton]
  simp only [Bool.or_eq_false_iff] at hc
  rw [hc.1, hc.2]; simp
def keysI (s : ByteArray) : Int := (keysN s.data.toList : Nat)
theorem keysI_bd (s : ByteArray) : 0 ≤ keysI s ∧ keysI s ≤ s.size := by
  have := keysN_le s.data.toList; rw [len_bytes] at this; unfold keysI; omega
theorem impl_keysNeeded (s : ByteArray) (w : World) (hs : s.size ≤ 1048576) : Calls Try.prog 72 #[.string s] w fun e w' => e = .returned (.int .i64 (keysI s)) ∧ w = w' := by
  have h1 := List.count_le_length (a := (109 : UInt8)) (l := s.data.toList)
  have h2 := List.count_le_length (a := (110 : UInt8)) (l := s.data.toList)
  rw [len_bytes] at h1 h2
  have hf := Lib.hid (show keysI s = (s.data.toList.count 109 : Int) + (s.data.toList.count 110 : Int) by unfold keysI keysN; omega)
  have c1 := Try.strings_Count_one s 109 w
  have c2 := Try.strings_Count_one s 110 w
  rw [show Lib.countByte s.data.toList 109 = s.data.toList.count 109 from rfl] at c1
  rw [show Lib.countByte s.data.toList 110 = s.data.toList.count 110 from rfl] at c2
  generalize s.data.toList.count 109 = p at *
  generalize s.data.toList.count 110 = q at *
  have c1' := Lib.hid c1
  have c2' := Lib.hid c2
  clear c1 c2
  go_enter Try.func72, Try.ntmps72
  go_wp2_with fail
  refine c1'.out.mono ?_
  rintro e w' ⟨rfl, rfl⟩
  go_wp2_with fail
  refine c2'.out.mono ?_
  rintro e w' ⟨rfl, rfl⟩
  go_wp2_with fail
  go_ret
  exact ⟨ret_int (by rw [hf.out]), rfl⟩
theorem spec_l05Keyed (c : Int) (w : World) : Calls Try.prog 38 #[.int .u8 c] w fun e w' => e = .returned (.bool (keyedB c)) ∧ w = w' := by
  go_enter Try.func38, Try.ntmps38
  go_wp2
  all_goals go_ret
  all_goals exact ⟨ret_bool (by unfold keyedB; simp_all), rfl⟩
set_option maxHeartbeats 400000 in
theorem spec_l05Keys (s : ByteArray) (w : World) (hs : s.size ≤ 1048576) : Calls Try.prog 78 #[.string s] w fun e w' => e = .returned (.int .i64 (keysI s)) ∧ w = w' := by
  have hl := Lib.hid (len_bytes s)
  go_enter Try.func78, Try.ntmps78
  go_wp2_with fail
  go_loop [3, 4] (fun n i => ∃ k : Nat, k ≤ s.size ∧ i = .int .i64 k ∧ n = .int .i64 ((keysN (s.data.toList.take k) : Nat) : Int)) (fun _ i => s.size - (intOf i).toNat)
  case atStart => exact ⟨0, by omega, rfl, by simp [keysN]⟩
  case round =>
    obtain ⟨k, hk, rfl, rfl⟩ := hrel
    have hkn := keysN_le (s.data.toList.take k)
    have hkl : (s.data.toList.take k).length ≤ k := List.length_take_le _ _
    by_cases hlt : k < s.size
    · have hget := get_bytes s k hlt
      cases hc : keyedB (s[k]'hlt).toNat
      · have hs1 := Lib.hid (keysN_no hget hc)
        clear hget
        go_wp2_with (go_at_call 38; ((with_reducible refine (spec_l05Keyed _ _).mono ?_); rintro e w' ⟨rfl, rfl⟩))
        go_round
        case rel => exact ⟨k + 1, by omega, by go_num, by rw [hs1.out]⟩
        case measure => simp [intOf]; omega
      · have hs1 := Lib.hid (keysN_yes hget hc)
        clear hget
        generalize hK : keysN (s.data.toList.take k) = K at *
        go_wp2_with (go_at_call 38; ((with_reducible refine (spec_l05Keyed _ _).mono ?_); rintro e w' ⟨rfl, rfl⟩))
        go_round
        case rel => exact ⟨k + 1, by omega, by go_num, by rw [hs1.out]; go_num⟩
        case measure => simp [intOf]; omega
    · have hfin := Lib.hid (show keysI s = ((keysN (s.data.toList.take k) : Nat) : Int) by unfold keysI; rw [List.take_of_length_le (by rw [hl.out]; omega)])
      go_wp2_with fail
      go_ret
      exact ⟨ret_int (by rw [hfin.out]), rfl⟩
def progCode (s : ByteArray) : Int := if validProgL s.data.toList then 0 else 1
def keysNeedI (s : ByteArray) : Int := if validProgL s.data.toList then keysI s else 0
theorem kn_bad {s : ByteArray} (h : validProgL s.data.toList = false) : keysNeedI s = 0 ∧ progCode s = 1 := by unfold keysNeedI progCode; rw [h]; exact ⟨rfl, rfl⟩
theorem kn_ok {s : ByteArray} (h : validProgL s.data.toList = true) : keysNeedI s = keysI s ∧ progCode s = 0 := by unfold keysNeedI progCode; rw [h]; exact ⟨rfl, rfl⟩
def strokesCode (s : ByteArray) (n : Int) : Int := if validProgL s.data.toList then (if inB n 0 1000000 then 0 else 2) else 1
def strokesI (s : ByteArray) (n : Int) : Int := if strokesCode s n == 0 then n * ((s.size : Int) - keysI s) else 0
theorem st_bad {s : ByteArray} (n : Int) (h : validProgL s.data.toList = false) : strokesI s n = 0 ∧ strokesCode s n = 1 := by
  have h1 : strokesCode s n = 1 := by unfold strokesCode; rw [h]; rfl
  exact ⟨by unfold strokesI; rw [h1]; rfl, h1⟩
theorem st_range {s : ByteArray} {n : Int} (h : validProgL s.data.toList = true) (h2 : inB n 0 1000000 = false) : strokesI s n = 0 ∧ strokesCode s n = 2 := by
  have h1 : strokesCode s n = 2 := by unfold strokesCode; rw [h, h2]; rfl
  exact ⟨by unfold strokesI; rw [h1]; rfl, h1⟩
theorem st_ok {s : ByteArray} {n : Int} (h : validProgL s.data.toList = true) (h2 : inB n 0 1000000 = true) : strokesI s n = n * ((s.size : Int) - keysI s) ∧ strokesCode s n = 0 := by
  have h1 : strokesCode s n = 0 := by unfold strokesCode; rw [h, h2]; rfl
  exact ⟨by unfold strokesI; rw [h1]; rfl, h1⟩
theorem st_bd {s : ByteArray} {n : Int} (h : validProgL s.data.toList = true) (h2 : inB n 0 1000000 = true) : 0 ≤ n * ((s.size : Int) - keysI s) ∧ n * ((s.size : Int) - keysI s) ≤ 20000000 ∧ 0 ≤ (s.size : Int) - keysI s := by
  have hk := keysI_bd s
  have hn := inB_true.1 h2
  unfold validProgL at h
  simp only [Bool.and_eq_true] at h
  have hl := inB_true.1 h.2
  rw [len_bytes] at hl
  have hd : 0 ≤ (s.size : Int) - keysI s := by omega
  refine ⟨Int.mul_nonneg hn.1 hd, ?_, hd⟩
  exact Int.le_trans (Int.mul_le_mul hn.2 (show (s.size : Int) - keysI s ≤ 20 by omega) hd (by omega)) (by omega)
end Go.Proofs.Ytoeohebobmkobaa
