/- The walks of the functions that read numbers off cards: what each returns, and that memory has at most new blocks. -/
import Derived.Test.YtmpfnkheohlmiaaGreatDoorQI
import Derived.Test.YtmpfnkheohlmiaaGreatDoorQD
import Derived.Test.YtmpfnkheohlmiaaGreatDoorQA
import Derived.Deep.RegionWith
namespace Go.Proofs.YtmpfnkheohlmiaaGreatDoor
open Go.RowKit
set_option maxRecDepth 100000
set_option linter.unusedVariables false
set_option linter.unusedSimpArgs false
set_option linter.unnecessarySimpa false

/-! ### digits, numbers: plain -/
/-- the digit of holes; -1 if there is none -/
def digI (m : Int) : Int := firstB (fun d : Nat => bitI d == m) (List.range 10)
theorem digI_bd (m : Int) : -1 ≤ digI m ∧ digI m ≤ 9 := by
  have h := firstB_ge (fun d : Nat => bitI d == m) (List.range 10)
  unfold digI; simp at h; omega
theorem range_at {k : Nat} (h : k < 10) : (List.range 10)[k]? = some k := by simp [h]
theorem digI_zero : digI 0 = -1 := by decide +kernel
def negB (m : Int) : Bool := bits BinOp.and IntKind.i64 m 2 != 0
def clrI (m : Int) : Int := bits BinOp.andNot IntKind.i64 m 2
theorem clr_dec : ∀ n : Fin 4096, (negB n.val = true → clrI n.val = n.val - 2) ∧ (negB n.val = false → clrI n.val = n.val) := by decide +kernel
theorem clr_is {m : Int} (h0 : 0 ≤ m) (h1 : m ≤ 4095) : (negB m = true → clrI m = m - 2) ∧ (negB m = false → clrI m = m) := by
  obtain ⟨n, rfl⟩ := Int.eq_ofNat_of_zero_le h0
  exact clr_dec ⟨n, by omega⟩
/-- the state behind one more column: has a digit been met, and the number so far; none: no number -/
def numStep (s : Option (Bool × Int)) (m : Int) : Option (Bool × Int) :=
  match s with
  | none => none
  | some (b, n) => if m == 0 && !b then some (b, n) else if digI m < 0 then none else some (true, 10 * n + digI m)
def numUp (xs : List Int) (k : Nat) : Option (Bool × Int) := (xs.take k).foldl numStep (some (false, 0))
theorem numUp_zero (xs : List Int) : numUp xs 0 = some (false, 0) := rfl
theorem numUp_succ {xs : List Int} {k : Nat} {x : Int} (h : xs[k]? = some x) : numUp xs (k + 1) = numStep (numUp xs k) x := by
  unfold numUp; rw [List.take_add_one, h, List.foldl_append]; rfl
theorem foldl_none (l : List Int) : l.foldl numStep none = none := by induction l with
  | nil => rfl
  | cons x r ih => simpa [numStep] using ih
theorem numUp_none {xs : List Int} {k m : Nat} (h : numUp xs k = none) (hk : k ≤ m) : numUp xs m = none := by
  unfold numUp at *
  have e : xs.take m = xs.take k ++ (xs.take m).drop k := by
    conv => lhs; rw [← List.take_append_drop k (xs.take m)]
    rw [List.take_take, Nat.min_eq_left hk]
  rw [e, List.foldl_append, h, foldl_none]
theorem step_skip {b : Bool} {n m : Int} (h : (m == 0 && !b) = true) : numStep (some (b, n)) m = some (b, n) := by unfold numStep; simp only [h, if_true]
theorem step_none {b : Bool} {n m : Int} (h : (m == 0 && !b) = false) (h2 : digI m < 0) : numStep (some (b, n)) m = none := by unfold numStep; simp only [h]; simp [h2]
theorem step_dig {b : Bool} {n m : Int} (h : (m == 0 && !b) = false) (h2 : ¬ digI m < 0) : numStep (some (b, n)) m = some (true, 10 * n + digI m) := by unfold numStep; simp only [h]; simp [h2]
/-- the number in columns; 0 and false if there is none -/
def numRes (xs : List Int) : Int × Bool :=
  match numUp xs (xs.length - 1), xs.getLast? with
  | some (b, n), some m =>
    if negB m then (if digI (clrI m) < 0 then (0, false) else if 10 * n + digI (clrI m) = 0 then (0, false) else (-(10 * n + digI (clrI m)), true))
    else if m == 0 && !b then (0, true) else if digI m < 0 then (0, false) else (10 * n + digI m, true)
  | _, _ => (0, false)
theorem pow_step (k : Nat) : (10 : Int) ^ (k + 1) = 10 * 10 ^ k := by rw [Int.pow_succ]; omega

theorem numUp_bd {xs : List Int} : ∀ (k : Nat) {b : Bool} {n : Int}, k ≤ xs.length → numUp xs k = some (b, n) → 0 ≤ n ∧ n < 10 ^ k
  | 0, b, n, _, h => by rw [numUp_zero] at h; simp only [Option.some.injEq, Prod.mk.injEq] at h; omega
  | k + 1, b, n, hk, h => by
    obtain ⟨x, hx⟩ := get_some (l := xs) (k := k) (by omega)
    rw [numUp_succ hx] at h
    cases hq : numUp xs k with
    | none => rw [hq] at h; cases h
    | some s =>
      obtain ⟨b', n'⟩ := s
      have ih := numUp_bd k (by omega) hq
      rw [hq] at h
      have hp := pow_step k
      have hd := digI_bd x
      cases hc : (x == 0 && !b')
      · by_cases h2 : digI x < 0
        · rw [step_none hc h2] at h; cases h
        · rw [step_dig hc h2] at h
          simp only [Option.some.injEq, Prod.mk.injEq] at h
          omega
      · rw [step_skip hc] at h
        simp only [Option.some.injEq, Prod.mk.injEq] at h
        omega
theorem numUp_blank {xs : List Int} : ∀ (k : Nat) {n : Int}, k ≤ xs.length → numUp xs k = some (false, n) → (xs.take k).all (fun m => m == 0) = true
  | 0, n, _, h => rfl
  | k + 1, n, hk, h => by
    obtain ⟨x, hx⟩ := get_some (l := xs) (k := k) (by omega)
    rw [numUp_succ hx] at h
    cases hq : numUp xs k with
    | none => rw [hq] at h; cases h
    | some s =>
      obtain ⟨b', n'⟩ := s
      rw [hq] at h
      cases hc : (x == 0 && !b')
      · by_cases h2 : digI x < 0
        · rw [step_none hc h2] at h; cases h
        · rw [step_dig hc h2] at h; simp at h
      · rw [step_skip hc] at h
        simp only [Bool.and_eq_true, Bool.not_eq_true'] at hc
        simp only [Option.some.injEq, Prod.mk.injEq] at h
        have hb : b' = false := hc.2
        subst hb
        exact all_succ hx (numUp_blank k (by omega) hq) hc.1
theorem blank_up {xs : List Int} (h : xs.all (fun m => m == 0) = true) : ∀ k, k ≤ xs.length → numUp xs k = some (false, 0)
  | 0, _ => rfl
  | k + 1, hk => by
    obtain ⟨x, hx⟩ := get_some (l := xs) (k := k) (by omega)
    rw [numUp_succ hx, blank_up h k (by omega)]
    exact step_skip (by have := List.all_eq_true.1 h x (List.mem_of_getElem? hx); rw [show (x == 0) = true from this]; rfl)
theorem numRes_of {xs : List Int} {m : Int} {k : Nat} (hk : xs.length = k + 1) (hm : xs[k]? = some m) : numRes xs =
    match numUp xs k with
    | some (b, n) => if negB m then (if digI (clrI m) < 0 then (0, false) else if 10 * n + digI (clrI m) = 0 then (0, false) else (-(10 * n + digI (clrI m)), true)) else if m == 0 && !b then (0, true) else if digI m < 0 then (0, false) else (10 * n + digI m, true)
    | none => (0, false) := by
  have h1 : xs.getLast? = some m := by rw [List.getLast?_eq_getElem?, hk]; exact hm
  unfold numRes
  rw [h1, hk, Nat.add_sub_cancel]
  cases numUp xs k with
  | none => rfl
  | some s => rfl
theorem negB_zero : negB 0 = false := by decide +kernel
/-- a field without holes -/
theorem numRes_blank {xs : List Int} {k : Nat} (hk : xs.length = k + 1) (h : xs.all (fun m => m == 0) = true) : numRes xs = (0, true) := by
  obtain ⟨m, hm⟩ := get_some (l := xs) (k := k) (by omega)
  have h0 := List.all_eq_true.1 h m (List.mem_of_getElem? hm)
  simp only [beq_iff_eq] at h0
  subst h0
  rw [numRes_of hk hm, blank_up h k (by omega)]
  simp [negB_zero]
/-- the number as it is read behind the mark of the last column is cleared -/
theorem numRes_cleared {xs : List Int} {m : Int} {k : Nat} (hk : xs.length = k + 1) (hm : xs[k]? = some m) (h0 : 0 ≤ m) (h1 : m ≤ 4095) (hb : xs.all (fun m => m == 0) = false) :
    numRes xs = match numUp (xs.set k (clrI m)) (k + 1) with
      | some (b, n) => if !b || clrI m == 0 || (negB m && n == 0) then (0, false) else ((if negB m then -n else n), true)
      | none => (0, false) := by
  have hset : (xs.set k (clrI m))[k]? = some (clrI m) := by rw [List.getElem?_set]; simp; omega
  have htk : numUp (xs.set k (clrI m)) k = numUp xs k := by unfold numUp; rw [List.take_set_of_le (Nat.le_refl _)]
  rw [numRes_of hk hm, numUp_succ hset, htk]
  obtain ⟨c1, c2⟩ := clr_is h0 h1
  cases hq : numUp xs k with
  | none => rfl
  | some s =>
    obtain ⟨b, n⟩ := s
    simp only
    cases hn : negB m
    · rw [c2 hn]
      cases hc : (m == 0 && !b)
      · by_cases h2 : digI m < 0
        · rw [step_none hc h2]; simp [h2]
        · rw [step_dig hc h2]
          have hm0 : (m == 0) = false := by
            cases hz : (m == 0)
            · rfl
            · have : m = 0 := by simpa using hz
              subst this; rw [digI_zero] at h2; omega
          simp [h2, hm0]
      · exfalso
        simp only [Bool.and_eq_true, Bool.not_eq_true'] at hc
        obtain ⟨hm0, rfl⟩ := hc
        have hall := all_succ hm (numUp_blank k (by omega) hq) hm0
        rw [List.take_of_length_le (by omega)] at hall
        rw [hall] at hb; cases hb
    · generalize clrI m = c at *
      cases hc : (c == 0 && !b)
      · by_cases h2 : digI c < 0
        · rw [step_none hc h2]; simp [h2]
        · rw [step_dig hc h2]
          have hm0 : (c == 0) = false := by
            cases hz : (c == 0)
            · rfl
            · have : c = 0 := by simpa using hz
              subst this; rw [digI_zero] at h2; omega
          by_cases h3 : 10 * n + digI c = 0
          · simp [h2, hm0, h3]
          · simp [h2, hm0, h3]
      · rw [step_skip hc]
        simp only [Bool.and_eq_true, Bool.not_eq_true', beq_iff_eq] at hc
        obtain ⟨rfl, rfl⟩ := hc
        simp [digI_zero]
set_option maxHeartbeats 400000 in
theorem impl_digitOf (m : Int) (w : World) : Calls Tryz.prog 126 #[.int .i64 m] w fun e w' => e = .returned (.int .i64 (digI m)) ∧ w = w' := by
  go_enter Tryz.func126, Tryz.ntmps126
  go_wp2_with fail
  go_loop [4] (fun i => ∃ k : Nat, k ≤ 10 ∧ i = .int .i64 k ∧ Hid (((List.range 10).take k).all (fun d => !(bitI d == m)) = true)) (fun i => 10 - (intOf i).toNat)
  case atStart => exact ⟨0, by omega, rfl, by simp [Hid]⟩
  case round =>
    obtain ⟨k, hk, rfl, hall⟩ := hrel
    by_cases hlt : k < 10
    · have hget := Lib.hid (range_at hlt)
      have hlt' : (k : Int) < 10 := by omega
      cases hq : (bitI (k : Int) == m)
      · go_wp2_with (go_at_call 113; ((with_reducible refine (impl_bitOf _ _).mono ?_); rintro e w' ⟨rfl, rfl⟩))
        go_round
        case rel => exact ⟨k + 1, by omega, by go_num, all_succ hget.out hall.out (by rw [hq]; rfl)⟩
        case measure => simp [intOf]; omega
      · go_wp2_with (go_at_call 113; ((with_reducible refine (impl_bitOf _ _).mono ?_); rintro e w' ⟨rfl, rfl⟩))
        go_ret
        exact ⟨ret_int (firstB_hit hget.out hall.out hq).symm, rfl⟩
    · have hge : ¬ (k : Int) < 10 := by omega
      go_wp2_with fail
      go_ret
      exact ⟨ret_int (firstB_none (by simp; omega) hall.out).symm, rfl⟩
set_option maxHeartbeats 400000 in
theorem spec_l03Digit (m : Int) (w : World) : Calls Tryz.prog 133 #[.int .i64 m] w fun e w' => e = .returned (.int .i64 (digI m)) ∧ w = w' := by
  go_enter Tryz.func133, Tryz.ntmps133
  go_wp2_with fail
  go_loop [3] (fun i => ∃ k : Nat, k ≤ 10 ∧ i = .int .i64 k ∧ Hid (((List.range 10).take k).all (fun d => !(bitI d == m)) = true)) (fun i => 10 - (intOf i).toNat)
  case atStart => exact ⟨0, by omega, rfl, by simp [Hid]⟩
  case round =>
    obtain ⟨k, hk, rfl, hall⟩ := hrel
    by_cases hlt : k < 10
    · have hget := Lib.hid (range_at hlt)
      have hlt' : (k : Int) ≤ 9 := by omega
      cases hq : (m == bitI (k : Int))
      · have hq' := Lib.hid (show (bitI (k : Int) == m) = false by rw [beq_eq_false_iff_ne] at *; exact fun e => hq e.symm)
        go_wp2_with (go_at_call 120; ((with_reducible refine (spec_l02Bit _ _).mono ?_); rintro e w' ⟨rfl, rfl⟩))
        go_round
        case rel => exact ⟨k + 1, by omega, by go_num, all_succ hget.out hall.out (by rw [hq'.out]; rfl)⟩
        case measure => simp [intOf]; omega
      · have hq' := Lib.hid (show (bitI (k : Int) == m) = true by rw [beq_iff_eq] at *; exact hq.symm)
        go_wp2_with (go_at_call 120; ((with_reducible refine (spec_l02Bit _ _).mono ?_); rintro e w' ⟨rfl, rfl⟩))
        go_ret
        exact ⟨ret_int (firstB_hit hget.out hall.out hq'.out).symm, rfl⟩
    · have hge : ¬ (k : Int) ≤ 9 := by omega
      go_wp2_with fail
      go_ret
      exact ⟨ret_int (firstB_none (by simp; omega) hall.out).symm, rfl⟩
end Go.Proofs.YtmpfnkheohlmiaaGreatDoor
