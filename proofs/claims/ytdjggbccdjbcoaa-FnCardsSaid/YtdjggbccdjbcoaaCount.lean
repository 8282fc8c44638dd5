/- The walks of the functions that count the holes of a card, in both packages: what each returns, and that memory has at most new blocks. -/
import Derived.Test.YtdjggbccdjbcoaaHole
namespace Go.Proofs.Ytdjggbccdjbcoaa
open Go.RowKit
set_option maxRecDepth 100000
set_option linter.unusedVariables false
set_option linter.unusedSimpArgs false
set_option linter.unnecessarySimpa false

/-- the ones of a number, f bits of it -/
def cntN : Nat → Nat → Nat
  | 0, _ => 0
  | f + 1, x => x % 2 + cntN f (x / 2)
theorem cntN_le : ∀ f x, cntN f x ≤ f
  | 0, _ => Nat.le_refl _
  | f + 1, x => by have := cntN_le f (x / 2); simp only [cntN]; omega
theorem cntN_zero : ∀ f, cntN f 0 = 0
  | 0 => rfl
  | f + 1 => by simp only [cntN]; simpa using cntN_zero f
def onesI (x : Int) : Int := (cntN 12 x.toNat : Int)
theorem onesI_bd (x : Int) : 0 ≤ onesI x ∧ onesI x ≤ 12 := by have := cntN_le 12 x.toNat; unfold onesI; omega
def sumUp (xs : List Int) (k : Nat) : Int := ((xs.take k).map onesI).sum
theorem sumUp_zero (xs : List Int) : sumUp xs 0 = 0 := rfl
theorem sumUp_succ {xs : List Int} {k : Nat} {x : Int} (h : xs[k]? = some x) : sumUp xs (k + 1) = sumUp xs k + onesI x := by
  simp [sumUp, List.take_add_one, h]
theorem sumUp_bd (xs : List Int) : ∀ k, 0 ≤ sumUp xs k ∧ sumUp xs k ≤ 12 * k
  | 0 => by simp [sumUp_zero]
  | k + 1 => by
    have ih := sumUp_bd xs k
    cases h : xs[k]? with
    | some x => rw [sumUp_succ h]; have := onesI_bd x; omega
    | none => have e : sumUp xs (k + 1) = sumUp xs k := by simp [sumUp, List.take_add_one, h]
              rw [e]; omega
def countI (xs : List Int) : Int := if validCardL xs then sumUp xs xs.length else 0
def countCode (xs : List Int) : Int := if validCardL xs then 0 else 1
theorem count_bad {xs : List Int} (h : validCardL xs = false) : countI xs = 0 ∧ countCode xs = 1 := by unfold countI countCode; rw [h]; exact ⟨rfl, rfl⟩
theorem count_ok {xs : List Int} (h : validCardL xs = true) : countI xs = sumUp xs xs.length ∧ countCode xs = 0 := by unfold countI countCode; rw [h]; exact ⟨rfl, rfl⟩
theorem validCard_mask {xs : List Int} {k : Nat} {x : Int} (h : validCardL xs = true) (hx : xs[k]? = some x) : 0 ≤ x ∧ x ≤ 4095 := by
  cases hm : maskB x
  · rw [validCard_not hx hm] at h; cases h
  · exact inB_true.1 hm

set_option maxHeartbeats 400000 in
theorem spec_l02Count (x : Int) (w : World) (h0 : 0 ≤ x) (h1 : x ≤ 4095) : Calls Try.prog 71 #[.int .i64 x] w fun e w' => e = .returned (.int .i64 (onesI x)) ∧ w = w' := by
  obtain ⟨m0, rfl⟩ := Int.eq_ofNat_of_zero_le h0
  have hm : m0 < 2 ^ 12 := by omega
  go_enter Try.func71, Try.ntmps71
  go_wp2_with fail
  go_loop [0, 3] (fun m q => ∃ (f m' q' : Nat), f ≤ 12 ∧ m' < 2 ^ f ∧ q' + f ≤ 12 ∧ m = .int .i64 m' ∧ q = .int .i64 q' ∧ Hid (q' + cntN f m' = cntN 12 m0)) (fun m _ => (intOf m).toNat)
  case atStart => exact ⟨12, m0, 0, by omega, hm, by omega, rfl, rfl, Lib.hid (by omega)⟩
  case round =>
    obtain ⟨f, m, q, hf, hm', hq, rfl, rfl, he⟩ := hrel
    by_cases hp : 0 < m
    · cases f with
      | zero => simp at hm'; omega
      | succ f =>
        have hb : m < 4096 := by have : 2 ^ (f + 1) ≤ 2 ^ 12 := Nat.pow_le_pow_right (by omega) hf; omega
        have hs : m / 2 < 2 ^ f := by rw [Nat.pow_succ] at hm'; omega
        have hm2 := Lib.hid hm'
        clear hm'
        go_wp2_with fail
        all_goals
          go_round
          case rel => exact ⟨f, m / 2, q + m % 2, by omega, hs, by omega, by go_num, by go_num, Lib.hid (by rw [← he.out, cntN]; omega)⟩
          case measure => simp [intOf]; omega
    · have e : m = 0 := by omega
      subst e
      go_wp2_with fail
      go_ret
      exact ⟨ret_int (by have h := he.out; rw [cntN_zero] at h; unfold onesI; simp; omega), rfl⟩
def popA (x : Int) : Int := IntKind.u64.wrap (bits BinOp.and IntKind.u64 (x / 2) 6148914691236517205 + bits BinOp.and IntKind.u64 x 6148914691236517205)
def popB (x : Int) : Int := IntKind.u64.wrap (bits BinOp.and IntKind.u64 (x / 4) 3689348814741910323 + bits BinOp.and IntKind.u64 x 3689348814741910323)
def popC (x : Int) : Int := bits BinOp.and IntKind.u64 (IntKind.u64.wrap (x / 16 + x)) 1085102592571150095
def popD (x : Int) : Int := IntKind.u64.wrap (x + x / 256)
def popE (x : Int) : Int := IntKind.u64.wrap (x + x / 65536)
def popF (x : Int) : Int := IntKind.u64.wrap (x + x / 4294967296)
def pop64 (x : Int) : Int := bits BinOp.and IntKind.i64 (wrap64 (popF (popE (popD (popC (popB (popA x))))))) 127
theorem pop64_fin : ∀ n : Fin 4096, pop64 (n.val : Int) = onesI (n.val : Int) := by decide +kernel
theorem pop64_eq (x : Int) (h0 : 0 ≤ x) (h1 : x ≤ 4095) : pop64 x = onesI x := by
  have e := pop64_fin ⟨x.toNat, by omega⟩
  simp only [Int.toNat_of_nonneg h0] at e
  exact e
set_option maxHeartbeats 400000 in
theorem bits_OnesCount64 (x : Int) (w : World) (h0 : 0 ≤ x) (h1 : x ≤ 4095) : Calls Try.prog 118 #[.int .u64 x] w fun e w' => e = .returned (.int .i64 (onesI x)) ∧ w = w' := by
  go_enter Try.func118, Try.ntmps118
  go_wp2_with fail
  go_ret
  refine ⟨ret_int ?_, rfl⟩
  rw [← pop64_eq x h0 h1]
  unfold pop64 popF popE popD popC popB popA
  rfl
theorem impl_onesOf (x : Int) (w : World) (h0 : 0 ≤ x) (h1 : x ≤ 4095) : Calls Try.prog 89 #[.int .i64 x] w fun e w' => e = .returned (.int .i64 (onesI x)) ∧ w = w' := by
  go_enter Try.func89, Try.ntmps89
  go_wp2_with (go_at_call 118; ((with_reducible refine (bits_OnesCount64 _ _ h0 h1).mono ?_); rintro e w' ⟨rfl, rfl⟩))
  go_ret
  exact ⟨rfl, rfl⟩
set_option maxHeartbeats 400000 in
theorem impl_CountHoles (a : Option Addr) (c : Nat) (xs : List Int) (w : World) (hx : RI w a xs) (hn : xs.length ≤ maxLen) :
    Calls Try.prog 36 #[.agg #[.slice a xs.length c]] w fun e w' => e = .returned (.tuple #[.int .i64 (countI xs), .int .i64 (countCode xs)]) ∧ Below w.heap.size w w' := by
  have hb1 := Lib.hid (below_alloc (w := w) (.cells #[.slice a xs.length c] 48))
  cases hv : validCardL xs
  · have hf := Lib.hid (count_bad hv)
    go_enter Try.func36, Try.ntmps36
    go_wp2_with (go_at_call 81; ((with_reducible refine (impl_ValidCard a c xs _ (hx.kept hb1.out) hn).mono ?_); rintro e w' ⟨rfl, hb⟩))
    go_ret2
    exact ⟨by rw [hf.out.1, hf.out.2]; rfl, bthen hb1.out hb⟩
  · have hf := Lib.hid (count_ok hv)
    have hl := validCard_len hv
    go_enter Try.func36, Try.ntmps36
    go_wp2_with fail
    refine (impl_ValidCard a c xs _ (hx.kept hb1.out) hn).mono ?_
    rintro e w2 ⟨rfl, hb⟩
    (have hc0 := keep (p := ⟨w.heap.size, 0, none⟩) (v := .slice a xs.length c) hb (by simp [go_sem, *]); have hf0 := keepf (p := ⟨w.heap.size, 0, none⟩) (v := .slice a xs.length c) hb (by simp [go_sem, *]) (by simp [go_sem, *]); have hl0 := World.block_lt_of_cell? _ _ hc0)
    have hb2 := Lib.hid (bthen hb1.out hb)
    clear hb
    generalize hN : xs.length = n at *
    have hN' := Lib.hid hN
    clear hN
    go_wp2_with fail
    go_loop [4, 13] (fun s i => ∃ k : Nat, k ≤ n ∧ i = .int .i64 k ∧ s = .int .i64 (sumUp xs k)) (fun _ i => n - (intOf i).toNat)
    case atStart => exact ⟨0, by omega, rfl, rfl⟩
    case round =>
      obtain ⟨k, hk, rfl, rfl⟩ := hrel
      by_cases hlt : k < n
      · obtain ⟨x, hxk⟩ := get_some (l := xs) (k := k) (by rw [hN'.out]; exact hlt)
        obtain ⟨b1, o1, rfl, hc1⟩ := (hx.kept hb2.out).at hxk
        have hm := validCard_mask hv hxk
        have hsu := sumUp_succ hxk
        have hsb := sumUp_bd xs k
        have hob := onesI_bd x
        have hxk' := Lib.hid hxk
        clear hxk
        go_wp2_with (go_at_call 89; ((with_reducible refine (impl_onesOf _ _ hm.1 hm.2).mono ?_); rintro e w' ⟨rfl, rfl⟩))
        all_goals
          go_round
          case rel => exact ⟨k + 1, by omega, by go_num, by rw [hsu]⟩
          case measure => simp [intOf]; omega
      · go_wp2_with fail
        go_ret2
        have e : k = n := by omega
        subst e
        exact ⟨by rw [hf.out.1, hf.out.2]; rfl, hb2.out⟩
set_option maxHeartbeats 400000 in
theorem spec_CountHoles (a : Option Addr) (c : Nat) (xs : List Int) (w : World) (hx : RI w a xs) (hn : xs.length ≤ maxLen) :
    Calls Try.prog 23 #[.agg #[.slice a xs.length c]] w fun e w' => e = .returned (.tuple #[.int .i64 (countI xs), .int .i64 (countCode xs)]) ∧ Below w.heap.size w w' := by
  have hb1 := Lib.hid (below_alloc (w := w) (.cells #[.slice a xs.length c] 48))
  cases hv : validCardL xs
  · have hf := Lib.hid (count_bad hv)
    go_enter Try.func23, Try.ntmps23
    go_wp2_with (go_at_call 70; ((with_reducible refine (spec_l02Ok w.heap.size a c xs _ (by simp [go_sem]) (hx.kept hb1.out) hn).mono ?_); rintro e w' ⟨rfl, rfl⟩))
    go_ret2
    exact ⟨by rw [hf.out.1, hf.out.2]; rfl, hb1.out⟩
  · have hf := Lib.hid (count_ok hv)
    have hl := validCard_len hv
    go_enter Try.func23, Try.ntmps23
    go_wp2_with fail
    refine (spec_l02Ok w.heap.size a c xs _ (by simp [go_sem]) (hx.kept hb1.out) hn).mono ?_
    rintro e w2 ⟨rfl, rfl⟩
    have hb2 := hb1
    generalize hN : xs.length = n at *
    have hN' := Lib.hid hN
    clear hN
    go_wp2_with fail
    go_loop [4, 5] (fun s i => ∃ k : Nat, k ≤ n ∧ i = .int .i64 k ∧ s = .int .i64 (sumUp xs k)) (fun _ i => n - (intOf i).toNat)
    case atStart => exact ⟨0, by omega, rfl, rfl⟩
    case round =>
      obtain ⟨k, hk, rfl, rfl⟩ := hrel
      by_cases hlt : k < n
      · obtain ⟨x, hxk⟩ := get_some (l := xs) (k := k) (by rw [hN'.out]; exact hlt)
        obtain ⟨b1, o1, rfl, hc1⟩ := (hx.kept hb2.out).at hxk
        have hm := validCard_mask hv hxk
        have hsu := sumUp_succ hxk
        have hsb := sumUp_bd xs k
        have hob := onesI_bd x
        have hxk' := Lib.hid hxk
        clear hxk
        go_wp2_with (go_at_call 71; ((with_reducible refine (spec_l02Count _ _ hm.1 hm.2).mono ?_); rintro e w' ⟨rfl, rfl⟩))
        all_goals
          go_round
          case rel => exact ⟨k + 1, by omega, by go_num, by rw [hsu]⟩
          case measure => simp [intOf]; omega
      · go_wp2_with fail
        go_ret2
        have e : k = n := by omega
        subst e
        exact ⟨by rw [hf.out.1, hf.out.2]; rfl, hb2.out⟩
end Go.Proofs.Ytdjggbccdjbcoaa
