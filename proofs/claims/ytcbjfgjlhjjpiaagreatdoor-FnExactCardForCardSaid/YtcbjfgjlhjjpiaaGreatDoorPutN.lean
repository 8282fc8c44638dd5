/- The walks of the two functions that punch a number: what each returns, and that memory has at most new blocks. -/
import Derived.Test.YtcbjfgjlhjjpiaaGreatDoorPut
import Derived.Test.YtcbjfgjlhjjpiaaGreatDoorPutS
import Derived.Deep.RegionHeld3
namespace Go.Proofs.YtcbjfgjlhjjpiaaGreatDoor
open Go.RowKit
set_option maxRecDepth 100000
set_option linter.unusedVariables false
set_option linter.unusedSimpArgs false
set_option linter.unnecessarySimpa false

def pnCode (xs : List Int) (f t n : Int) : Int := if fieldI xs f t == 0 then (if inB n (-999999999999) 999999999999 then (if decide (Lib.nDigits n.natAbs ≤ (t - f).toNat) then 0 else 5) else 2) else fieldI xs f t
def pnL (xs : List Int) (f t n : Int) : List Int := if pnCode xs f t n == 0 then putL xs f.toNat (numL (t - f).toNat n.natAbs (decide (n < 0))) else []
theorem pn_not {xs : List Int} {f t n k : Int} (h : pnCode xs f t n = k) (hk : (k == 0) = false) : pnCode xs f t n = k ∧ pnL xs f t n = [] := ⟨h, by unfold pnL; rw [h, hk]; rfl⟩
theorem pn_bad {xs : List Int} {f t : Int} (n : Int) (h : (fieldI xs f t == 0) = false) : pnCode xs f t n = fieldI xs f t ∧ pnL xs f t n = [] := pn_not (by unfold pnCode; rw [h]; rfl) h
theorem pn_range {xs : List Int} {f t n : Int} (h : fieldI xs f t = 0) (h2 : inB n (-999999999999) 999999999999 = false) : pnCode xs f t n = 2 ∧ pnL xs f t n = [] := pn_not (by unfold pnCode; rw [h, h2]; rfl) rfl
theorem pn_full {xs : List Int} {f t n : Int} (h : fieldI xs f t = 0) (h2 : inB n (-999999999999) 999999999999 = true) (h3 : ¬ Lib.nDigits n.natAbs ≤ (t - f).toNat) : pnCode xs f t n = 5 ∧ pnL xs f t n = [] := pn_not (by unfold pnCode; rw [h, h2, decide_eq_false h3]; rfl) rfl
theorem pn_ok {xs : List Int} {f t n : Int} (h : fieldI xs f t = 0) (h2 : inB n (-999999999999) 999999999999 = true) (h3 : Lib.nDigits n.natAbs ≤ (t - f).toNat) : pnCode xs f t n = 0 ∧ pnL xs f t n = putL xs f.toNat (numL (t - f).toNat n.natAbs (decide (n < 0))) := by
  have e : pnCode xs f t n = 0 := by unfold pnCode; rw [h, h2, decide_eq_true h3]; rfl
  exact ⟨e, by unfold pnL; rw [e]; rfl⟩
theorem pn_len {xs : List Int} {f t : Int} (n : Int) (h : fieldI xs f t = 0) : (putL xs f.toNat (numL (t - f).toNat n.natAbs (decide (n < 0)))).length = xs.length := by
  obtain ⟨_, hq⟩ := field_zero h
  obtain ⟨h1, h2, h3⟩ := fieldB_yes hq
  exact putL_length (by rw [numL_length]; omega)
theorem pnL_len (xs : List Int) (f t n : Int) (hn : xs.length ≤ 1048576) : (pnL xs f t n).length ≤ 1048576 := by
  unfold pnL
  split
  · rename_i h
    have h0 : fieldI xs f t = 0 := by
      have hc : pnCode xs f t n = 0 := by simpa using h
      unfold pnCode at hc
      cases hq : (fieldI xs f t == 0)
      · rw [hq] at hc; simpa using hc
      · simpa using hq
    rw [pn_len n h0]; exact hn
  · simp
theorem Pow10.kept {w w' : World} (h : Pow10 w) (hb : Below w.heap.size w w') : Pow10 w' := TabIs.kept h hb
theorem impl_isCardNumber (n : Int) (w : World) : Calls Tryz.prog 133 #[.int .i64 n] w fun e w' => e = .returned (.bool (inB n (-999999999999) 999999999999)) ∧ w = w' := by
  go_enter Tryz.func133, Tryz.ntmps133
  go_wp2_with (go_at_call 90; ((with_reducible refine (impl_inside _ _ _ _).mono ?_); rintro e w' ⟨rfl, rfl⟩))
  go_ret
  exact ⟨rfl, rfl⟩
theorem impl_digitsOf (u : Nat) (w : World) (hu : u ≤ 999999999999) (ht : Pow10 w) : Calls Tryz.prog 134 #[.int .i64 u] w fun e w' => e = .returned (.int .i64 (Lib.nDigits u : Nat)) ∧ Below w.heap.size w w' := by
  have hd := Lib.hid (impl_Decimal (u : Int) w (by omega) (by omega) ht)
  have hl := Lib.hid (show (⟨(Lib.itoa (u : Int)).toArray⟩ : ByteArray).size = Lib.nDigits u by
    rw [Lib.itoa_nonneg]
    show (Lib.decDigits u).toArray.size = _
    rw [List.size_toArray, Lib.decDigits_length])
  have hl20 := Lib.nDigits_le20 u (by omega)
  generalize (⟨(Lib.itoa (u : Int)).toArray⟩ : ByteArray) = s at *
  go_enter Tryz.func134, Tryz.ntmps134
  go_wp2_with (go_at_call 108; ((with_reducible refine hd.out.mono ?_); rintro e w' ⟨rfl, hb⟩))
  go_ret
  exact ⟨ret_int (by rw [← hl.out]), hb⟩
end Go.Proofs.YtcbjfgjlhjjpiaaGreatDoor
