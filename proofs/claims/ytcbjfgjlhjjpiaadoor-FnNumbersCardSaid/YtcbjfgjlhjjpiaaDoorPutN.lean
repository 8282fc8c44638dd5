/- The walks of the two functions that punch a number: what each returns, and that memory has at most new blocks. -/
import Derived.Test.YtcbjfgjlhjjpiaaDoorPut
import Derived.Test.YtcbjfgjlhjjpiaaDoorPutS
import Derived.Deep.RegionHeld3
namespace Go.Proofs.YtcbjfgjlhjjpiaaDoor
open Go.RowKit
set_option maxRecDepth 100000
set_option linter.unusedVariables false
set_option linter.unusedSimpArgs false
set_option linter.unnecessarySimpa false

def pnCode (xs : List Int) (f t n : Int) : Int := if fieldI xs f t == 0 then (if inB n (-999999999999) 999999999999 then (if decide (Lib.nDigits n.natAbs ≤ (t - f).toNat) then 0 else 5) else 2) else fieldI xs f t
def pnL (xs : List Int) (f t n : Int) : List Int := if pnCode xs f t n == 0 then putL xs f.toNat (numL (t - f).toNat n.natAbs (decide (n < 0))) else []
theorem pn_not {xs : List Int} {f t n k : Int} (h : pnCode xs f t n = k) (hk : (k == 0) = false) : pnCode xs f t n = k ∧ pnL xs f t n = [] := ⟨h, by unfold pnL; rw [h, hk]; rfl⟩
theorem pn_bad {xs : List Int} {f t : Int} (n : Int) (h : (fieldI xs f t == 0) = false) : pnCode xs f t n = fieldI xs f t ∧ pnL xs f t n = [] := pn_not (by unfold pnCode; rw [h]; rfl) h
theorem pn_range {xs : List Int} {f t n : Int} (h : fieldI xs f t = 0) (h2 : inB n (-999999999999) 999999999999 = false) : pnCode xs f t n = 2 ∧ pnL xs f t n = [] := pn_not (by unfold pnCode; rw [h, h2]; rfl) rfl
theorem pn_full {xs : List Int} {f t n : Int} (h : fieldI xs f t = 0) (h2 : inB n (-999999999999) 999999999999 = true) (h3 : ¬ Lib.nDigits n.natAbs ≤ (t - f).toNat) : pnCode xs f t n = 5 ∧ pnL xs f t n = [] := pn_not (by unfold pnCode; rw [h, h2, decide_eq_false h3]; rfl) rfl
theorem pn_ok {xs : List Int} {f t n : Int} (h : fieldI xs f t = 0) (h2 : inB n (-999999999999) 999999999999 = true) (h3 : Lib.nDigits n.natAbs ≤ (t - f).toNat) : pnCode xs f t n = 0 ∧ pnL xs f t n = putL xs f.toNat (numL (t - f).toNat n.natAbs (decide (n < 0))) := by
  have e : pnCode xs f t n = 0 := by unfold pnCode; rw [h, h2, decide_eq_true h3]; rfl
  exact ⟨e, by unfold pnL; rw [e]; rfl⟩
theorem pn_len {xs : List Int} {f t : Int} (n : Int) (h : fieldI xs f t = 0) : (putL xs f.toNat (numL (t - f).toNat n.natAbs (decide (n < 0)))).length = xs.length := by
  obtain ⟨_, hq⟩ := field_zero h
  obtain ⟨h1, h2, h3⟩ := fieldB_yes hq
  exact putL_length (by rw [numL_length]; omega)
theorem pnL_len (xs : List Int) (f t n : Int) (hn : xs.length ≤ 1048576) : (pnL xs f t n).length ≤ 1048576 := by
  unfold pnL
  split
  · rename_i h
    have h0 : fieldI xs f t = 0 := by
      have hc : pnCode xs f t n = 0 := by simpa using h
      unfold pnCode at hc
      cases hq : (fieldI xs f t == 0)
      · rw [hq] at hc; simpa using hc
      · simpa using hq
    rw [pn_len n h0]; exact hn
  · simp
theorem Pow10.kept {w w' : World} (h : Pow10 w) (hb : Below w.heap.size w w') : Pow10 w' := TabIs.kept h hb
theorem impl_isCardNumber (n : Int) (w : World) : Calls Tryd.prog 38 #[.int .i64 n] w fun e w' => e = .returned (.bool (inB n (-999999999999) 999999999999)) ∧ w = w' := by
  go_enter Tryd.func38, Tryd.ntmps38
  go_wp2_with (go_at_call 64; ((with_reducible refine (impl_inside _ _ _ _).mono ?_); rintro e w' ⟨rfl, rfl⟩))
  go_ret
  exact ⟨rfl, rfl⟩
theorem impl_digitsOf (u : Nat) (w : World) (hu : u ≤ 999999999999) (ht : Pow10 w) : Calls Tryd.prog 39 #[.int .i64 u] w fun e w' => e = .returned (.int .i64 (Lib.nDigits u : Nat)) ∧ Below w.heap.size w w' := by
  have hd := Lib.hid (impl_Decimal (u : Int) w (by omega) (by omega) ht)
  have hl := Lib.hid (show (⟨(Lib.itoa (u : Int)).toArray⟩ : ByteArray).size = Lib.nDigits u by
    rw [Lib.itoa_nonneg]
    show (Lib.decDigits u).toArray.size = _
    rw [List.size_toArray, Lib.decDigits_length])
  have hl20 := Lib.nDigits_le20 u (by omega)
  generalize (⟨(Lib.itoa (u : Int)).toArray⟩ : ByteArray) = s at *
  go_enter Tryd.func39, Tryd.ntmps39
  go_wp2_with (go_at_call 31; ((with_reducible refine hd.out.mono ?_); rintro e w' ⟨rfl, hb⟩))
  go_ret
  exact ⟨ret_int (by rw [← hl.out]), hb⟩
set_option maxHeartbeats 2000000 in
theorem impl_PunchNumber (a : Option Addr) (c : Nat) (xs : List Int) (f t n : Int) (w : World) (hx : RI w a xs) (hn : xs.length ≤ 1048576) (ht : Pow10 w) :
    Calls Tryd.prog 14 #[.agg #[.slice a xs.length c], .agg #[.int .i64 f, .int .i64 t], .int .i64 n] w fun e w' => ∃ a' c', e = .returned (.tuple #[.agg #[.slice a' (pnL xs f t n).length c'], .int .i64 (pnCode xs f t n)]) ∧ w'.ownsRow w.heap.size 2 1 (.slice a' (pnL xs f t n).length c') (pnL xs f t n).length ((pnL xs f t n).map (Value.int .i64)) ∧ Below w.heap.size w w' := by
  have hb3 := Lib.hid (below_alloc3 w (.cells #[.slice a xs.length c] 28) (.cells #[.int .i64 f, .int .i64 t] 31) (.cells #[.slice none 0 0] 28))
  have hfc := Lib.hid (fun U (hU : RI U a xs) => impl_fieldCode a c xs f t U hU (small hn))
  cases h : (fieldI xs f t == 0)
  · have hf := Lib.hid (pn_bad n h)
    have hne : (fieldI xs f t != 0) = true := by simpa using h
    clear h
    go_enter Tryd.func14, Tryd.ntmps14
    go_wp2_with fail
    refine (hfc.out _ (hx.kept hb3.out)).mono ?_
    rintro e w2 ⟨rfl, hb⟩
    (have hc0 := keep (p := ⟨w.heap.size + 1 + 1, 0, none⟩) (v := .slice none 0 0) hb (by simp [go_sem, *]); have hf0 := keepf (p := ⟨w.heap.size + 1 + 1, 0, none⟩) (v := .slice none 0 0) hb (by simp [go_sem, *]) (by simp [go_sem, *]); have hl0 := World.block_lt_of_cell? _ _ hc0)
    have hB := Lib.hid (bthen hb3.out hb)
    clear hb
    go_wp2_with fail
    refine bodyPost_ret (v := .tuple #[.agg #[.slice none 0 0], .int .i64 (fieldI xs f t)]) (by simp [results, Tryd.results14, go_sem, *]) rfl ⟨none, 0, by rw [hf.out.1, hf.out.2]; rfl, by rw [hf.out.2]; exact World.ownsRow_nil _ _ _ _, ?_⟩
    first | exact hB.out | exact hB.out.setCell (by dsimp only; omega) _
  · have h0 : fieldI xs f t = 0 := by simpa using h
    have hfc2 := hfc.out
    rw [h0] at hfc2
    replace hfc := Lib.hid hfc2
    obtain ⟨_, hq⟩ := field_zero h0
    obtain ⟨q1, q2, q3⟩ := fieldB_yes hq
    clear h hfc2 hq
    cases hi : inB n (-999999999999) 999999999999
    · have hf := Lib.hid (pn_range h0 hi)
      clear h0
      go_enter Tryd.func14, Tryd.ntmps14
      go_wp2_with fail
      refine (hfc.out _ (hx.kept hb3.out)).mono ?_
      rintro e w2 ⟨rfl, hb⟩
      (have hc0 := keep (p := ⟨w.heap.size + 1 + 1, 0, none⟩) (v := .slice none 0 0) hb (by simp [go_sem, *]); have hf0 := keepf (p := ⟨w.heap.size + 1 + 1, 0, none⟩) (v := .slice none 0 0) hb (by simp [go_sem, *]) (by simp [go_sem, *]); have hl0 := World.block_lt_of_cell? _ _ hc0)
      have hB := Lib.hid (bthen hb3.out hb)
      clear hb
      go_wp2_with (go_at_call 38; ((with_reducible refine (impl_isCardNumber _ _).mono ?_); rintro e w' ⟨rfl, rfl⟩))
      refine bodyPost_ret (v := .tuple #[.agg #[.slice none 0 0], .int .i64 2]) (by simp [results, Tryd.results14, go_sem, *]) rfl ⟨none, 0, by rw [hf.out.1, hf.out.2]; rfl, by rw [hf.out.2]; exact World.ownsRow_nil _ _ _ _, ?_⟩
      first | exact hB.out | exact hB.out.setCell (by dsimp only; omega) _
    · obtain ⟨n0, n1⟩ := inB_true.1 hi
      obtain ⟨f, rfl⟩ := Int.eq_ofNat_of_zero_le q1
      obtain ⟨tt, htt⟩ : ∃ tt : Nat, t = ((tt + 1 : Nat) : Int) := ⟨(t - 1).toNat, by omega⟩
      obtain ⟨u, hu⟩ : ∃ u, u = n.natAbs := ⟨_, rfl⟩
      have hub : u ≤ 999999999999 := by omega
      have hwd := Lib.hid (show (t - (f : Int)).toNat = tt + 1 - f by omega)
      have hpn := Lib.hid (fun U (hU : RI U a xs) => (show Calls Tryd.prog 41 #[.agg #[.slice a xs.length c], .agg #[.int .i64 f, .int .i64 t], .int .i64 n] U fun e w' => ∃ a' c', e = .returned (.agg #[.slice a' xs.length c']) ∧ w'.ownsRow U.heap.size 2 1 (.slice a' xs.length c') xs.length ((putL xs f (numL (tt + 1 - f) n.natAbs (decide (n < 0)))).map (Value.int .i64)) ∧ Below U.heap.size U w' by
        rw [htt]; exact impl_punchNumber a c xs f tt n U hU hn (by omega) (by omega) n0 n1))
      have hab := Lib.hid (fun U => (show Calls Tryd.prog 40 #[.int .i64 n] U fun e w' => e = .returned (.int .i64 (u : Int)) ∧ U = w' by rw [hu]; exact impl_absOf n U n0 n1))
      have hl20 := Lib.nDigits_le20 u (by omega)
      have htw : IntKind.i64.wrap (t - (f : Int)) = t - (f : Int) := IntWalk.i64_in _ (by omega)
      have hlen := Lib.hid (pn_len n h0)
      by_cases hfit : Lib.nDigits u ≤ tt + 1 - f
      · have hf := Lib.hid (pn_ok h0 hi (by rw [← hu, hwd.out]; exact hfit))
        rw [Int.toNat_natCast, hwd.out] at hlen hf
        have hcmp : ¬ t - (f : Int) < ((Lib.nDigits u : Nat) : Int) := by omega
        have hcmp2 : decide (t - (f : Int) < ((Lib.nDigits u : Nat) : Int)) = false := decide_eq_false hcmp
        have hdg := Lib.hid (fun U (hU : Pow10 U) => impl_digitsOf u U hub hU)
        clear h0 hfit htt hu n0 n1
        generalize Lib.nDigits u = D at *
        go_enter Tryd.func14, Tryd.ntmps14
        go_wp2_with fail
        refine (hfc.out _ (hx.kept hb3.out)).mono ?_
        rintro e w2 ⟨rfl, hb⟩
        (have hc0 := keep (p := ⟨w.heap.size, 0, none⟩) (v := .slice a xs.length c) hb (by simp [go_sem, *]); have hf0 := keepf (p := ⟨w.heap.size, 0, none⟩) (v := .slice a xs.length c) hb (by simp [go_sem, *]) (by simp [go_sem, *]); have hl0 := World.block_lt_of_cell? _ _ hc0; have hc1 := keep (p := ⟨w.heap.size + 1, 0, none⟩) (v := .int .i64 f) hb (by simp [go_sem, *]); have hf1 := keepf (p := ⟨w.heap.size + 1, 0, none⟩) (v := .int .i64 f) hb (by simp [go_sem, *]) (by simp [go_sem, *]); have hl1 := World.block_lt_of_cell? _ _ hc1; have hc2 := keep (p := ⟨w.heap.size + 1, 1, none⟩) (v := .int .i64 t) hb (by simp [go_sem, *]); have hf2 := keepf (p := ⟨w.heap.size + 1, 1, none⟩) (v := .int .i64 t) hb (by simp [go_sem, *]) (by simp [go_sem, *]); have hl2 := World.block_lt_of_cell? _ _ hc2; have hc3 := keep (p := ⟨w.heap.size + 1 + 1, 0, none⟩) (v := .slice none 0 0) hb (by simp [go_sem, *]); have hf3 := keepf (p := ⟨w.heap.size + 1 + 1, 0, none⟩) (v := .slice none 0 0) hb (by simp [go_sem, *]) (by simp [go_sem, *]); have hl3 := World.block_lt_of_cell? _ _ hc3)
        have hB := Lib.hid (bthen hb3.out hb)
        clear hb
        go_wp2_with (go_at_call 38; ((with_reducible refine (impl_isCardNumber _ _).mono ?_); rintro e w' ⟨rfl, rfl⟩))
        (first | go_region_held3 (fun W => Below w2.heap.size w2 W ∧ W.cell? ⟨w.heap.size + 1, 0, none⟩ = some (.int .i64 f) ∧ W.cell? ⟨w.heap.size + 1, 1, none⟩ = some (.int .i64 t)) (first | exact held2 (below_drewN (Below.refl _ _) 1) hc1 hc2 | (rename Below w2.heap.size w2 _ ∧ _ => hH; refine held2 ?_ hc1 hc2; (refine bthen hH.1 ?_; assumption))) (first | (go_at_call 40; ((with_reducible refine (hab.out _).mono ?_); rintro e wq0 ⟨rfl, rfl⟩)) | (go_at_call 39; ((with_reducible refine (hdg.out _ (Pow10.kept ht (bthen hB.out (And.left ‹Below w2.heap.size w2 _ ∧ _›)))).mono ?_); rintro e wq1 ⟨rfl, hbq⟩))) | fail)
        have hHb := And.left ‹Below w2.heap.size w2 wq1 ∧ _›
        have hB2 := Lib.hid (bthen hB.out hHb)
        have hd0 := keep hHb hc0
        have hd1 := keep hHb hc1
        have hd2 := keep hHb hc2
        have hd3 := keep hHb hc3
        have hg3 := keepf hHb hc3 hf3
        have hl5 := hHb.size
        have hl6 : w.heap.size + 1 + 1 < w2.heap.size := hl3
        have hl7 := World.block_lt_of_cell? _ _ hd3
        clear htw hHb
        go_wp2_with fail
        refine (hpn.out _ (hx.kept hB2.out)).mono ?_
        rintro e w5 ⟨a5, c5, rfl, hown, hb⟩
        have hd4 := keep hb hd3
        have hg4 := keepf hb hd3 hg3
        have hl8 := World.block_lt_of_cell? _ _ hd4
        have hB3 := Lib.hid (bthen hB2.out hb)
        have hown' := Lib.hid hown
        have hl9 := hb.size
        clear hown hb
        go_wp2_with fail
        refine bodyPost_ret (v := .tuple #[.agg #[.slice a5 xs.length c5], .int .i64 0]) (by simp [results, Tryd.results14, go_sem, *]) rfl ⟨a5, c5, by rw [hf.out.1, hf.out.2, hlen.out], ?_, hB3.out.setCell (by dsimp only; omega) _⟩
        rw [hf.out.2, hlen.out]
        exact own_mono (ownsRow_setCell_below hown'.out (by dsimp only; omega) _) (by omega)
      · have hf := Lib.hid (pn_full h0 hi (by rw [← hu, hwd.out]; exact hfit))
        have hcmp : t - (f : Int) < ((Lib.nDigits u : Nat) : Int) := by omega
        have hcmp2 : decide (t - (f : Int) < ((Lib.nDigits u : Nat) : Int)) = true := decide_eq_true hcmp
        have hdg := Lib.hid (fun U (hU : Pow10 U) => impl_digitsOf u U hub hU)
        clear h0 hfit htt hu n0 n1
        generalize Lib.nDigits u = D at *
        go_enter Tryd.func14, Tryd.ntmps14
        go_wp2_with fail
        refine (hfc.out _ (hx.kept hb3.out)).mono ?_
        rintro e w2 ⟨rfl, hb⟩
        (have hc0 := keep (p := ⟨w.heap.size, 0, none⟩) (v := .slice a xs.length c) hb (by simp [go_sem, *]); have hf0 := keepf (p := ⟨w.heap.size, 0, none⟩) (v := .slice a xs.length c) hb (by simp [go_sem, *]) (by simp [go_sem, *]); have hl0 := World.block_lt_of_cell? _ _ hc0; have hc1 := keep (p := ⟨w.heap.size + 1, 0, none⟩) (v := .int .i64 f) hb (by simp [go_sem, *]); have hf1 := keepf (p := ⟨w.heap.size + 1, 0, none⟩) (v := .int .i64 f) hb (by simp [go_sem, *]) (by simp [go_sem, *]); have hl1 := World.block_lt_of_cell? _ _ hc1; have hc2 := keep (p := ⟨w.heap.size + 1, 1, none⟩) (v := .int .i64 t) hb (by simp [go_sem, *]); have hf2 := keepf (p := ⟨w.heap.size + 1, 1, none⟩) (v := .int .i64 t) hb (by simp [go_sem, *]) (by simp [go_sem, *]); have hl2 := World.block_lt_of_cell? _ _ hc2; have hc3 := keep (p := ⟨w.heap.size + 1 + 1, 0, none⟩) (v := .slice none 0 0) hb (by simp [go_sem, *]); have hf3 := keepf (p := ⟨w.heap.size + 1 + 1, 0, none⟩) (v := .slice none 0 0) hb (by simp [go_sem, *]) (by simp [go_sem, *]); have hl3 := World.block_lt_of_cell? _ _ hc3)
        have hB := Lib.hid (bthen hb3.out hb)
        clear hb
        go_wp2_with (go_at_call 38; ((with_reducible refine (impl_isCardNumber _ _).mono ?_); rintro e w' ⟨rfl, rfl⟩))
        (first | go_region_held3 (fun W => Below w2.heap.size w2 W ∧ W.cell? ⟨w.heap.size + 1, 0, none⟩ = some (.int .i64 f) ∧ W.cell? ⟨w.heap.size + 1, 1, none⟩ = some (.int .i64 t)) (first | exact held2 (below_drewN (Below.refl _ _) 1) hc1 hc2 | (rename Below w2.heap.size w2 _ ∧ _ => hH; refine held2 ?_ hc1 hc2; (refine bthen hH.1 ?_; assumption))) (first | (go_at_call 40; ((with_reducible refine (hab.out _).mono ?_); rintro e wq0 ⟨rfl, rfl⟩)) | (go_at_call 39; ((with_reducible refine (hdg.out _ (Pow10.kept ht (bthen hB.out (And.left ‹Below w2.heap.size w2 _ ∧ _›)))).mono ?_); rintro e wq1 ⟨rfl, hbq⟩))) | fail)
        have hHb := And.left ‹Below w2.heap.size w2 wq1 ∧ _›
        have hB2 := Lib.hid (bthen hB.out hHb)
        have hd0 := keep hHb hc0
        have hd1 := keep hHb hc1
        have hd2 := keep hHb hc2
        have hd3 := keep hHb hc3
        have hg3 := keepf hHb hc3 hf3
        have hl5 := hHb.size
        have hl6 : w.heap.size + 1 + 1 < w2.heap.size := hl3
        have hl7 := World.block_lt_of_cell? _ _ hd3
        clear htw hHb
        go_wp2_with fail
        refine bodyPost_ret (v := .tuple #[.agg #[.slice none 0 0], .int .i64 5]) (by simp [results, Tryd.results14, go_sem, *]) rfl ⟨none, 0, by rw [hf.out.1, hf.out.2]; rfl, by rw [hf.out.2]; exact World.ownsRow_nil _ _ _ _, ?_⟩
        first | exact hB2.out | exact hB2.out.setCell (by dsimp only; omega) _
end Go.Proofs.YtcbjfgjlhjjpiaaDoor
