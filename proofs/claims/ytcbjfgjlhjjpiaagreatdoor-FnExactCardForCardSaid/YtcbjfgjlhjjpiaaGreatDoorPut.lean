/- The walks of the functions that punch numbers: what each returns, and that memory has at most new blocks. -/
import Derived.Test.YtcbjfgjlhjjpiaaGreatDoorPutL
import Derived.Test.YtcbjfgjlhjjpiaaGreatDoorField
import Derived.Test.YtcbjfgjlhjjpiaaGreatDoorCopy
import Derived.Test.YtcbjfgjlhjjpiaaGreatDoorDec
import Derived.Test.YtcbjfgjlhjjpiaaGreatDoorTabs
import Derived.Deep.RegionWith
namespace Go.Proofs.YtcbjfgjlhjjpiaaGreatDoor
open Go.RowKit
set_option maxRecDepth 100000
set_option linter.unusedVariables false
set_option linter.unusedSimpArgs false
set_option linter.unnecessarySimpa false

theorem impl_absOf (n : Int) (w : World) (h0 : -999999999999 ≤ n) (h1 : n ≤ 999999999999) : Calls Tryz.prog 135 #[.int .i64 n] w fun e w' => e = .returned (.int .i64 (n.natAbs : Int)) ∧ w = w' := by
  by_cases h : 0 ≤ n
  · have hv := Lib.hid (show (n.natAbs : Int) = n by omega)
    go_enter Tryz.func135, Tryz.ntmps135
    go_wp2
    go_ret
    exact ⟨ret_int (by rw [hv.out]; omega), rfl⟩
  · have hv := Lib.hid (show (n.natAbs : Int) = -n by omega)
    go_enter Tryz.func135, Tryz.ntmps135
    go_wp2
    go_ret
    exact ⟨ret_int (by rw [hv.out]; omega), rfl⟩
set_option maxHeartbeats 4000000 in
theorem impl_punchNumber (a : Option Addr) (c : Nat) (xs : List Int) (f tt : Nat) (n : Int) (w : World) (hx : RI w a xs) (hn : xs.length ≤ 1048576) (hft : f ≤ tt) (htl : tt + 1 ≤ xs.length) (hn0 : -999999999999 ≤ n) (hn1 : n ≤ 999999999999) :
    Calls Tryz.prog 136 #[.agg #[.slice a xs.length c], .agg #[.int .i64 f, .int .i64 ((tt + 1 : Nat) : Int)], .int .i64 n] w fun e w' => ∃ a' c', e = .returned (.agg #[.slice a' xs.length c']) ∧ w'.ownsRow w.heap.size 2 1 (.slice a' xs.length c') xs.length ((putL xs f (numL (tt + 1 - f) n.natAbs (decide (n < 0)))).map (Value.int .i64)) ∧ Below w.heap.size w w' := by
  have hb3 := Lib.hid (below_alloc3 w (.cells #[.slice a xs.length c] 30) (.cells #[.int .i64 f, .int .i64 ((tt + 1 : Nat) : Int)] 46) (.cells #[.slice none 0 0] 30))
  obtain ⟨t, ht⟩ : ∃ t : Int, t = ((tt + 1 : Nat) : Int) := ⟨_, rfl⟩
  have htt := Lib.hid ht
  rw [← ht] at hb3 ⊢
  have ht1 : t = (tt : Int) + 1 := by omega
  have ht2 := Lib.hid ht1
  have ht3 : t ≤ 1048576 := by omega
  have ht4 : 1 ≤ t := by omega
  clear ht ht1
  obtain ⟨u, hu⟩ : ∃ u, u = n.natAbs := ⟨_, rfl⟩
  have hub : u ≤ 999999999999 := by omega
  have hu' := Lib.hid hu
  rw [← hu]
  clear hu
  have hpn := Lib.hid (fun U (hU : RI U a xs) => impl_newCard a c xs U hU hn)
  have hab := Lib.hid (fun U => (show Calls Tryz.prog 135 #[.int .i64 n] U fun e w' => e = .returned (.int .i64 (u : Int)) ∧ U = w' by rw [hu'.out]; exact impl_absOf n U hn0 hn1))
  go_enter Tryz.func136, Tryz.ntmps136
  go_wp2_with fail
  refine (hpn.out _ (hx.kept hb3.out)).mono ?_
  rintro e w2 ⟨a2, c2, rfl, hown, hb⟩
  (have hc0 := keep (p := ⟨w.heap.size + 1, 0, none⟩) (v := .int .i64 f) hb (by simp [go_sem, *]); have hf0 := keepf (p := ⟨w.heap.size + 1, 0, none⟩) (v := .int .i64 f) hb (by simp [go_sem, *]) (by simp [go_sem, *]); have hl0 := World.block_lt_of_cell? _ _ hc0; have hc1 := keep (p := ⟨w.heap.size + 1, 1, none⟩) (v := .int .i64 t) hb (by simp [go_sem, *]); have hf1 := keepf (p := ⟨w.heap.size + 1, 1, none⟩) (v := .int .i64 t) hb (by simp [go_sem, *]) (by simp [go_sem, *]); have hl1 := World.block_lt_of_cell? _ _ hc1; have hc2 := keep (p := ⟨w.heap.size + 1 + 1, 0, none⟩) (v := .slice none 0 0) hb (by simp [go_sem, *]); have hf2 := keepf (p := ⟨w.heap.size + 1 + 1, 0, none⟩) (v := .slice none 0 0) hb (by simp [go_sem, *]) (by simp [go_sem, *]); have hl2 := World.block_lt_of_cell? _ _ hc2)
  have ho := Lib.hid (OV.of (own_mono (B := w.heap.size + 3) hown (by first | omega | simp)))
  have hB := Lib.hid (bthen hb3.out hb)
  have hlw : w.heap.size + 1 + 1 < w2.heap.size := hl2
  clear hown hb
  have hba := below_alloc (w := w2) (.cells #[.slice a2 xs.length c2] 30)
  have hbx : (w2.alloc (.cells #[.slice a2 xs.length c2] 30)).cell? ⟨w2.heap.size, 0, none⟩ = some (.slice a2 xs.length c2) := by simp [go_sem]
  have hcf := keep hba hc0
  have hct := keep hba hc1
  have hcr := keep hba hc2
  have hfr := keepf hba hc2 hf2
  have hB2 := Lib.hid (bthen hB.out hba)
  have ho0 : OV (w.heap.size + 3) w2.heap.size (w2.alloc (.cells #[.slice a2 xs.length c2] 30)) 2 1 a2 xs.length c2 ((putL xs (tt + 1 - 0) (digs u 0)).map (Value.int .i64)) := by rw [digs_zero, putL_nil]; exact ho.out.kept (below_alloc _)
  clear hba hc0 hc1 hc2 hf0 hf1 hf2 hl0 hl1 hl2
  go_wp2_with (go_at_call 135; ((with_reducible refine (hab.out _).mono ?_); rintro e w' ⟨rfl, rfl⟩))
  generalize hW : (w2.alloc (.cells #[.slice a2 xs.length c2] 30)) = W at *
  clear hW
  go_loopw [8, 9] (fun x q wr => ∃ (m R : Nat) (z : Int), m ≤ tt + 1 - f ∧ x = .int .i64 R ∧ q = .int .i64 z ∧ z + m = tt ∧ Hid (R = u / 10 ^ m) ∧ R ≤ 999999999999 ∧ OV (w.heap.size + 3) w2.heap.size wr 2 1 a2 xs.length c2 ((putL xs (tt + 1 - m) (digs u m)).map (Value.int .i64)) ∧ Within (w.heap.size + 3) w2.heap.size W wr) (fun _ q _ => (intOf q + 1).toNat)
  case atStart => exact ⟨0, u, _, by omega, rfl, rfl, by have := ht2.out; omega, Lib.hid (by simp), hub, ho0, Within.refl _ _ _⟩
  case round =>
    obtain ⟨m, R, z, hm, rfl, rfl, hz, hR, hRb, hov, hw⟩ := hrel
    have hbxr := hw.cell hbx (Or.inr (Nat.le_refl _))
    have hcfr := hw.cell hcf (Or.inl (by dsimp only; omega))
    have hctr := hw.cell hct (Or.inl (by dsimp only; omega))
    have hcrr := hw.cell hcr (Or.inl (by dsimp only; omega))
    have hfrr := hw.frozen hcr hfr (Or.inl (by dsimp only; omega))
    replace hov := Lib.hid hov
    replace hw := Lib.hid hw
    by_cases hlt : m < tt + 1 - f
    · obtain ⟨j, rfl⟩ := Int.eq_ofNat_of_zero_le (show 0 ≤ z by omega)
      have hjf : (f : Int) ≤ (j : Int) := by omega
      have hjn : j < xs.length := by omega
      have hjn' : (j : Int) < (xs.length : Int) := by omega
      obtain ⟨g, rfl, hg1, hg2⟩ := hov.out.addr (by omega)
      obtain ⟨v, hv⟩ := putL_free (l := digs u m) hjn
      have hcg : wr.cell? ⟨g, j, none⟩ = some (.int .i64 v) := by rw [hov.out.1.cellAt j (by omega), show tt + 1 - m = j + 1 by omega]; exact map_at hv
      have hfg := hov.out.1.frozenAt j
      have hg3 : ¬ g = w2.heap.size := by omega
      have hg4 : ¬ w2.heap.size = g := by omega
      have hset := Lib.hid (show ((putL xs (tt + 1 - m) (digs u m)).map (Value.int .i64)).set j (.int .i64 (bitI ((R : Int) % 10))) = (putL xs (tt + 1 - (m + 1)) (digs u (m + 1))).map (Value.int .i64) by
        rw [show tt + 1 - m = j + 1 by omega, show tt + 1 - (m + 1) = j by omega, ← List.map_set, putL_front (by rw [digs_length]; omega), digs_succ, ← hR.out]
        rfl)
      have hR2 := Lib.hid (show R / 10 = u / 10 ^ (m + 1) by rw [hR.out, Nat.div_div_eq_div_mul, Nat.pow_succ])
      have hmod : Int.tmod (R : Int) 10 = (R : Int) % 10 := Int.tmod_eq_emod_of_nonneg (by omega)
      clear hv hR
      go_wp2_with fail
      first | go_region_with (go_at_call 152; refine (impl_bitOf _ _).mono ?_; rintro e w' ⟨rfl, rfl⟩) | fail
      all_goals go_wp2_with fail
      all_goals
        go_roundw
        case rel => exact ⟨m + 1, R / 10, (j : Int) - 1, by omega, by first | go_num | (congr 1; omega), rfl, by omega, hR2, by omega, by rw [← hset.out]; first | exact (hov.out.store j _).kept (below_drewN (Below.refl _ _) 1) | exact hov.out.store j _, by first | exact (hw.out.setCell (p := ⟨g, j, none⟩) hg1 hg2 _).trans (Within.of_below (below_drewN (Below.refl _ _) 1)) | exact (hw.out.setCell (p := ⟨g, j, none⟩) hg1 hg2 _).trans (Within.of_below (Below.refl _ _).drew) | exact hw.out.setCell (p := ⟨g, j, none⟩) hg1 hg2 _⟩
        case measure => simp only [intOf]; omega
    · obtain rfl : m = tt + 1 - f := by omega
      have hlast := Lib.hid (show tt + 1 - (tt + 1 - f) = f by omega)
      obtain ⟨v, hvv⟩ : ∃ v, v + f = tt := ⟨tt - f, by omega⟩
      have hwd := Lib.hid (show tt + 1 - f = v + 1 by omega)
      rw [hlast.out, hwd.out] at hov
      have hzf : ¬ (f : Int) ≤ z := by omega
      clear hR
      cases hneg : decide (n < 0)
      · have hn2 : ¬ n < 0 := by simpa using hneg
        have hfin := Lib.hid (show numL (tt + 1 - f) u false = digs u (v + 1) by rw [hwd.out]; rfl)
        go_wp2_with fail
        refine bodyPost_ret (v := .agg #[.slice a2 xs.length c2]) (by simp [results, Tryz.results136, go_sem, *]) rfl ⟨a2, c2, rfl, ?_, (hw.out.below hB2.out (by omega) hB2.out.size).setCell (by dsimp only; omega) _⟩
        rw [hfin.out]
        exact own_mono (ownsRow_setCell_below hov.out.1 (by dsimp only; omega) _) (by omega)
      · have hn2 : n < 0 := by simpa using hneg
        obtain ⟨g, rfl, hg1, hg2⟩ := hov.out.addr (by omega)
        have hdl := Lib.hid (digs_length u (v + 1))
        have hcg : wr.cell? ⟨g, tt, none⟩ = some (.int .i64 ((digs u (v + 1)).getD v 0)) := by
          rw [hov.out.1.cellAt tt (by omega)]
          refine map_at ?_
          rw [show tt = f + v by omega]
          exact putL_at (by omega) (last_at hdl.out)
        have hfg := hov.out.1.frozenAt tt
        have hg3 : ¬ g = w2.heap.size := by omega
        have hg4 : ¬ w2.heap.size = g := by omega
        have hfin := Lib.hid (show ((putL xs f (digs u (v + 1))).map (Value.int .i64)).set tt (.int .i64 (bits BinOp.or IntKind.i64 ((digs u (v + 1)).getD v 0) 2)) = (putL xs f (numL (tt + 1 - f) u true)).map (Value.int .i64) by
          rw [← List.map_set, show tt = f + v by omega, putL_sign (by rw [hdl.out]; omega) hdl.out, show f + v + 1 - f = v + 1 by omega]
          rfl)
        have hti : t - 1 = (tt : Int) := by rw [ht2.out]; omega
        have htw : IntKind.i64.wrap (tt : Int) = (tt : Int) := IntWalk.i64_in _ (by omega)
        have htn : (tt : Int) < (xs.length : Int) := by omega
        have htn2 : tt < xs.length := by omega
        have hb11 : bitI 11 = 2 := rfl
        generalize (digs u (v + 1)).getD v 0 = dl at *
        go_wp2_with fail
        first | go_region_with (go_at_call 152; refine (impl_bitOf _ _).mono ?_; rintro e w' ⟨rfl, rfl⟩) | fail
        all_goals clear htw hti
        all_goals go_wp2_with fail
        all_goals
          refine bodyPost_ret (v := .agg #[.slice (some ⟨g, 0, none⟩) xs.length c2]) (by simp [results, Tryz.results136, go_sem, *]) rfl ⟨_, c2, rfl, ?_, ?_⟩
          · first | rw [← hfin.out] | rw [hneg, ← hfin.out]
            first
              | exact own_mono (ownsRow_setCell_below ((hov.out.store tt _).kept (below_drewN (Below.refl _ _) 1)).1 (by dsimp only; omega) _) (by omega)
              | exact own_mono (ownsRow_setCell_below (hov.out.store tt _).1 (by dsimp only; omega) _) (by omega)
          · first
              | exact (below_drewN ((hw.out.below hB2.out (by omega) hB2.out.size).setCell (p := ⟨g, tt, none⟩) (by dsimp only; omega) _) 1).setCell (by dsimp only; omega) _
              | exact ((hw.out.below hB2.out (by omega) hB2.out.size).setCell (p := ⟨g, tt, none⟩) (by dsimp only; omega) _).setCell (by dsimp only; omega) _
              | exact (((hw.out.below hB2.out (by omega) hB2.out.size).setCell (p := ⟨g, tt, none⟩) (by first | omega | (dsimp only; omega)) _).setCell (by first | omega | (dsimp only; omega)) _).drew
end Go.Proofs.YtcbjfgjlhjjpiaaGreatDoor
