/- FnExactChangeItem: for all arguments the law returns true, and memory that was there is as it was. No condition. -/
import Derived.Test.YtcbjfgjlhjjpiaaGreatDoorRows
import Derived.Test.YtcbjfgjlhjjpiaaGreatDoorCards
import Derived.Deep.DeepWitnessRowRef
import Derived.LaidMore
import Derived.Test.YtcbjfgjlhjjpiaaGreatDoorTie
import Derived.Deep.DeepHandedRow
import Derived.Lib.LaidTab
import Derived.Stop.LaidErr
import Derived.OpenVars
import Derived.Test.YtcbjfgjlhjjpiaaGreatDoorTabs
import Derived.Test.YtcbjfgjlhjjpiaaGreatDoorOpen
import Derived.Deep.RegionHeld3
import Derived.Deep.CutRange
import Derived.ShutString
import Derived.Test.YtcbjfgjlhjjpiaaGreatDoorMark
import Derived.Test.YtcbjfgjlhjjpiaaGreatDoorMarkT
import Derived.Test.YtcbjfgjlhjjpiaaGreatDoorChg
import Derived.Test.YtcbjfgjlhjjpiaaGreatDoorErrs
namespace Go.Proofs.YtcbjfgjlhjjpiaaGreatDoor.fnExactChangeItem
open Go.ChangeShapes Go.WideShapes Go.ChangeAt Go.RowKit
open Go.ChangeMaps (open_string shut_string)
set_option linter.unusedVariables false
set_option linter.unusedSimpArgs false
set_option linter.unnecessarySimpa false
set_option maxRecDepth 100000

theorem own : ownKnob Tryz.prog.godebug = none := by kernel_rfl
theorem laidOut : laidOutB Tryz.prog = true := by kernel_rfl

set_option maxHeartbeats 4000000 in
/-- The Go text returns true; memory has at most new blocks. -/
theorem walk (d0 : Int) (a0 : Option Addr) (c0 : Nat) (x0 : List Itm) (a1 : Option Addr) (c1 : Nat) (x1 : List Int) (s2 : ByteArray) (s3 : ByteArray) (w : World) (hx0 : RT w a0 x0) (hm0 : x0.length ≤ maxLen ∧ ∀ y ∈ x0, y.name.size ≤ maxLen) (hx1 : RI w a1 x1) (hm1 : x1.length ≤ maxLen) (hm2 : s2.size ≤ maxLen) (hm3 : s3.size ≤ maxLen) (ht : Pow10 w) (hE : Errs w) :
    Calls Tryz.prog 3 #[.agg #[.int .i64 d0, .slice a0 x0.length c0], .agg #[.slice a1 x1.length c1], .string s2, .string s3] w fun e w' => e = .returned (.bool true) ∧ Below w.heap.size w w' := by
  by_cases hn2 : 1048576 < s2.size
  · go_enter Tryz.func3, Tryz.ntmps3
    go_wp2_with fail
    go_ret
    exact ⟨rfl, by repeat (first | exact Below.refl _ _ | exact below_alloc _ | exact below_alloc2 _ _ _ | exact below_alloc3 _ _ _ _)⟩
  replace hn2 : s2.size ≤ 1048576 := by omega
  by_cases hn3 : 1048576 < s3.size
  · go_enter Tryz.func3, Tryz.ntmps3
    go_wp2_with fail
    go_ret
    exact ⟨rfl, by repeat (first | exact Below.refl _ _ | exact below_alloc _ | exact below_alloc2 _ _ _ | exact below_alloc3 _ _ _ _)⟩
  replace hn3 : s3.size ≤ 1048576 := by omega
  have hsl0 := itemsSz_len x0
  go_enter Tryz.func3, Tryz.ntmps3
  by_cases hz1 : 1048576 < (itemsSz x0 : Int)
  · go_wp2_with fail
    refine (laws_szLayout_over d0 a0 c0 x0 (1048576) _ (hx0.kept (below_alloc2 _ _ _)) (by omega) (by omega) hm0 hz1).mono ?_
    rintro e wz ⟨rfl, hz⟩
    go_wp2_with fail
    go_ret
    exact ⟨rfl, bthen (below_alloc2 _ _ _) hz⟩
  go_wp2_with fail
  refine (laws_szLayout_ok d0 a0 c0 x0 (1048576) _ (hx0.kept (below_alloc2 _ _ _)) (by omega) (by omega) hm0 (by omega)).mono ?_
  rintro e w1 ⟨rfl, hb2⟩
  have hc3_0 : w1.cell? ⟨w.heap.size, 0, none⟩ = some (.int .i64 d0) := (keep hb2 (by simp [go_sem]))
  have hc3_1 : w1.cell? ⟨w.heap.size, 1, none⟩ = some (.slice a0 x0.length c0) := (keep hb2 (by simp [go_sem]))
  have hc4_0 : w1.cell? ⟨w.heap.size + 1, 0, none⟩ = some (.slice a1 x1.length c1) := (keep hb2 (by simp [go_sem]))
  have hB := (bthen (below_alloc2 _ _ _) hb2)
  have hs5 := hb2.size
  simp only [World.size_alloc] at hs5
  have hc3_l : w.heap.size < w1.heap.size := World.block_lt_of_cell? _ _ hc3_0
  have hc4_l : w.heap.size + 1 < w1.heap.size := World.block_lt_of_cell? _ _ hc4_0
  clear hb2
  have hn0 : itemsSz x0 ≤ 1048576 := by omega
  by_cases hz2 : (1048576 - (itemsSz x0 : Int)) < (x1.length : Int)
  · go_wp2_with fail
    refine (laws_szCard_over a1 c1 x1 ((1048576 - (itemsSz x0 : Int))) _ (hx1.kept hB) (by omega) (by omega) hm1 hz2).mono ?_
    rintro e wz ⟨rfl, hz⟩
    go_wp2_with fail
    go_ret
    exact ⟨rfl, bthen hB hz⟩
  go_wp2_with fail
  refine (laws_szCard_ok a1 c1 x1 ((1048576 - (itemsSz x0 : Int))) _ (hx1.kept hB) (by omega) (by omega) hm1 (by omega)).mono ?_
  rintro e w6 ⟨rfl, hb7⟩
  replace hc3_0 := (keep hb7 hc3_0)
  replace hc3_1 := (keep hb7 hc3_1)
  replace hc4_0 := (keep hb7 hc4_0)
  replace hB := (bthen hB hb7)
  have hs8 := hb7.size
  replace hc3_l : w.heap.size < w6.heap.size := World.block_lt_of_cell? _ _ hc3_0
  replace hc4_l : w.heap.size + 1 < w6.heap.size := World.block_lt_of_cell? _ _ hc4_0
  clear hb7
  have hn1 : x1.length ≤ 1048576 := by omega
  go_upto_region 12 with (fail)
  go_cut [10, 11] from 37 to 46 (fun s10 s11 wx => ∃ (B : Nat) (a : Option Addr) (c : Nat), s10 = .pointer (some ⟨B, 0, none⟩) ∧ s11 = .int .i64 (chgCode d0 x0 x1 s2 s3) ∧ wx.cell? ⟨B, 0, none⟩ = some (.slice a (chgL d0 x0 x1 s2 s3).length c) ∧ OI (w6.heap.size) (wx.heap.size) wx 2 a c ((chgL d0 x0 x1 s2 s3)) ∧ w6.heap.size ≤ B ∧ (∀ p, a = some p → ¬ p.block = B) ∧ Below w6.heap.size w6 wx)
  case first =>
    go_region_held3 (fun W => Below w6.heap.size w6 W ∧ W.cell? ⟨w.heap.size, 0, none⟩ = some (.int .i64 d0) ∧ W.cell? ⟨w.heap.size, 1, none⟩ = some (.slice a0 x0.length c0) ∧ W.cell? ⟨w.heap.size + 1, 0, none⟩ = some (.slice a1 x1.length c1)) (first | exact held3 (below_drewN (Below.refl _ _) 1) hc3_0 hc3_1 hc4_0 | (rename Below w6.heap.size w6 _ ∧ _ => hH; refine held3 ?_ hc3_0 hc3_1 hc4_0; first | (refine bthen hH.1 ?_; assumption) | exact hH.1.alloc hH.1.size _ | (refine below_realloc hH.1 ?_; omega) | (refine hH.1.setCell ?_ _; dsimp only; omega) | (refine (hH.1.setCell ?_ _).setCell ?_ _ <;> (dsimp only; omega)))) (first | (go_at_call 10; ((with_reducible refine (laws_toLayout d0 a0 c0 x0 _ (hx0.kept (bthen hB (And.left ‹Below w6.heap.size w6 _ ∧ _›))) hn0).mono ?_); rintro e w10 ⟨a11, c12, rfl, ho13, hb9⟩; have hq := bcell hb9; obtain ⟨hqaw10, hqbw10⟩ := hq; have hqsw10 := hb9.size; (try simp only [World.size_alloc, World.size_drew] at hqsw10); (have hb9n : Below w6.heap.size w6 w10 := by (first | exact hb9 | exact bthen (below_alloc _) hb9 | exact bthen (below_drewN (Below.refl _ _) 1) hb9 | exact bthen (below_drewN (below_alloc _) 1) hb9)); (try (have hltw6w10 : w6.heap.size < w10.heap.size := by omega)); (have hlew6w10 : w6.heap.size ≤ w10.heap.size := by omega))) | (go_at_call 11; ((with_reducible refine (laws_toCard a1 c1 x1 _ (hx1.kept (bthen hB (And.left ‹Below w6.heap.size w6 _ ∧ _›))) hn1).mono ?_); rintro e w15 ⟨a16, c17, rfl, ho18, hb14⟩; have hq := bcell hb14; obtain ⟨hqaw15, hqbw15⟩ := hq; have hqsw15 := hb14.size; (try simp only [World.size_alloc, World.size_drew] at hqsw15); (have hb14n : Below w10.heap.size w10 w15 := by (first | exact hb14 | exact bthen (below_alloc _) hb14 | exact bthen (below_drewN (Below.refl _ _) 1) hb14 | exact bthen (below_drewN (below_alloc _) 1) hb14)); (try (have hltw6w15 : w6.heap.size < w15.heap.size := by omega)); (have hlew6w15 : w6.heap.size ≤ w15.heap.size := by omega); (try (have hltw10w15 : w10.heap.size < w15.heap.size := by omega)); (have hlew10w15 : w10.heap.size ≤ w15.heap.size := by omega))) | (go_at_call 9; ((with_reducible refine (spec_ChangeItem d0 a11 c12 x0 a16 c17 x1 s2 s3 _ (((((OT.of ho13).RT).kept hb14n).kept0 (by first | exact Below.refl _ _ | exact below_alloc _))) ((((OI.of ho18).RI).kept0 (by first | exact Below.refl _ _ | exact below_alloc _))) hn0 (OT.capm (OT.of ho13)).1 hn1 (OI.cap0 (OI.of ho18)) hn2 hn3 ).mono ?_); rintro e w20 ⟨a21, c22, rfl, ho23, hb19⟩; have hq := bcell hb19; obtain ⟨hqaw20, hqbw20⟩ := hq; have hqsw20 := hb19.size; (try simp only [World.size_alloc, World.size_drew] at hqsw20); (have hb19n : Below w15.heap.size w15 w20 := by (first | exact hb19 | exact bthen (below_alloc _) hb19 | exact bthen (below_drewN (Below.refl _ _) 1) hb19 | exact bthen (below_drewN (below_alloc _) 1) hb19)); (try (have hltw6w20 : w6.heap.size < w20.heap.size := by omega)); (have hlew6w20 : w6.heap.size ≤ w20.heap.size := by omega); (try (have hltw10w20 : w10.heap.size < w20.heap.size := by omega)); (have hlew10w20 : w10.heap.size ≤ w20.heap.size := by omega); (try (have hltw15w20 : w15.heap.size < w20.heap.size := by omega)); (have hlew15w20 : w15.heap.size ≤ w20.heap.size := by omega))))
    all_goals
      go_wp2_with fail
      go_meet
      rename Below w6.heap.size w6 _ ∧ _ => hH
      refine ⟨_, a21, c22, rfl, rfl, by simp [go_sem, *], ?_, by first | exact Nat.le_refl _ | omega | (simp only [World.size_alloc]; omega), fun p hp => by (have hq := own_at ho23 hp; first | omega | (simp only [World.size_alloc] at *; omega)), hH.1⟩
      first | (refine cut_alloc ho23 _ ?_; first | omega | (simp only [World.size_alloc]; omega)) | (refine cut_set ho23 _ ?_ ?_ <;> first | omega | (simp only [World.size_alloc]; omega))
  obtain ⟨b26, a27, c28, rfl, rfl, hc31_0, ho29, hc31_ge, hc31_ne, hb30⟩ := hcut
  rename World => w25
  obtain ⟨lo32, hi33, hc31_lo, hc31_hi, ho29, hc31_ap⟩ := ho29.tight hc31_ne
  replace hc3_0 := (keep hb30 hc3_0)
  replace hc3_1 := (keep hb30 hc3_1)
  replace hc4_0 := (keep hb30 hc4_0)
  replace hB := (bthen hB hb30)
  have hs34 := hb30.size
  replace hc3_l : w.heap.size < w25.heap.size := World.block_lt_of_cell? _ _ hc3_0
  replace hc4_l : w.heap.size + 1 < w25.heap.size := World.block_lt_of_cell? _ _ hc4_0
  clear hb30
  have hc31_l : b26 < w25.heap.size := World.block_lt_of_cell? _ _ hc31_0
  have hc31_m := hc31_l
  have hl24 := chgL_len d0 x0 x1 s2 s3 hn1
  go_wp2_with fail
  refine (laws_toLayout d0 a0 c0 x0 _ (hx0.kept hB) hn0).mono ?_
  rintro e w36 ⟨a37, c38, rfl, ho39, hb35⟩
  replace hc3_0 := (keep hb35 hc3_0)
  replace hc3_1 := (keep hb35 hc3_1)
  replace hc4_0 := (keep hb35 hc4_0)
  replace hc31_0 := (keep hb35 hc31_0)
  replace ho29 := (ho29.kept hb35)
  replace hB := (bthen hB hb35)
  have hs40 := hb35.size
  replace hc3_l : w.heap.size < w36.heap.size := World.block_lt_of_cell? _ _ hc3_0
  replace hc4_l : w.heap.size + 1 < w36.heap.size := World.block_lt_of_cell? _ _ hc4_0
  replace hc31_l : b26 < w36.heap.size := World.block_lt_of_cell? _ _ hc31_0
  clear hb35
  replace ho39 := OT.of (own_mono (B := w25.heap.size) ho39 (by first | exact Nat.le_refl _ | simp))
  go_wp2_with fail
  refine (laws_toCard a1 c1 x1 _ (hx1.kept (bthen hB (below_alloc _))) hn1).mono ?_
  rintro e w42 ⟨a43, c44, rfl, ho45, hb41⟩
  replace hc3_0 := (keep hb41 (keep (below_alloc _) hc3_0))
  replace hc3_1 := (keep hb41 (keep (below_alloc _) hc3_1))
  replace hc4_0 := (keep hb41 (keep (below_alloc _) hc4_0))
  replace hc31_0 := (keep hb41 (keep (below_alloc _) hc31_0))
  have hc46_0 : w42.cell? ⟨w36.heap.size, 0, none⟩ = some (.int .i64 d0) := (keep hb41 (by simp [go_sem]))
  have hc46_1 : w42.cell? ⟨w36.heap.size, 1, none⟩ = some (.slice a37 x0.length c38) := (keep hb41 (by simp [go_sem]))
  replace ho29 := ((ho29.kept (below_alloc _)).kept hb41)
  replace ho39 := ((ho39.kept (below_alloc _)).kept hb41)
  replace hB := (bthen (bthen hB (below_alloc _)) hb41)
  have hs47 := hb41.size
  simp only [World.size_alloc] at hs47
  replace hc3_l : w.heap.size < w42.heap.size := World.block_lt_of_cell? _ _ hc3_0
  replace hc4_l : w.heap.size + 1 < w42.heap.size := World.block_lt_of_cell? _ _ hc4_0
  replace hc31_l : b26 < w42.heap.size := World.block_lt_of_cell? _ _ hc31_0
  have hc46_l : w36.heap.size < w42.heap.size := World.block_lt_of_cell? _ _ hc46_0
  clear hb41
  replace ho45 := OI.of (own_mono (B := w36.heap.size + 1) ho45 (by first | exact Nat.le_refl _ | simp))
  go_wp2_with fail
  refine (impl_ChangeItem d0 a37 c38 x0 a43 c44 x1 s2 s3 _ ((ho39.RT).kept (below_alloc _)) ((ho45.RI).kept (below_alloc _)) hn0 (OT.capm ho39).1 hn1 (OI.cap0 ho45) hn2 hn3 (pow_kept ht (bthen hB (below_alloc _))) (Errs.kept hE (bthen hB (below_alloc _)))).mono ?_
  rintro e w49 ⟨a50, c51, rfl, ho52, hb48⟩
  replace hc3_0 := (keep hb48 (keep (below_alloc _) hc3_0))
  replace hc3_1 := (keep hb48 (keep (below_alloc _) hc3_1))
  replace hc4_0 := (keep hb48 (keep (below_alloc _) hc4_0))
  replace hc31_0 := (keep hb48 (keep (below_alloc _) hc31_0))
  replace hc46_0 := (keep hb48 (keep (below_alloc _) hc46_0))
  replace hc46_1 := (keep hb48 (keep (below_alloc _) hc46_1))
  have hc54_0 : w49.cell? ⟨w42.heap.size, 0, none⟩ = some (.slice a43 x1.length c44) := (keep hb48 (by simp [go_sem]))
  replace ho29 := ((ho29.kept (below_alloc _)).kept hb48)
  replace ho39 := ((ho39.kept (below_alloc _)).kept hb48)
  replace ho45 := ((ho45.kept (below_alloc _)).kept hb48)
  replace hB := (bthen (bthen hB (below_alloc _)) hb48)
  have hs55 := hb48.size
  simp only [World.size_alloc] at hs55
  replace hc3_l : w.heap.size < w49.heap.size := World.block_lt_of_cell? _ _ hc3_0
  replace hc4_l : w.heap.size + 1 < w49.heap.size := World.block_lt_of_cell? _ _ hc4_0
  replace hc31_l : b26 < w49.heap.size := World.block_lt_of_cell? _ _ hc31_0
  replace hc46_l : w36.heap.size < w49.heap.size := World.block_lt_of_cell? _ _ hc46_0
  have hc54_l : w42.heap.size < w49.heap.size := World.block_lt_of_cell? _ _ hc54_0
  clear hb48
  replace ho52 := OI.of (own_mono (B := w42.heap.size + 1) ho52 (by first | exact Nat.le_refl _ | simp))
  have hl53 := chgL_len d0 x0 x1 s2 s3 hn1
  go_wp2_with fail
  refine (laws_eqCard_same a50 a27 c51 c28 (chgL d0 x0 x1 s2 s3) _ ((ho52.RI).kept (below_alloc _)) ((ho29.RI).kept (below_alloc _)) (small hl53)).mono ?_
  rintro e w57 ⟨rfl, hb56⟩
  replace hc3_0 := (keep hb56 (keep (below_alloc _) hc3_0))
  replace hc3_1 := (keep hb56 (keep (below_alloc _) hc3_1))
  replace hc4_0 := (keep hb56 (keep (below_alloc _) hc4_0))
  replace hc31_0 := (keep hb56 (keep (below_alloc _) hc31_0))
  replace hc46_0 := (keep hb56 (keep (below_alloc _) hc46_0))
  replace hc46_1 := (keep hb56 (keep (below_alloc _) hc46_1))
  replace hc54_0 := (keep hb56 (keep (below_alloc _) hc54_0))
  have hc58_0 : w57.cell? ⟨w49.heap.size, 0, none⟩ = some (.slice a50 (chgL d0 x0 x1 s2 s3).length c51) := (keep hb56 (by simp [go_sem]))
  replace ho29 := ((ho29.kept (below_alloc _)).kept hb56)
  replace ho39 := ((ho39.kept (below_alloc _)).kept hb56)
  replace ho45 := ((ho45.kept (below_alloc _)).kept hb56)
  replace ho52 := ((ho52.kept (below_alloc _)).kept hb56)
  replace hB := (bthen (bthen hB (below_alloc _)) hb56)
  have hs59 := hb56.size
  simp only [World.size_alloc] at hs59
  replace hc3_l : w.heap.size < w57.heap.size := World.block_lt_of_cell? _ _ hc3_0
  replace hc4_l : w.heap.size + 1 < w57.heap.size := World.block_lt_of_cell? _ _ hc4_0
  replace hc31_l : b26 < w57.heap.size := World.block_lt_of_cell? _ _ hc31_0
  replace hc46_l : w36.heap.size < w57.heap.size := World.block_lt_of_cell? _ _ hc46_0
  replace hc54_l : w42.heap.size < w57.heap.size := World.block_lt_of_cell? _ _ hc54_0
  have hc58_l : w49.heap.size < w57.heap.size := World.block_lt_of_cell? _ _ hc58_0
  clear hb56
  go_wp2_with fail
  go_region_held3 (fun W => Below w57.heap.size w57 W ∧ W.cell? ⟨w36.heap.size, 0, none⟩ = some (.int .i64 d0) ∧ W.cell? ⟨w36.heap.size, 1, none⟩ = some (.slice a37 x0.length c38) ∧ W.cell? ⟨w.heap.size, 0, none⟩ = some (.int .i64 d0) ∧ W.cell? ⟨w.heap.size, 1, none⟩ = some (.slice a0 x0.length c0)) (first | exact held4 (below_drewN (Below.refl _ _) 1) hc46_0 hc46_1 hc3_0 hc3_1 | (rename Below w57.heap.size w57 _ ∧ _ => hH; refine held4 ?_ hc46_0 hc46_1 hc3_0 hc3_1; (refine bthen hH.1 ?_; assumption))) (first | (go_at_call 10; ((with_reducible refine (laws_toLayout d0 a0 c0 x0 _ (hx0.kept (bthen hB (And.left ‹Below w57.heap.size w57 _ ∧ _›))) hn0).mono ?_); rintro e w61 ⟨a62, c63, rfl, ho64, hb60⟩)) | (go_at_call 14; ((with_reducible refine (laws_eqLayout_same d0 a37 a62 c38 c63 x0 _ ((ho39.RT).kept (And.left ‹Below w57.heap.size w57 _ ∧ _›)) (((OT.of ho64).RT)) hn0).mono ?_); rintro e w66 ⟨rfl, hb65⟩)))
  replace hc3_0 := (keep hb65 (keep hb60 (keep (below_drewN (Below.refl _ _) 1) hc3_0)))
  replace hc3_1 := (keep hb65 (keep hb60 (keep (below_drewN (Below.refl _ _) 1) hc3_1)))
  replace hc4_0 := (keep hb65 (keep hb60 (keep (below_drewN (Below.refl _ _) 1) hc4_0)))
  replace hc31_0 := (keep hb65 (keep hb60 (keep (below_drewN (Below.refl _ _) 1) hc31_0)))
  replace hc46_0 := (keep hb65 (keep hb60 (keep (below_drewN (Below.refl _ _) 1) hc46_0)))
  replace hc46_1 := (keep hb65 (keep hb60 (keep (below_drewN (Below.refl _ _) 1) hc46_1)))
  replace hc54_0 := (keep hb65 (keep hb60 (keep (below_drewN (Below.refl _ _) 1) hc54_0)))
  replace hc58_0 := (keep hb65 (keep hb60 (keep (below_drewN (Below.refl _ _) 1) hc58_0)))
  replace ho29 := (((ho29.kept (below_drewN (Below.refl _ _) 1)).kept hb60).kept hb65)
  replace ho39 := (((ho39.kept (below_drewN (Below.refl _ _) 1)).kept hb60).kept hb65)
  replace ho45 := (((ho45.kept (below_drewN (Below.refl _ _) 1)).kept hb60).kept hb65)
  replace ho52 := (((ho52.kept (below_drewN (Below.refl _ _) 1)).kept hb60).kept hb65)
  replace hB := (bthen (bthen (bthen hB (below_drewN (Below.refl _ _) 1)) hb60) hb65)
  have hs67 := hb60.size
  simp only [World.size_drew] at hs67
  have hs68 := hb65.size
  replace hc3_l : w.heap.size < w66.heap.size := World.block_lt_of_cell? _ _ hc3_0
  replace hc4_l : w.heap.size + 1 < w66.heap.size := World.block_lt_of_cell? _ _ hc4_0
  replace hc31_l : b26 < w66.heap.size := World.block_lt_of_cell? _ _ hc31_0
  replace hc46_l : w36.heap.size < w66.heap.size := World.block_lt_of_cell? _ _ hc46_0
  replace hc54_l : w42.heap.size < w66.heap.size := World.block_lt_of_cell? _ _ hc54_0
  replace hc58_l : w49.heap.size < w66.heap.size := World.block_lt_of_cell? _ _ hc58_0
  clear ho64
  clear hb60 hb65
  go_wp2_with fail
  go_region_held3 (fun W => Below w66.heap.size w66 W ∧ W.cell? ⟨w42.heap.size, 0, none⟩ = some (.slice a43 x1.length c44) ∧ W.cell? ⟨w.heap.size + 1, 0, none⟩ = some (.slice a1 x1.length c1)) (first | exact held2 (below_drewN (Below.refl _ _) 1) hc54_0 hc4_0 | (rename Below w66.heap.size w66 _ ∧ _ => hH; refine held2 ?_ hc54_0 hc4_0; (refine bthen hH.1 ?_; assumption))) (first | (go_at_call 11; ((with_reducible refine (laws_toCard a1 c1 x1 _ (hx1.kept (bthen hB (And.left ‹Below w66.heap.size w66 _ ∧ _›))) hn1).mono ?_); rintro e w70 ⟨a71, c72, rfl, ho73, hb69⟩)) | (go_at_call 13; ((with_reducible refine (laws_eqCard_same a43 a71 c44 c72 x1 _ ((ho45.RI).kept (And.left ‹Below w66.heap.size w66 _ ∧ _›)) (((OI.of ho73).RI)) (small hn1)).mono ?_); rintro e w75 ⟨rfl, hb74⟩)))
  replace hc3_0 := (keep hb74 (keep hb69 (keep (below_drewN (Below.refl _ _) 1) hc3_0)))
  replace hc3_1 := (keep hb74 (keep hb69 (keep (below_drewN (Below.refl _ _) 1) hc3_1)))
  replace hc4_0 := (keep hb74 (keep hb69 (keep (below_drewN (Below.refl _ _) 1) hc4_0)))
  replace hc31_0 := (keep hb74 (keep hb69 (keep (below_drewN (Below.refl _ _) 1) hc31_0)))
  replace hc46_0 := (keep hb74 (keep hb69 (keep (below_drewN (Below.refl _ _) 1) hc46_0)))
  replace hc46_1 := (keep hb74 (keep hb69 (keep (below_drewN (Below.refl _ _) 1) hc46_1)))
  replace hc54_0 := (keep hb74 (keep hb69 (keep (below_drewN (Below.refl _ _) 1) hc54_0)))
  replace hc58_0 := (keep hb74 (keep hb69 (keep (below_drewN (Below.refl _ _) 1) hc58_0)))
  replace ho29 := (((ho29.kept (below_drewN (Below.refl _ _) 1)).kept hb69).kept hb74)
  replace ho39 := (((ho39.kept (below_drewN (Below.refl _ _) 1)).kept hb69).kept hb74)
  replace ho45 := (((ho45.kept (below_drewN (Below.refl _ _) 1)).kept hb69).kept hb74)
  replace ho52 := (((ho52.kept (below_drewN (Below.refl _ _) 1)).kept hb69).kept hb74)
  replace hB := (bthen (bthen (bthen hB (below_drewN (Below.refl _ _) 1)) hb69) hb74)
  have hs76 := hb69.size
  simp only [World.size_drew] at hs76
  have hs77 := hb74.size
  replace hc3_l : w.heap.size < w75.heap.size := World.block_lt_of_cell? _ _ hc3_0
  replace hc4_l : w.heap.size + 1 < w75.heap.size := World.block_lt_of_cell? _ _ hc4_0
  replace hc31_l : b26 < w75.heap.size := World.block_lt_of_cell? _ _ hc31_0
  replace hc46_l : w36.heap.size < w75.heap.size := World.block_lt_of_cell? _ _ hc46_0
  replace hc54_l : w42.heap.size < w75.heap.size := World.block_lt_of_cell? _ _ hc54_0
  replace hc58_l : w49.heap.size < w75.heap.size := World.block_lt_of_cell? _ _ hc58_0
  clear ho73
  clear hb69 hb74
  go_wp2_with fail
  refine (laws_markLayout (w25.heap.size) (w36.heap.size) d0 a37 c38 x0 1 _ ho39 (by omega) (by omega) hn0 (by first | omega | (simp only [World.size_alloc]; omega))).mono ?_
  rintro e w79 ⟨rfl, hw80, ho81⟩
  replace hc3_0 := hw80.cell hc3_0 (by dsimp only; omega)
  replace hc3_1 := hw80.cell hc3_1 (by dsimp only; omega)
  replace hc4_0 := hw80.cell hc4_0 (by dsimp only; omega)
  replace hc31_0 := hw80.cell hc31_0 (by dsimp only; omega)
  replace hc46_0 := hw80.cell hc46_0 (by dsimp only; omega)
  replace hc46_1 := hw80.cell hc46_1 (by dsimp only; omega)
  replace hc54_0 := hw80.cell hc54_0 (by dsimp only; omega)
  replace hc58_0 := hw80.cell hc58_0 (by dsimp only; omega)
  replace ho29 := ho29.within hw80 (by omega)
  replace ho45 := ho45.within hw80 (by omega)
  replace ho52 := ho52.within hw80 (by omega)
  replace hB := hw80.below hB (by omega) (by first | omega | (simp only [World.size_alloc]; omega))
  have hs82 := hw80.size
  replace hc3_l : w.heap.size < w79.heap.size := World.block_lt_of_cell? _ _ hc3_0
  replace hc4_l : w.heap.size + 1 < w79.heap.size := World.block_lt_of_cell? _ _ hc4_0
  replace hc31_l : b26 < w79.heap.size := World.block_lt_of_cell? _ _ hc31_0
  replace hc46_l : w36.heap.size < w79.heap.size := World.block_lt_of_cell? _ _ hc46_0
  replace hc54_l : w42.heap.size < w79.heap.size := World.block_lt_of_cell? _ _ hc54_0
  replace hc58_l : w49.heap.size < w79.heap.size := World.block_lt_of_cell? _ _ hc58_0
  clear hw80
  clear ho39
  go_wp2_with fail
  refine (laws_markCard (w36.heap.size + 1) (w42.heap.size) a43 c44 x1 (1 + (x0.length * 4 : Int)) _ ho45 (by omega) (by omega) hn1 (by first | omega | (simp only [World.size_alloc]; omega))).mono ?_
  rintro e w84 ⟨rfl, hw85, ho86⟩
  replace hc3_0 := hw85.cell hc3_0 (by dsimp only; omega)
  replace hc3_1 := hw85.cell hc3_1 (by dsimp only; omega)
  replace hc4_0 := hw85.cell hc4_0 (by dsimp only; omega)
  replace hc31_0 := hw85.cell hc31_0 (by dsimp only; omega)
  replace hc46_0 := hw85.cell hc46_0 (by dsimp only; omega)
  replace hc46_1 := hw85.cell hc46_1 (by dsimp only; omega)
  replace hc54_0 := hw85.cell hc54_0 (by dsimp only; omega)
  replace hc58_0 := hw85.cell hc58_0 (by dsimp only; omega)
  replace ho29 := ho29.within hw85 (by omega)
  replace ho81 := ho81.within hw85 (by omega)
  replace ho52 := ho52.within hw85 (by omega)
  replace hB := hw85.below hB (by omega) (by first | omega | (simp only [World.size_alloc]; omega))
  have hs87 := hw85.size
  replace hc3_l : w.heap.size < w84.heap.size := World.block_lt_of_cell? _ _ hc3_0
  replace hc4_l : w.heap.size + 1 < w84.heap.size := World.block_lt_of_cell? _ _ hc4_0
  replace hc31_l : b26 < w84.heap.size := World.block_lt_of_cell? _ _ hc31_0
  replace hc46_l : w36.heap.size < w84.heap.size := World.block_lt_of_cell? _ _ hc46_0
  replace hc54_l : w42.heap.size < w84.heap.size := World.block_lt_of_cell? _ _ hc54_0
  replace hc58_l : w49.heap.size < w84.heap.size := World.block_lt_of_cell? _ _ hc58_0
  clear hw85
  clear ho45
  go_wp2_with fail
  refine (laws_eqCard_same a50 a27 c51 c28 (chgL d0 x0 x1 s2 s3) _ (ho52.RI) (ho29.RI) (small hl53)).mono ?_
  rintro e w89 ⟨rfl, hb88⟩
  replace hc3_0 := (keep hb88 hc3_0)
  replace hc3_1 := (keep hb88 hc3_1)
  replace hc4_0 := (keep hb88 hc4_0)
  replace hc31_0 := (keep hb88 hc31_0)
  replace hc46_0 := (keep hb88 hc46_0)
  replace hc46_1 := (keep hb88 hc46_1)
  replace hc54_0 := (keep hb88 hc54_0)
  replace hc58_0 := (keep hb88 hc58_0)
  replace ho29 := (ho29.kept hb88)
  replace ho81 := (ho81.kept hb88)
  replace ho86 := (ho86.kept hb88)
  replace ho52 := (ho52.kept hb88)
  replace hB := (bthen hB hb88)
  have hs90 := hb88.size
  replace hc3_l : w.heap.size < w89.heap.size := World.block_lt_of_cell? _ _ hc3_0
  replace hc4_l : w.heap.size + 1 < w89.heap.size := World.block_lt_of_cell? _ _ hc4_0
  replace hc31_l : b26 < w89.heap.size := World.block_lt_of_cell? _ _ hc31_0
  replace hc46_l : w36.heap.size < w89.heap.size := World.block_lt_of_cell? _ _ hc46_0
  replace hc54_l : w42.heap.size < w89.heap.size := World.block_lt_of_cell? _ _ hc54_0
  replace hc58_l : w49.heap.size < w89.heap.size := World.block_lt_of_cell? _ _ hc58_0
  clear hb88
  go_wp2_with fail
  refine (laws_markCard (w42.heap.size + 1) (w49.heap.size) a50 c51 (chgL d0 x0 x1 s2 s3) 1 _ ho52 (by omega) (by omega) hl53 (by first | omega | (simp only [World.size_alloc]; omega))).mono ?_
  rintro e w92 ⟨rfl, hw93, ho94⟩
  replace hc3_0 := hw93.cell hc3_0 (by dsimp only; omega)
  replace hc3_1 := hw93.cell hc3_1 (by dsimp only; omega)
  replace hc4_0 := hw93.cell hc4_0 (by dsimp only; omega)
  replace hc31_0 := hw93.cell hc31_0 (by dsimp only; omega)
  replace hc46_0 := hw93.cell hc46_0 (by dsimp only; omega)
  replace hc46_1 := hw93.cell hc46_1 (by dsimp only; omega)
  replace hc54_0 := hw93.cell hc54_0 (by dsimp only; omega)
  replace hc58_0 := hw93.cell hc58_0 (by dsimp only; omega)
  replace ho29 := ho29.within hw93 (by omega)
  replace ho81 := ho81.within hw93 (by omega)
  replace ho86 := ho86.within hw93 (by omega)
  replace hB := hw93.below hB (by omega) (by first | omega | (simp only [World.size_alloc]; omega))
  have hs95 := hw93.size
  replace hc3_l : w.heap.size < w92.heap.size := World.block_lt_of_cell? _ _ hc3_0
  replace hc4_l : w.heap.size + 1 < w92.heap.size := World.block_lt_of_cell? _ _ hc4_0
  replace hc31_l : b26 < w92.heap.size := World.block_lt_of_cell? _ _ hc31_0
  replace hc46_l : w36.heap.size < w92.heap.size := World.block_lt_of_cell? _ _ hc46_0
  replace hc54_l : w42.heap.size < w92.heap.size := World.block_lt_of_cell? _ _ hc54_0
  replace hc58_l : w49.heap.size < w92.heap.size := World.block_lt_of_cell? _ _ hc58_0
  clear hw93
  clear ho52
  go_wp2_with fail
  refine (laws_heldCard a50 c51 (chgL d0 x0 x1 s2 s3).length 1 _ (ho94.RI) (by omega) (by omega) hl53).mono ?_
  rintro e w97 ⟨rfl, hb96⟩
  replace hc3_0 := (keep hb96 hc3_0)
  replace hc3_1 := (keep hb96 hc3_1)
  replace hc4_0 := (keep hb96 hc4_0)
  replace hc31_0 := (keep hb96 hc31_0)
  replace hc46_0 := (keep hb96 hc46_0)
  replace hc46_1 := (keep hb96 hc46_1)
  replace hc54_0 := (keep hb96 hc54_0)
  replace hc58_0 := (keep hb96 hc58_0)
  replace ho29 := (ho29.kept hb96)
  replace ho81 := (ho81.kept hb96)
  replace ho86 := (ho86.kept hb96)
  replace ho94 := (ho94.kept hb96)
  replace hB := (bthen hB hb96)
  have hs98 := hb96.size
  replace hc3_l : w.heap.size < w97.heap.size := World.block_lt_of_cell? _ _ hc3_0
  replace hc4_l : w.heap.size + 1 < w97.heap.size := World.block_lt_of_cell? _ _ hc4_0
  replace hc31_l : b26 < w97.heap.size := World.block_lt_of_cell? _ _ hc31_0
  replace hc46_l : w36.heap.size < w97.heap.size := World.block_lt_of_cell? _ _ hc46_0
  replace hc54_l : w42.heap.size < w97.heap.size := World.block_lt_of_cell? _ _ hc54_0
  replace hc58_l : w49.heap.size < w97.heap.size := World.block_lt_of_cell? _ _ hc58_0
  clear hb96
  go_upto_region 35 with (fail)
  go_cut [19, 20] from 108 to 117 (fun s19 s20 wx => ∃ (B : Nat) (a : Option Addr) (c : Nat), s19 = .pointer (some ⟨B, 0, none⟩) ∧ s20 = .int .i64 (chgCode d0 x0 x1 s2 s3) ∧ wx.cell? ⟨B, 0, none⟩ = some (.slice a (chgL d0 x0 x1 s2 s3).length c) ∧ OI (w97.heap.size) (wx.heap.size) wx 2 a c ((chgL d0 x0 x1 s2 s3)) ∧ w97.heap.size ≤ B ∧ (∀ p, a = some p → ¬ p.block = B) ∧ Below w97.heap.size w97 wx)
  case first =>
    go_region_held3 (fun W => Below w97.heap.size w97 W ∧ W.cell? ⟨w.heap.size, 0, none⟩ = some (.int .i64 d0) ∧ W.cell? ⟨w.heap.size, 1, none⟩ = some (.slice a0 x0.length c0) ∧ W.cell? ⟨w.heap.size + 1, 0, none⟩ = some (.slice a1 x1.length c1)) (first | exact held3 (below_drewN (Below.refl _ _) 1) hc3_0 hc3_1 hc4_0 | (rename Below w97.heap.size w97 _ ∧ _ => hH; refine held3 ?_ hc3_0 hc3_1 hc4_0; first | (refine bthen hH.1 ?_; assumption) | exact hH.1.alloc hH.1.size _ | (refine below_realloc hH.1 ?_; omega) | (refine hH.1.setCell ?_ _; dsimp only; omega) | (refine (hH.1.setCell ?_ _).setCell ?_ _ <;> (dsimp only; omega)))) (first | (go_at_call 10; ((with_reducible refine (laws_toLayout d0 a0 c0 x0 _ (hx0.kept (bthen hB (And.left ‹Below w97.heap.size w97 _ ∧ _›))) hn0).mono ?_); rintro e w100 ⟨a101, c102, rfl, ho103, hb99⟩; have hq := bcell hb99; obtain ⟨hqaw100, hqbw100⟩ := hq; have hqsw100 := hb99.size; (try simp only [World.size_alloc, World.size_drew] at hqsw100); (have hb99n : Below w97.heap.size w97 w100 := by (first | exact hb99 | exact bthen (below_alloc _) hb99 | exact bthen (below_drewN (Below.refl _ _) 1) hb99 | exact bthen (below_drewN (below_alloc _) 1) hb99)); (try (have hltw97w100 : w97.heap.size < w100.heap.size := by omega)); (have hlew97w100 : w97.heap.size ≤ w100.heap.size := by omega))) | (go_at_call 11; ((with_reducible refine (laws_toCard a1 c1 x1 _ (hx1.kept (bthen hB (And.left ‹Below w97.heap.size w97 _ ∧ _›))) hn1).mono ?_); rintro e w105 ⟨a106, c107, rfl, ho108, hb104⟩; have hq := bcell hb104; obtain ⟨hqaw105, hqbw105⟩ := hq; have hqsw105 := hb104.size; (try simp only [World.size_alloc, World.size_drew] at hqsw105); (have hb104n : Below w100.heap.size w100 w105 := by (first | exact hb104 | exact bthen (below_alloc _) hb104 | exact bthen (below_drewN (Below.refl _ _) 1) hb104 | exact bthen (below_drewN (below_alloc _) 1) hb104)); (try (have hltw97w105 : w97.heap.size < w105.heap.size := by omega)); (have hlew97w105 : w97.heap.size ≤ w105.heap.size := by omega); (try (have hltw100w105 : w100.heap.size < w105.heap.size := by omega)); (have hlew100w105 : w100.heap.size ≤ w105.heap.size := by omega))) | (go_at_call 12; ((with_reducible refine (impl_ChangeItem d0 a101 c102 x0 a106 c107 x1 s2 s3 _ (((((OT.of ho103).RT).kept hb104n).kept0 (by first | exact Below.refl _ _ | exact below_alloc _))) ((((OI.of ho108).RI).kept0 (by first | exact Below.refl _ _ | exact below_alloc _))) hn0 (OT.capm (OT.of ho103)).1 hn1 (OI.cap0 (OI.of ho108)) hn2 hn3 (pow_kept ht (bthen hB (And.left ‹Below w97.heap.size w97 _ ∧ _›))) (Errs.kept hE (bthen hB (And.left ‹Below w97.heap.size w97 _ ∧ _›)))).mono ?_); rintro e w110 ⟨a111, c112, rfl, ho113, hb109⟩; have hq := bcell hb109; obtain ⟨hqaw110, hqbw110⟩ := hq; have hqsw110 := hb109.size; (try simp only [World.size_alloc, World.size_drew] at hqsw110); (have hb109n : Below w105.heap.size w105 w110 := by (first | exact hb109 | exact bthen (below_alloc _) hb109 | exact bthen (below_drewN (Below.refl _ _) 1) hb109 | exact bthen (below_drewN (below_alloc _) 1) hb109)); (try (have hltw97w110 : w97.heap.size < w110.heap.size := by omega)); (have hlew97w110 : w97.heap.size ≤ w110.heap.size := by omega); (try (have hltw100w110 : w100.heap.size < w110.heap.size := by omega)); (have hlew100w110 : w100.heap.size ≤ w110.heap.size := by omega); (try (have hltw105w110 : w105.heap.size < w110.heap.size := by omega)); (have hlew105w110 : w105.heap.size ≤ w110.heap.size := by omega))))
    all_goals
      go_wp2_with fail
      go_meet
      rename Below w97.heap.size w97 _ ∧ _ => hH
      refine ⟨_, a111, c112, rfl, rfl, by simp [go_sem, *], ?_, by first | exact Nat.le_refl _ | omega | (simp only [World.size_alloc]; omega), fun p hp => by (have hq := own_at ho113 hp; first | omega | (simp only [World.size_alloc] at *; omega)), hH.1⟩
      first | (refine cut_alloc ho113 _ ?_; first | omega | (simp only [World.size_alloc]; omega)) | (refine cut_set ho113 _ ?_ ?_ <;> first | omega | (simp only [World.size_alloc]; omega))
  obtain ⟨b116, a117, c118, rfl, rfl, hc121_0, ho119, hc121_ge, hc121_ne, hb120⟩ := hcut
  rename World => w115
  obtain ⟨lo122, hi123, hc121_lo, hc121_hi, ho119, hc121_ap⟩ := ho119.tight hc121_ne
  replace hc3_0 := (keep hb120 hc3_0)
  replace hc3_1 := (keep hb120 hc3_1)
  replace hc4_0 := (keep hb120 hc4_0)
  replace hc31_0 := (keep hb120 hc31_0)
  replace hc46_0 := (keep hb120 hc46_0)
  replace hc46_1 := (keep hb120 hc46_1)
  replace hc54_0 := (keep hb120 hc54_0)
  replace hc58_0 := (keep hb120 hc58_0)
  replace ho29 := (ho29.kept hb120)
  replace ho81 := (ho81.kept hb120)
  replace ho86 := (ho86.kept hb120)
  replace ho94 := (ho94.kept hb120)
  replace hB := (bthen hB hb120)
  have hs124 := hb120.size
  replace hc3_l : w.heap.size < w115.heap.size := World.block_lt_of_cell? _ _ hc3_0
  replace hc4_l : w.heap.size + 1 < w115.heap.size := World.block_lt_of_cell? _ _ hc4_0
  replace hc31_l : b26 < w115.heap.size := World.block_lt_of_cell? _ _ hc31_0
  replace hc46_l : w36.heap.size < w115.heap.size := World.block_lt_of_cell? _ _ hc46_0
  replace hc54_l : w42.heap.size < w115.heap.size := World.block_lt_of_cell? _ _ hc54_0
  replace hc58_l : w49.heap.size < w115.heap.size := World.block_lt_of_cell? _ _ hc58_0
  clear hb120
  have hc121_l : b116 < w115.heap.size := World.block_lt_of_cell? _ _ hc121_0
  have hc121_m := hc121_l
  have hl114 := chgL_len d0 x0 x1 s2 s3 hn1
  go_wp2_with fail
  refine (laws_eqCard_same a117 a27 c118 c28 (chgL d0 x0 x1 s2 s3) _ (ho119.RI) (ho29.RI) (small hl114)).mono ?_
  rintro e w126 ⟨rfl, hb125⟩
  replace hc3_0 := (keep hb125 hc3_0)
  replace hc3_1 := (keep hb125 hc3_1)
  replace hc4_0 := (keep hb125 hc4_0)
  replace hc31_0 := (keep hb125 hc31_0)
  replace hc46_0 := (keep hb125 hc46_0)
  replace hc46_1 := (keep hb125 hc46_1)
  replace hc54_0 := (keep hb125 hc54_0)
  replace hc58_0 := (keep hb125 hc58_0)
  replace hc121_0 := (keep hb125 hc121_0)
  replace ho29 := (ho29.kept hb125)
  replace ho81 := (ho81.kept hb125)
  replace ho86 := (ho86.kept hb125)
  replace ho94 := (ho94.kept hb125)
  replace ho119 := (ho119.kept hb125)
  replace hB := (bthen hB hb125)
  have hs127 := hb125.size
  replace hc3_l : w.heap.size < w126.heap.size := World.block_lt_of_cell? _ _ hc3_0
  replace hc4_l : w.heap.size + 1 < w126.heap.size := World.block_lt_of_cell? _ _ hc4_0
  replace hc31_l : b26 < w126.heap.size := World.block_lt_of_cell? _ _ hc31_0
  replace hc46_l : w36.heap.size < w126.heap.size := World.block_lt_of_cell? _ _ hc46_0
  replace hc54_l : w42.heap.size < w126.heap.size := World.block_lt_of_cell? _ _ hc54_0
  replace hc58_l : w49.heap.size < w126.heap.size := World.block_lt_of_cell? _ _ hc58_0
  replace hc121_l : b116 < w126.heap.size := World.block_lt_of_cell? _ _ hc121_0
  clear hb125
  go_wp2_with fail
  refine (laws_heldCard a50 c51 (chgL d0 x0 x1 s2 s3).length 1 _ (ho94.RI) (by omega) (by omega) hl53).mono ?_
  rintro e w129 ⟨rfl, hb128⟩
  replace hc3_0 := (keep hb128 hc3_0)
  replace hc3_1 := (keep hb128 hc3_1)
  replace hc4_0 := (keep hb128 hc4_0)
  replace hc31_0 := (keep hb128 hc31_0)
  replace hc46_0 := (keep hb128 hc46_0)
  replace hc46_1 := (keep hb128 hc46_1)
  replace hc54_0 := (keep hb128 hc54_0)
  replace hc58_0 := (keep hb128 hc58_0)
  replace hc121_0 := (keep hb128 hc121_0)
  replace ho29 := (ho29.kept hb128)
  replace ho81 := (ho81.kept hb128)
  replace ho86 := (ho86.kept hb128)
  replace ho94 := (ho94.kept hb128)
  replace ho119 := (ho119.kept hb128)
  replace hB := (bthen hB hb128)
  have hs130 := hb128.size
  replace hc3_l : w.heap.size < w129.heap.size := World.block_lt_of_cell? _ _ hc3_0
  replace hc4_l : w.heap.size + 1 < w129.heap.size := World.block_lt_of_cell? _ _ hc4_0
  replace hc31_l : b26 < w129.heap.size := World.block_lt_of_cell? _ _ hc31_0
  replace hc46_l : w36.heap.size < w129.heap.size := World.block_lt_of_cell? _ _ hc46_0
  replace hc54_l : w42.heap.size < w129.heap.size := World.block_lt_of_cell? _ _ hc54_0
  replace hc58_l : w49.heap.size < w129.heap.size := World.block_lt_of_cell? _ _ hc58_0
  replace hc121_l : b116 < w129.heap.size := World.block_lt_of_cell? _ _ hc121_0
  clear hb128
  go_wp2_with fail
  go_ret
  exact ⟨rfl, hB⟩

/-- What the walk gives, for every argument and every world that holds the tables. -/
theorem contract (H : Type) (enc : TypeId × Value → H) (W : World) (base : Nat) (args : Array Value) (ds gs : List (DataW H)) (before : List MemPlace)
    (hval0 : ∀ (j : Nat) t v, Tryz.f3.params[j]? = some t → args[j]? = some v → Value.okWide Tryz.prog W .any base t v)
    (hW : DataW.Whole enc Tryz.prog Tryz.f3.params.toList Rows.fnExactChangeItemSpec.vars false W args.toList ds gs before) (hL : laidMetH Tryz.prog Rows.fnExactChangeItemRow.laid W) (hS : W.ShapedOpen Tryz.prog) :
    Calls Tryz.prog 3 args W fun e W' => ∃ v, e = .returned v ∧ Rows.fnExactChangeItemSpec.post enc Tryz.prog Tryz.f3 false true false false W args v W' := by
  have hval : ∀ (j : Nat) t v, Tryz.f3.params[j]? = some t → args[j]? = some v → Value.okWide Tryz.prog W .any base t v := hval0
  have hW' := hW
  obtain ⟨p, q, hA0, hV, rfl, hfz, hnd⟩ := hW
  have hA : DataW.TrodAll enc Tryz.prog W 0 (fun _ => true) true Tryz.f3.params.toList args.toList ds p := hA0
  rw [Tryz.params3] at hA hval
  obtain ⟨v0, vs0, d0, ds0, p0, q0, hargs, rfl, rfl, h0, r0⟩ := trodAll_cons hA
  obtain ⟨v1, vs1, d1, ds1, p1, q1, rfl, rfl, rfl, h1, r1⟩ := trodAll_cons r0
  obtain ⟨v2, vs2, d2, ds2, p2, q2, rfl, rfl, rfl, h2, r2⟩ := trodAll_cons r1
  obtain ⟨v3, vs3, d3, ds3, p3, q3, rfl, rfl, rfl, h3, r3⟩ := trodAll_cons r2
  obtain ⟨rfl, rfl, rfl⟩ := trodAll_nil r3
  obtain rfl : args = #[v0, v1, v2, v3] := by cases args; simp_all
  obtain ⟨rfl, rfl⟩ := trodVars_none hV
  have k0 := h0
  have lt0 : ∀ x ∈ p0, x.block < W.heap.size := by obtain ⟨m, hm⟩ := k0; exact DataW.trod_lt m _ _ _ hm
  obtain ⟨d0, a0, c0, x0, rfl, hx0, hm0⟩ := open_layout Tryz.underlying24 rfl rfl rfl rfl Tryz.underlying22 Tryz.underlying153 rfl rfl rfl rfl rfl rfl Tryz.underlying151 rfl rfl rfl rfl Tryz.underlying9 Tryz.underlying2 (by kernel_rfl) (by kernel_rfl) (by kernel_rfl) (by kernel_rfl) (by kernel_rfl) (by kernel_rfl) (hval 0 24 v0 rfl rfl) h0
  have k1 := h1
  have lt1 : ∀ x ∈ p1, x.block < W.heap.size := by obtain ⟨m, hm⟩ := k1; exact DataW.trod_lt m _ _ _ hm
  obtain ⟨a1, c1, x1, rfl, hx1, hm1⟩ := open_card Tryz.underlying27 rfl rfl Tryz.underlying25 Tryz.underlying2 (by kernel_rfl) (by kernel_rfl) (by kernel_rfl) (hval 1 27 v1 rfl rfl) h1
  obtain ⟨s2, rfl, rfl, rfl, z2⟩ := open_string Tryz.underlying9 (hval 2 9 v2 rfl rfl) h2
  obtain ⟨s3, rfl, rfl, rfl, z3⟩ := open_string Tryz.underlying9 (hval 3 9 v3 rfl rfl) h3
  clear hA0 hval0
  refine (walk d0 a0 c0 x0 a1 c1 x1 s2 s3 W hx0 hm0 hx1 hm1 z2 z3 (pow10_of (l := Rows.fnExactChangeItemRow.laid) hL (by simp [Rows.fnExactChangeItemRow])) (errs_of (l := Rows.fnExactChangeItemRow.laid) hL (by simp [Rows.fnExactChangeItemRow]) (by simp [Rows.fnExactChangeItemRow]))).mono fun e W' ⟨he, bel⟩ => ?_
  subst he
  exact ⟨_, rfl, _, _, _, [], _, [], hW', trodAll_mk1 (shut_bool Tryz.underlying4 _), (trodAll_cons_mk (Below.trod laidOut (by kernel_rfl) (of_decide_eq_true (by kernel_rfl)) k0 bel lt0) (trodAll_cons_mk (Below.trod laidOut (by kernel_rfl) (of_decide_eq_true (by kernel_rfl)) k1 bel lt1) (trodAll_cons_mk (shut_string Tryz.underlying9 z2) (trodAll_cons_mk (shut_string Tryz.underlying9 z3) trodAll_mk0)))), rfl, bel.frame _, fun h => by cases h⟩

/-- A world for the witness: the settled one, the listed tables laid. -/
noncomputable def laidWorld (os : Os) : World := World.doorLaid Tryz.prog 77 os
theorem laid_met (os : Os) : laidMet Tryz.prog Rows.fnExactChangeItemRow.laid ((laidWorld os).forCall (fun _ _ => 0) ⟨#[], #[.agg #[.int .i64 0, .slice none 0 0], .agg #[.slice none 0 0], .string ByteArray.empty, .string ByteArray.empty], []⟩).memory :=
  laidMet_of_run' 8 (by kernel_rfl) (by kernel_rfl)
theorem reads (os : Os) {H : Type} (enc : TypeId × Value → H) : ∃ x : List (DataW H) × List (DataW H) × List MemPlace, DataW.whole enc Tryz.prog ((laidWorld os).forCall (fun _ _ => 0) ⟨#[], #[.agg #[.int .i64 0, .slice none 0 0], .agg #[.slice none 0 0], .string ByteArray.empty, .string ByteArray.empty], []⟩).memory Tryz.f3.params.toList Rows.fnExactChangeItemSpec.vars false #[.agg #[.int .i64 0, .slice none 0 0], .agg #[.slice none 0 0], .string ByteArray.empty, .string ByteArray.empty].toList 8 = some x :=
  Option.isSome_iff_exists.1 (by kernel_rfl)

set_option maxRecDepth 100000 in
theorem lifted (os : Os) (started : os.Started) (H : Type) (enc : TypeId × Value → H) (F : Stop.Interp) :
    ReturnsInHanded {} Tryz.checked os 3 .any ((OpenSpec.ofChange Rows.fnExactChangeItemSpec).preRow enc Tryz.prog Tryz.f3 Rows.fnExactChangeItemRow.domain false Rows.fnExactChangeItemRow.laid) (((OpenSpec.ofChange Rows.fnExactChangeItemSpec).at F).post enc Tryz.prog Tryz.f3 false true false false) := by
  obtain ⟨x, hx⟩ := reads os enc
  refine returnsInHanded_of_row (C := Tryz.checked) (s := OpenSpec.ofChange Rows.fnExactChangeItemSpec) own started (by kernel_rfl) Tryz.func3
    (witness_row_atRef (enc := enc) (C := Tryz.checked) false (laidWorld os) #[.agg #[.int .i64 0, .slice none 0 0], .agg #[.slice none 0 0], .string ByteArray.empty, .string ByteArray.empty] rfl (by kernel_rfl) (by kernel_rfl) (by kernel_rfl)
      (OpenSpec.preRow_of_cond 8 hx (by kernel_rfl) (fun k hk => by cases hk) (by kernel_rfl) (laid_met os))) ?_
  intro W base args ds gs before hval hW _ _ _ hL hS _
  exact contract H enc W base args ds gs before hval hW hL hS

theorem said : Rows.FnExactChangeItemSaid :=
  OpenClaim.holds_of_cond 3 Tryz.f3 rfl rfl rfl rfl rfl rfl rfl ⟨rfl, rfl, rfl, rfl, rfl⟩ rfl rfl rfl rfl rfl (by kernel_rfl) Tryz.func3 (by kernel_rfl)
    (of_decide_eq_true (by kernel_rfl)) (by unfold Func.isWrapper; first | (rw [if_pos (by decide +kernel)]; kernel_rfl) | (rw [if_neg (by decide +kernel)]; exact ⟨rfl, rfl⟩))
    (fun os started H enc _ F => by rw [OpenClaim.pre_eq_preRow]; exact lifted os started H enc F)

theorem noStand : (Tryz.f3.params.toList.all fun t => !Tryz.prog.wantsStandIn t) = true := by kernel_rfl
/-- No parameter wants a stand-in; the program's own looks are off. -/
theorem plain (g : FuncId) (fn : Func) (hf : Tryz.pinned.checked.prog.funcNamed "loop.example/g01012/laws.FnExactChangeItem" = some g) (hfn : Tryz.pinned.checked.prog.funcs[g]? = some fn) :
    true = Tryz.pinned.checked.prog.looks [] ∧ ∀ (j : Nat) t, fn.params[j]? = some t → Tryz.pinned.checked.prog.wantsStandIn t = false := by
  obtain rfl : g = 3 := Option.some.inj ((show Tryz.prog.funcNamed "loop.example/g01012/laws.FnExactChangeItem" = some 3 by kernel_rfl).symm.trans hf) |>.symm
  obtain rfl : fn = Tryz.f3 := (Option.some.inj (Tryz.func3.symm.trans hfn)).symm
  refine ⟨by kernel_rfl, fun j t ht => ?_⟩
  have h1 := List.all_eq_true.1 noStand t (by have := Array.mem_of_getElem? ht; simpa using this)
  have h2 : Tryz.prog.wantsStandIn t = false := by simpa using h1
  exact h2

/-- The card. -/
theorem proved : Rows.FnExactChangeItemCardSaid :=
  Claim7.holds_tied_plain_at .later [] _ _ _ _ said (fun _ h => by cases h) (by kernel_rfl) (fun _ h => by cases h) fnExactChangeItem_row_tie rfl ⟨rfl, rfl⟩ (by kernel_rfl) rfl plain (by kernel_rfl)
#print axioms proved
end Go.Proofs.YtcbjfgjlhjjpiaaGreatDoor.fnExactChangeItem
