/- FnExactRecordOf: for all arguments the law returns true, and memory that was there is as it was. No condition. -/
import Derived.Test.YtoeohebobmkobaaGreatDoorRows
import Derived.Test.YtoeohebobmkobaaGreatDoorCards
import Derived.Test.YtoeohebobmkobaaGreatDoorTie
import Derived.Deep.DeepHandedRow
import Derived.Lib.LaidTab
import Derived.Stop.LaidErr
import Derived.OpenVars
import Derived.Test.YtoeohebobmkobaaGreatDoorTabs
import Derived.Test.YtoeohebobmkobaaGreatDoorOpen
import Derived.Deep.RegionHeld3
import Derived.Deep.CutRange
import Derived.ShutString
import Derived.Test.YtoeohebobmkobaaGreatDoorMark
import Derived.Test.YtoeohebobmkobaaGreatDoorMarkT
import Derived.Test.YtoeohebobmkobaaGreatDoorRec
namespace Go.Proofs.YtoeohebobmkobaaGreatDoor.fnExactRecordOf
open Go.ChangeShapes Go.WideShapes Go.ChangeAt Go.RowKit
open Go.ChangeMaps (open_string shut_string)
set_option linter.unusedVariables false
set_option linter.unusedSimpArgs false
set_option linter.unnecessarySimpa false
set_option maxRecDepth 100000

theorem own : ownKnob Tryz.prog.godebug = none := by kernel_rfl
theorem laidOut : laidOutB Tryz.prog = true := by kernel_rfl

set_option maxHeartbeats 4000000 in
/-- The Go text returns true; memory has at most new blocks. -/
theorem walk (d0 : Int) (a0 : Option Addr) (c0 : Nat) (x0 : List Itm) (a1 : Option Addr) (c1 : Nat) (x1 : List Int) (w : World) (hx0 : RT w a0 x0) (hm0 : x0.length ≤ maxLen ∧ ∀ y ∈ x0, y.name.size ≤ maxLen) (hx1 : RI w a1 x1) (hm1 : x1.length ≤ maxLen) (ht : Pow10 w) :
    Calls Tryz.prog 4 #[.agg #[.int .i64 d0, .slice a0 x0.length c0], .agg #[.slice a1 x1.length c1]] w fun e w' => e = .returned (.bool true) ∧ Below w.heap.size w w' := by
  have hsl0 := itemsSz_len x0
  go_enter Tryz.func4, Tryz.ntmps4
  by_cases hz1 : 1048576 < (itemsSz x0 : Int)
  · go_wp2_with fail
    refine (laws_szLayout_over d0 a0 c0 x0 (1048576) _ (hx0.kept (below_alloc2 _ _ _)) (by omega) (by omega) hm0 hz1).mono ?_
    rintro e wz ⟨rfl, hz⟩
    go_wp2_with fail
    go_ret
    exact ⟨rfl, bthen (below_alloc2 _ _ _) hz⟩
  go_wp2_with fail
  refine (laws_szLayout_ok d0 a0 c0 x0 (1048576) _ (hx0.kept (below_alloc2 _ _ _)) (by omega) (by omega) hm0 (by omega)).mono ?_
  rintro e w1 ⟨rfl, hb2⟩
  have hc3_0 : w1.cell? ⟨w.heap.size, 0, none⟩ = some (.int .i64 d0) := (keep hb2 (by simp [go_sem]))
  have hc3_1 : w1.cell? ⟨w.heap.size, 1, none⟩ = some (.slice a0 x0.length c0) := (keep hb2 (by simp [go_sem]))
  have hc4_0 : w1.cell? ⟨w.heap.size + 1, 0, none⟩ = some (.slice a1 x1.length c1) := (keep hb2 (by simp [go_sem]))
  have hB := (bthen (below_alloc2 _ _ _) hb2)
  have hs5 := hb2.size
  simp only [World.size_alloc] at hs5
  have hc3_l : w.heap.size < w1.heap.size := World.block_lt_of_cell? _ _ hc3_0
  have hc4_l : w.heap.size + 1 < w1.heap.size := World.block_lt_of_cell? _ _ hc4_0
  clear hb2
  have hn0 : itemsSz x0 ≤ 1048576 := by omega
  by_cases hz2 : (1048576 - (itemsSz x0 : Int)) < (x1.length : Int)
  · go_wp2_with fail
    refine (laws_szCard_over a1 c1 x1 ((1048576 - (itemsSz x0 : Int))) _ (hx1.kept hB) (by omega) (by omega) hm1 hz2).mono ?_
    rintro e wz ⟨rfl, hz⟩
    go_wp2_with fail
    go_ret
    exact ⟨rfl, bthen hB hz⟩
  go_wp2_with fail
  refine (laws_szCard_ok a1 c1 x1 ((1048576 - (itemsSz x0 : Int))) _ (hx1.kept hB) (by omega) (by omega) hm1 (by omega)).mono ?_
  rintro e w6 ⟨rfl, hb7⟩
  replace hc3_0 := (keep hb7 hc3_0)
  replace hc3_1 := (keep hb7 hc3_1)
  replace hc4_0 := (keep hb7 hc4_0)
  replace hB := (bthen hB hb7)
  have hs8 := hb7.size
  replace hc3_l : w.heap.size < w6.heap.size := World.block_lt_of_cell? _ _ hc3_0
  replace hc4_l : w.heap.size + 1 < w6.heap.size := World.block_lt_of_cell? _ _ hc4_0
  clear hb7
  have hn1 : x1.length ≤ 1048576 := by omega
  go_wp2_with fail
  go_region_held3 (fun W => Below w6.heap.size w6 W ∧ W.cell? ⟨w.heap.size, 0, none⟩ = some (.int .i64 d0) ∧ W.cell? ⟨w.heap.size, 1, none⟩ = some (.slice a0 x0.length c0) ∧ W.cell? ⟨w.heap.size + 1, 0, none⟩ = some (.slice a1 x1.length c1)) (first | exact held3 (below_drewN (Below.refl _ _) 1) hc3_0 hc3_1 hc4_0 | (rename Below w6.heap.size w6 _ ∧ _ => hH; refine held3 ?_ hc3_0 hc3_1 hc4_0; (refine bthen hH.1 ?_; assumption))) (first | (go_at_call 10; ((with_reducible refine (laws_toLayout d0 a0 c0 x0 _ (hx0.kept (bthen hB (And.left ‹Below w6.heap.size w6 _ ∧ _›))) hn0).mono ?_); rintro e w10 ⟨a11, c12, rfl, ho13, hb9⟩)) | (go_at_call 17; ((with_reducible refine (laws_toCard a1 c1 x1 _ (hx1.kept (bthen hB (And.left ‹Below w6.heap.size w6 _ ∧ _›))) hn1).mono ?_); rintro e w15 ⟨a16, c17, rfl, ho18, hb14⟩)) | (go_at_call 16; ((with_reducible refine (spec_RecordOf d0 a11 c12 x0 a16 c17 x1 _ ((((OT.of ho13).RT).kept hb14)) (((OI.of ho18).RI)) hn0 (OT.capm (OT.of ho13)).1 hn1 (OI.cap0 (OI.of ho18)) ).mono ?_); rintro e w20 ⟨a21, c22, rfl, ho23, hb19⟩)))
  replace hc3_0 := (keep hb19 (keep hb14 (keep hb9 (keep (below_drewN (Below.refl _ _) 1) hc3_0))))
  replace hc3_1 := (keep hb19 (keep hb14 (keep hb9 (keep (below_drewN (Below.refl _ _) 1) hc3_1))))
  replace hc4_0 := (keep hb19 (keep hb14 (keep hb9 (keep (below_drewN (Below.refl _ _) 1) hc4_0))))
  replace hB := (bthen (bthen (bthen (bthen hB (below_drewN (Below.refl _ _) 1)) hb9) hb14) hb19)
  have hs25 := hb9.size
  simp only [World.size_drew] at hs25
  have hs26 := hb14.size
  have hs27 := hb19.size
  replace hc3_l : w.heap.size < w20.heap.size := World.block_lt_of_cell? _ _ hc3_0
  replace hc4_l : w.heap.size + 1 < w20.heap.size := World.block_lt_of_cell? _ _ hc4_0
  clear ho13
  clear ho18
  replace ho23 := (OS.of (own_mono (B := w15.heap.size) ho23 (by first | exact Nat.le_refl _ | simp)))
  have hl24 := recR_len d0 x0 x1 hn0
  clear hb9 hb14 hb19
  go_wp2_with fail
  refine (laws_toLayout d0 a0 c0 x0 _ (hx0.kept hB) hn0).mono ?_
  rintro e w29 ⟨a30, c31, rfl, ho32, hb28⟩
  replace hc3_0 := (keep hb28 hc3_0)
  replace hc3_1 := (keep hb28 hc3_1)
  replace hc4_0 := (keep hb28 hc4_0)
  replace ho23 := (ho23.kept hb28)
  replace hB := (bthen hB hb28)
  have hs33 := hb28.size
  replace hc3_l : w.heap.size < w29.heap.size := World.block_lt_of_cell? _ _ hc3_0
  replace hc4_l : w.heap.size + 1 < w29.heap.size := World.block_lt_of_cell? _ _ hc4_0
  clear hb28
  replace ho32 := OT.of (own_mono (B := w20.heap.size) ho32 (by first | exact Nat.le_refl _ | simp))
  go_wp2_with fail
  refine (laws_toCard a1 c1 x1 _ (hx1.kept (bthen hB (below_alloc _))) hn1).mono ?_
  rintro e w35 ⟨a36, c37, rfl, ho38, hb34⟩
  replace hc3_0 := (keep hb34 (keep (below_alloc _) hc3_0))
  replace hc3_1 := (keep hb34 (keep (below_alloc _) hc3_1))
  replace hc4_0 := (keep hb34 (keep (below_alloc _) hc4_0))
  have hc39_0 : w35.cell? ⟨w29.heap.size, 0, none⟩ = some (.int .i64 d0) := (keep hb34 (by simp [go_sem]))
  have hc39_1 : w35.cell? ⟨w29.heap.size, 1, none⟩ = some (.slice a30 x0.length c31) := (keep hb34 (by simp [go_sem]))
  replace ho23 := ((ho23.kept (below_alloc _)).kept hb34)
  replace ho32 := ((ho32.kept (below_alloc _)).kept hb34)
  replace hB := (bthen (bthen hB (below_alloc _)) hb34)
  have hs40 := hb34.size
  simp only [World.size_alloc] at hs40
  replace hc3_l : w.heap.size < w35.heap.size := World.block_lt_of_cell? _ _ hc3_0
  replace hc4_l : w.heap.size + 1 < w35.heap.size := World.block_lt_of_cell? _ _ hc4_0
  have hc39_l : w29.heap.size < w35.heap.size := World.block_lt_of_cell? _ _ hc39_0
  clear hb34
  replace ho38 := OI.of (own_mono (B := w29.heap.size + 1) ho38 (by first | exact Nat.le_refl _ | simp))
  go_wp2_with fail
  refine (impl_RecordOf d0 a30 c31 x0 a36 c37 x1 _ ((ho32.RT).kept (below_alloc _)) ((ho38.RI).kept (below_alloc _)) hn0 (OT.capm ho32).1 hn1 (OI.cap0 ho38) (pow_kept ht (bthen hB (below_alloc _)))).mono ?_
  rintro e w42 ⟨a43, c44, rfl, ho45, hb41⟩
  replace hc3_0 := (keep hb41 (keep (below_alloc _) hc3_0))
  replace hc3_1 := (keep hb41 (keep (below_alloc _) hc3_1))
  replace hc4_0 := (keep hb41 (keep (below_alloc _) hc4_0))
  replace hc39_0 := (keep hb41 (keep (below_alloc _) hc39_0))
  replace hc39_1 := (keep hb41 (keep (below_alloc _) hc39_1))
  have hc47_0 : w42.cell? ⟨w35.heap.size, 0, none⟩ = some (.slice a36 x1.length c37) := (keep hb41 (by simp [go_sem]))
  replace ho23 := ((ho23.kept (below_alloc _)).kept hb41)
  replace ho32 := ((ho32.kept (below_alloc _)).kept hb41)
  replace ho38 := ((ho38.kept (below_alloc _)).kept hb41)
  replace hB := (bthen (bthen hB (below_alloc _)) hb41)
  have hs48 := hb41.size
  simp only [World.size_alloc] at hs48
  replace hc3_l : w.heap.size < w42.heap.size := World.block_lt_of_cell? _ _ hc3_0
  replace hc4_l : w.heap.size + 1 < w42.heap.size := World.block_lt_of_cell? _ _ hc4_0
  replace hc39_l : w29.heap.size < w42.heap.size := World.block_lt_of_cell? _ _ hc39_0
  have hc47_l : w35.heap.size < w42.heap.size := World.block_lt_of_cell? _ _ hc47_0
  clear hb41
  replace ho45 := OS.of (own_mono (B := w35.heap.size + 1) ho45 (by first | exact Nat.le_refl _ | simp))
  have hl46 := recR_len d0 x0 x1 hn0
  go_wp2_with fail
  refine (laws_eqStringS_same a43 a21 c44 c22 (recR d0 x0 x1) _ (ho45.RS) (ho23.RS) (small hl46)).mono ?_
  rintro e w50 ⟨rfl, hb49⟩
  replace hc3_0 := (keep hb49 hc3_0)
  replace hc3_1 := (keep hb49 hc3_1)
  replace hc4_0 := (keep hb49 hc4_0)
  replace hc39_0 := (keep hb49 hc39_0)
  replace hc39_1 := (keep hb49 hc39_1)
  replace hc47_0 := (keep hb49 hc47_0)
  replace ho23 := (ho23.kept hb49)
  replace ho32 := (ho32.kept hb49)
  replace ho38 := (ho38.kept hb49)
  replace ho45 := (ho45.kept hb49)
  replace hB := (bthen hB hb49)
  have hs51 := hb49.size
  replace hc3_l : w.heap.size < w50.heap.size := World.block_lt_of_cell? _ _ hc3_0
  replace hc4_l : w.heap.size + 1 < w50.heap.size := World.block_lt_of_cell? _ _ hc4_0
  replace hc39_l : w29.heap.size < w50.heap.size := World.block_lt_of_cell? _ _ hc39_0
  replace hc47_l : w35.heap.size < w50.heap.size := World.block_lt_of_cell? _ _ hc47_0
  clear hb49
  go_wp2_with fail
  go_region_held3 (fun W => Below w50.heap.size w50 W ∧ W.cell? ⟨w29.heap.size, 0, none⟩ = some (.int .i64 d0) ∧ W.cell? ⟨w29.heap.size, 1, none⟩ = some (.slice a30 x0.length c31) ∧ W.cell? ⟨w.heap.size, 0, none⟩ = some (.int .i64 d0) ∧ W.cell? ⟨w.heap.size, 1, none⟩ = some (.slice a0 x0.length c0)) (first | exact held4 (below_drewN (Below.refl _ _) 1) hc39_0 hc39_1 hc3_0 hc3_1 | (rename Below w50.heap.size w50 _ ∧ _ => hH; refine held4 ?_ hc39_0 hc39_1 hc3_0 hc3_1; (refine bthen hH.1 ?_; assumption))) (first | (go_at_call 10; ((with_reducible refine (laws_toLayout d0 a0 c0 x0 _ (hx0.kept (bthen hB (And.left ‹Below w50.heap.size w50 _ ∧ _›))) hn0).mono ?_); rintro e w53 ⟨a54, c55, rfl, ho56, hb52⟩)) | (go_at_call 13; ((with_reducible refine (laws_eqLayout_same d0 a30 a54 c31 c55 x0 _ ((ho32.RT).kept (And.left ‹Below w50.heap.size w50 _ ∧ _›)) (((OT.of ho56).RT)) hn0).mono ?_); rintro e w58 ⟨rfl, hb57⟩)))
  replace hc3_0 := (keep hb57 (keep hb52 (keep (below_drewN (Below.refl _ _) 1) hc3_0)))
  replace hc3_1 := (keep hb57 (keep hb52 (keep (below_drewN (Below.refl _ _) 1) hc3_1)))
  replace hc4_0 := (keep hb57 (keep hb52 (keep (below_drewN (Below.refl _ _) 1) hc4_0)))
  replace hc39_0 := (keep hb57 (keep hb52 (keep (below_drewN (Below.refl _ _) 1) hc39_0)))
  replace hc39_1 := (keep hb57 (keep hb52 (keep (below_drewN (Below.refl _ _) 1) hc39_1)))
  replace hc47_0 := (keep hb57 (keep hb52 (keep (below_drewN (Below.refl _ _) 1) hc47_0)))
  replace ho23 := (((ho23.kept (below_drewN (Below.refl _ _) 1)).kept hb52).kept hb57)
  replace ho32 := (((ho32.kept (below_drewN (Below.refl _ _) 1)).kept hb52).kept hb57)
  replace ho38 := (((ho38.kept (below_drewN (Below.refl _ _) 1)).kept hb52).kept hb57)
  replace ho45 := (((ho45.kept (below_drewN (Below.refl _ _) 1)).kept hb52).kept hb57)
  replace hB := (bthen (bthen (bthen hB (below_drewN (Below.refl _ _) 1)) hb52) hb57)
  have hs59 := hb52.size
  simp only [World.size_drew] at hs59
  have hs60 := hb57.size
  replace hc3_l : w.heap.size < w58.heap.size := World.block_lt_of_cell? _ _ hc3_0
  replace hc4_l : w.heap.size + 1 < w58.heap.size := World.block_lt_of_cell? _ _ hc4_0
  replace hc39_l : w29.heap.size < w58.heap.size := World.block_lt_of_cell? _ _ hc39_0
  replace hc47_l : w35.heap.size < w58.heap.size := World.block_lt_of_cell? _ _ hc47_0
  clear ho56
  clear hb52 hb57
  go_wp2_with fail
  go_region_held3 (fun W => Below w58.heap.size w58 W ∧ W.cell? ⟨w35.heap.size, 0, none⟩ = some (.slice a36 x1.length c37) ∧ W.cell? ⟨w.heap.size + 1, 0, none⟩ = some (.slice a1 x1.length c1)) (first | exact held2 (below_drewN (Below.refl _ _) 1) hc47_0 hc4_0 | (rename Below w58.heap.size w58 _ ∧ _ => hH; refine held2 ?_ hc47_0 hc4_0; (refine bthen hH.1 ?_; assumption))) (first | (go_at_call 17; ((with_reducible refine (laws_toCard a1 c1 x1 _ (hx1.kept (bthen hB (And.left ‹Below w58.heap.size w58 _ ∧ _›))) hn1).mono ?_); rintro e w62 ⟨a63, c64, rfl, ho65, hb61⟩)) | (go_at_call 20; ((with_reducible refine (laws_eqCard_same a36 a63 c37 c64 x1 _ ((ho38.RI).kept (And.left ‹Below w58.heap.size w58 _ ∧ _›)) (((OI.of ho65).RI)) (small hn1)).mono ?_); rintro e w67 ⟨rfl, hb66⟩)))
  replace hc3_0 := (keep hb66 (keep hb61 (keep (below_drewN (Below.refl _ _) 1) hc3_0)))
  replace hc3_1 := (keep hb66 (keep hb61 (keep (below_drewN (Below.refl _ _) 1) hc3_1)))
  replace hc4_0 := (keep hb66 (keep hb61 (keep (below_drewN (Below.refl _ _) 1) hc4_0)))
  replace hc39_0 := (keep hb66 (keep hb61 (keep (below_drewN (Below.refl _ _) 1) hc39_0)))
  replace hc39_1 := (keep hb66 (keep hb61 (keep (below_drewN (Below.refl _ _) 1) hc39_1)))
  replace hc47_0 := (keep hb66 (keep hb61 (keep (below_drewN (Below.refl _ _) 1) hc47_0)))
  replace ho23 := (((ho23.kept (below_drewN (Below.refl _ _) 1)).kept hb61).kept hb66)
  replace ho32 := (((ho32.kept (below_drewN (Below.refl _ _) 1)).kept hb61).kept hb66)
  replace ho38 := (((ho38.kept (below_drewN (Below.refl _ _) 1)).kept hb61).kept hb66)
  replace ho45 := (((ho45.kept (below_drewN (Below.refl _ _) 1)).kept hb61).kept hb66)
  replace hB := (bthen (bthen (bthen hB (below_drewN (Below.refl _ _) 1)) hb61) hb66)
  have hs68 := hb61.size
  simp only [World.size_drew] at hs68
  have hs69 := hb66.size
  replace hc3_l : w.heap.size < w67.heap.size := World.block_lt_of_cell? _ _ hc3_0
  replace hc4_l : w.heap.size + 1 < w67.heap.size := World.block_lt_of_cell? _ _ hc4_0
  replace hc39_l : w29.heap.size < w67.heap.size := World.block_lt_of_cell? _ _ hc39_0
  replace hc47_l : w35.heap.size < w67.heap.size := World.block_lt_of_cell? _ _ hc47_0
  clear ho65
  clear hb61 hb66
  go_wp2_with fail
  refine (laws_markLayout (w20.heap.size) (w29.heap.size) d0 a30 c31 x0 1 _ ho32 (by omega) (by omega) hn0 (by first | omega | (simp only [World.size_alloc]; omega))).mono ?_
  rintro e w71 ⟨rfl, hw72, ho73⟩
  replace hc3_0 := hw72.cell hc3_0 (by dsimp only; omega)
  replace hc3_1 := hw72.cell hc3_1 (by dsimp only; omega)
  replace hc4_0 := hw72.cell hc4_0 (by dsimp only; omega)
  replace hc39_0 := hw72.cell hc39_0 (by dsimp only; omega)
  replace hc39_1 := hw72.cell hc39_1 (by dsimp only; omega)
  replace hc47_0 := hw72.cell hc47_0 (by dsimp only; omega)
  replace ho23 := ho23.within hw72 (by omega)
  replace ho38 := ho38.within hw72 (by omega)
  replace ho45 := ho45.within hw72 (by omega)
  replace hB := hw72.below hB (by omega) (by first | omega | (simp only [World.size_alloc]; omega))
  have hs74 := hw72.size
  replace hc3_l : w.heap.size < w71.heap.size := World.block_lt_of_cell? _ _ hc3_0
  replace hc4_l : w.heap.size + 1 < w71.heap.size := World.block_lt_of_cell? _ _ hc4_0
  replace hc39_l : w29.heap.size < w71.heap.size := World.block_lt_of_cell? _ _ hc39_0
  replace hc47_l : w35.heap.size < w71.heap.size := World.block_lt_of_cell? _ _ hc47_0
  clear hw72
  clear ho32
  go_wp2_with fail
  refine (laws_markCard (w29.heap.size + 1) (w35.heap.size) a36 c37 x1 (1 + (x0.length * 4 : Int)) _ ho38 (by omega) (by omega) hn1 (by first | omega | (simp only [World.size_alloc]; omega))).mono ?_
  rintro e w76 ⟨rfl, hw77, ho78⟩
  replace hc3_0 := hw77.cell hc3_0 (by dsimp only; omega)
  replace hc3_1 := hw77.cell hc3_1 (by dsimp only; omega)
  replace hc4_0 := hw77.cell hc4_0 (by dsimp only; omega)
  replace hc39_0 := hw77.cell hc39_0 (by dsimp only; omega)
  replace hc39_1 := hw77.cell hc39_1 (by dsimp only; omega)
  replace hc47_0 := hw77.cell hc47_0 (by dsimp only; omega)
  replace ho23 := ho23.within hw77 (by omega)
  replace ho73 := ho73.within hw77 (by omega)
  replace ho45 := ho45.within hw77 (by omega)
  replace hB := hw77.below hB (by omega) (by first | omega | (simp only [World.size_alloc]; omega))
  have hs79 := hw77.size
  replace hc3_l : w.heap.size < w76.heap.size := World.block_lt_of_cell? _ _ hc3_0
  replace hc4_l : w.heap.size + 1 < w76.heap.size := World.block_lt_of_cell? _ _ hc4_0
  replace hc39_l : w29.heap.size < w76.heap.size := World.block_lt_of_cell? _ _ hc39_0
  replace hc47_l : w35.heap.size < w76.heap.size := World.block_lt_of_cell? _ _ hc47_0
  clear hw77
  clear ho38
  go_wp2_with fail
  refine (laws_eqStringS_same a43 a21 c44 c22 (recR d0 x0 x1) _ (ho45.RS) (ho23.RS) (small hl46)).mono ?_
  rintro e w81 ⟨rfl, hb80⟩
  replace hc3_0 := (keep hb80 hc3_0)
  replace hc3_1 := (keep hb80 hc3_1)
  replace hc4_0 := (keep hb80 hc4_0)
  replace hc39_0 := (keep hb80 hc39_0)
  replace hc39_1 := (keep hb80 hc39_1)
  replace hc47_0 := (keep hb80 hc47_0)
  replace ho23 := (ho23.kept hb80)
  replace ho73 := (ho73.kept hb80)
  replace ho78 := (ho78.kept hb80)
  replace ho45 := (ho45.kept hb80)
  replace hB := (bthen hB hb80)
  have hs82 := hb80.size
  replace hc3_l : w.heap.size < w81.heap.size := World.block_lt_of_cell? _ _ hc3_0
  replace hc4_l : w.heap.size + 1 < w81.heap.size := World.block_lt_of_cell? _ _ hc4_0
  replace hc39_l : w29.heap.size < w81.heap.size := World.block_lt_of_cell? _ _ hc39_0
  replace hc47_l : w35.heap.size < w81.heap.size := World.block_lt_of_cell? _ _ hc47_0
  clear hb80
  go_wp2_with fail
  refine (laws_markStringS (w35.heap.size + 1) (w42.heap.size) a43 c44 (recR d0 x0 x1) 1 _ ho45 (by omega) (by omega) hl46 (by first | omega | (simp only [World.size_alloc]; omega))).mono ?_
  rintro e w84 ⟨rfl, hw85, ho86⟩
  replace hc3_0 := hw85.cell hc3_0 (by dsimp only; omega)
  replace hc3_1 := hw85.cell hc3_1 (by dsimp only; omega)
  replace hc4_0 := hw85.cell hc4_0 (by dsimp only; omega)
  replace hc39_0 := hw85.cell hc39_0 (by dsimp only; omega)
  replace hc39_1 := hw85.cell hc39_1 (by dsimp only; omega)
  replace hc47_0 := hw85.cell hc47_0 (by dsimp only; omega)
  replace ho23 := ho23.within hw85 (by omega)
  replace ho73 := ho73.within hw85 (by omega)
  replace ho78 := ho78.within hw85 (by omega)
  replace hB := hw85.below hB (by omega) (by first | omega | (simp only [World.size_alloc]; omega))
  have hs87 := hw85.size
  replace hc3_l : w.heap.size < w84.heap.size := World.block_lt_of_cell? _ _ hc3_0
  replace hc4_l : w.heap.size + 1 < w84.heap.size := World.block_lt_of_cell? _ _ hc4_0
  replace hc39_l : w29.heap.size < w84.heap.size := World.block_lt_of_cell? _ _ hc39_0
  replace hc47_l : w35.heap.size < w84.heap.size := World.block_lt_of_cell? _ _ hc47_0
  clear hw85
  clear ho45
  go_wp2_with fail
  refine (laws_heldStringS a43 c44 (recR d0 x0 x1).length 1 _ (ho86.RS) (by omega) (by omega) hl46).mono ?_
  rintro e w89 ⟨rfl, hb88⟩
  replace hc3_0 := (keep hb88 hc3_0)
  replace hc3_1 := (keep hb88 hc3_1)
  replace hc4_0 := (keep hb88 hc4_0)
  replace hc39_0 := (keep hb88 hc39_0)
  replace hc39_1 := (keep hb88 hc39_1)
  replace hc47_0 := (keep hb88 hc47_0)
  replace ho23 := (ho23.kept hb88)
  replace ho73 := (ho73.kept hb88)
  replace ho78 := (ho78.kept hb88)
  replace ho86 := (ho86.kept hb88)
  replace hB := (bthen hB hb88)
  have hs90 := hb88.size
  replace hc3_l : w.heap.size < w89.heap.size := World.block_lt_of_cell? _ _ hc3_0
  replace hc4_l : w.heap.size + 1 < w89.heap.size := World.block_lt_of_cell? _ _ hc4_0
  replace hc39_l : w29.heap.size < w89.heap.size := World.block_lt_of_cell? _ _ hc39_0
  replace hc47_l : w35.heap.size < w89.heap.size := World.block_lt_of_cell? _ _ hc47_0
  clear hb88
  go_wp2_with fail
  go_region_held3 (fun W => Below w89.heap.size w89 W ∧ W.cell? ⟨w.heap.size, 0, none⟩ = some (.int .i64 d0) ∧ W.cell? ⟨w.heap.size, 1, none⟩ = some (.slice a0 x0.length c0) ∧ W.cell? ⟨w.heap.size + 1, 0, none⟩ = some (.slice a1 x1.length c1)) (first | exact held3 (below_drewN (Below.refl _ _) 1) hc3_0 hc3_1 hc4_0 | (rename Below w89.heap.size w89 _ ∧ _ => hH; refine held3 ?_ hc3_0 hc3_1 hc4_0; (refine bthen hH.1 ?_; assumption))) (first | (go_at_call 10; ((with_reducible refine (laws_toLayout d0 a0 c0 x0 _ (hx0.kept (bthen hB (And.left ‹Below w89.heap.size w89 _ ∧ _›))) hn0).mono ?_); rintro e w92 ⟨a93, c94, rfl, ho95, hb91⟩)) | (go_at_call 17; ((with_reducible refine (laws_toCard a1 c1 x1 _ (hx1.kept (bthen hB (And.left ‹Below w89.heap.size w89 _ ∧ _›))) hn1).mono ?_); rintro e w97 ⟨a98, c99, rfl, ho100, hb96⟩)) | (go_at_call 18; ((with_reducible refine (impl_RecordOf d0 a93 c94 x0 a98 c99 x1 _ ((((OT.of ho95).RT).kept hb96)) (((OI.of ho100).RI)) hn0 (OT.capm (OT.of ho95)).1 hn1 (OI.cap0 (OI.of ho100)) (pow_kept ht (bthen hB (And.left ‹Below w89.heap.size w89 _ ∧ _›)))).mono ?_); rintro e w102 ⟨a103, c104, rfl, ho105, hb101⟩)))
  replace hc3_0 := (keep hb101 (keep hb96 (keep hb91 (keep (below_drewN (Below.refl _ _) 1) hc3_0))))
  replace hc3_1 := (keep hb101 (keep hb96 (keep hb91 (keep (below_drewN (Below.refl _ _) 1) hc3_1))))
  replace hc4_0 := (keep hb101 (keep hb96 (keep hb91 (keep (below_drewN (Below.refl _ _) 1) hc4_0))))
  replace hc39_0 := (keep hb101 (keep hb96 (keep hb91 (keep (below_drewN (Below.refl _ _) 1) hc39_0))))
  replace hc39_1 := (keep hb101 (keep hb96 (keep hb91 (keep (below_drewN (Below.refl _ _) 1) hc39_1))))
  replace hc47_0 := (keep hb101 (keep hb96 (keep hb91 (keep (below_drewN (Below.refl _ _) 1) hc47_0))))
  replace ho23 := ((((ho23.kept (below_drewN (Below.refl _ _) 1)).kept hb91).kept hb96).kept hb101)
  replace ho73 := ((((ho73.kept (below_drewN (Below.refl _ _) 1)).kept hb91).kept hb96).kept hb101)
  replace ho78 := ((((ho78.kept (below_drewN (Below.refl _ _) 1)).kept hb91).kept hb96).kept hb101)
  replace ho86 := ((((ho86.kept (below_drewN (Below.refl _ _) 1)).kept hb91).kept hb96).kept hb101)
  replace hB := (bthen (bthen (bthen (bthen hB (below_drewN (Below.refl _ _) 1)) hb91) hb96) hb101)
  have hs107 := hb91.size
  simp only [World.size_drew] at hs107
  have hs108 := hb96.size
  have hs109 := hb101.size
  replace hc3_l : w.heap.size < w102.heap.size := World.block_lt_of_cell? _ _ hc3_0
  replace hc4_l : w.heap.size + 1 < w102.heap.size := World.block_lt_of_cell? _ _ hc4_0
  replace hc39_l : w29.heap.size < w102.heap.size := World.block_lt_of_cell? _ _ hc39_0
  replace hc47_l : w35.heap.size < w102.heap.size := World.block_lt_of_cell? _ _ hc47_0
  clear ho95
  clear ho100
  replace ho105 := (OS.of (own_mono (B := w97.heap.size) ho105 (by first | exact Nat.le_refl _ | simp)))
  have hl106 := recR_len d0 x0 x1 hn0
  clear hb91 hb96 hb101
  go_wp2_with fail
  refine (laws_eqStringS_same a103 a21 c104 c22 (recR d0 x0 x1) _ (ho105.RS) (ho23.RS) (small hl106)).mono ?_
  rintro e w111 ⟨rfl, hb110⟩
  replace hc3_0 := (keep hb110 hc3_0)
  replace hc3_1 := (keep hb110 hc3_1)
  replace hc4_0 := (keep hb110 hc4_0)
  replace hc39_0 := (keep hb110 hc39_0)
  replace hc39_1 := (keep hb110 hc39_1)
  replace hc47_0 := (keep hb110 hc47_0)
  replace ho23 := (ho23.kept hb110)
  replace ho73 := (ho73.kept hb110)
  replace ho78 := (ho78.kept hb110)
  replace ho86 := (ho86.kept hb110)
  replace ho105 := (ho105.kept hb110)
  replace hB := (bthen hB hb110)
  have hs112 := hb110.size
  replace hc3_l : w.heap.size < w111.heap.size := World.block_lt_of_cell? _ _ hc3_0
  replace hc4_l : w.heap.size + 1 < w111.heap.size := World.block_lt_of_cell? _ _ hc4_0
  replace hc39_l : w29.heap.size < w111.heap.size := World.block_lt_of_cell? _ _ hc39_0
  replace hc47_l : w35.heap.size < w111.heap.size := World.block_lt_of_cell? _ _ hc47_0
  clear hb110
  go_wp2_with fail
  refine (laws_heldStringS a43 c44 (recR d0 x0 x1).length 1 _ (ho86.RS) (by omega) (by omega) hl46).mono ?_
  rintro e w114 ⟨rfl, hb113⟩
  replace hc3_0 := (keep hb113 hc3_0)
  replace hc3_1 := (keep hb113 hc3_1)
  replace hc4_0 := (keep hb113 hc4_0)
  replace hc39_0 := (keep hb113 hc39_0)
  replace hc39_1 := (keep hb113 hc39_1)
  replace hc47_0 := (keep hb113 hc47_0)
  replace ho23 := (ho23.kept hb113)
  replace ho73 := (ho73.kept hb113)
  replace ho78 := (ho78.kept hb113)
  replace ho86 := (ho86.kept hb113)
  replace ho105 := (ho105.kept hb113)
  replace hB := (bthen hB hb113)
  have hs115 := hb113.size
  replace hc3_l : w.heap.size < w114.heap.size := World.block_lt_of_cell? _ _ hc3_0
  replace hc4_l : w.heap.size + 1 < w114.heap.size := World.block_lt_of_cell? _ _ hc4_0
  replace hc39_l : w29.heap.size < w114.heap.size := World.block_lt_of_cell? _ _ hc39_0
  replace hc47_l : w35.heap.size < w114.heap.size := World.block_lt_of_cell? _ _ hc47_0
  clear hb113
  go_wp2_with fail
  go_ret
  exact ⟨rfl, hB⟩

/-- What the walk gives, for every argument and every world that holds the tables. -/
theorem contract (H : Type) (enc : TypeId × Value → H) (W : World) (base : Nat) (args : Array Value) (ds gs : List (DataW H)) (before : List MemPlace)
    (hval0 : ∀ (j : Nat) t v, Tryz.f4.params[j]? = some t → args[j]? = some v → Value.okWide Tryz.prog W .any base t v)
    (hW : DataW.Whole enc Tryz.prog Tryz.f4.params.toList Rows.fnExactRecordOfSpec.vars false W args.toList ds gs before) (hL : laidMetH Tryz.prog Rows.fnExactRecordOfRow.laid W) (hS : W.ShapedOpen Tryz.prog) :
    Calls Tryz.prog 4 args W fun e W' => ∃ v, e = .returned v ∧ Rows.fnExactRecordOfSpec.post enc Tryz.prog Tryz.f4 false true false false W args v W' := by
  have hval : ∀ (j : Nat) t v, Tryz.f4.params[j]? = some t → args[j]? = some v → Value.okWide Tryz.prog W .any base t v := hval0
  have hW' := hW
  obtain ⟨p, q, hA0, hV, rfl, hfz, hnd⟩ := hW
  have hA : DataW.TrodAll enc Tryz.prog W 0 (fun _ => true) true Tryz.f4.params.toList args.toList ds p := hA0
  rw [Tryz.params4] at hA hval
  obtain ⟨v0, vs0, d0, ds0, p0, q0, hargs, rfl, rfl, h0, r0⟩ := trodAll_cons hA
  obtain ⟨v1, vs1, d1, ds1, p1, q1, rfl, rfl, rfl, h1, r1⟩ := trodAll_cons r0
  obtain ⟨rfl, rfl, rfl⟩ := trodAll_nil r1
  obtain rfl : args = #[v0, v1] := by cases args; simp_all
  obtain ⟨rfl, rfl⟩ := trodVars_none hV
  have k0 := h0
  have lt0 : ∀ x ∈ p0, x.block < W.heap.size := by obtain ⟨m, hm⟩ := k0; exact DataW.trod_lt m _ _ _ hm
  obtain ⟨d0, a0, c0, x0, rfl, hx0, hm0⟩ := open_layout Tryz.underlying24 rfl rfl rfl rfl Tryz.underlying22 Tryz.underlying96 rfl rfl rfl rfl rfl rfl Tryz.underlying94 rfl rfl rfl rfl Tryz.underlying9 Tryz.underlying2 (by kernel_rfl) (by kernel_rfl) (by kernel_rfl) (by kernel_rfl) (by kernel_rfl) (by kernel_rfl) (hval 0 24 v0 rfl rfl) h0
  have k1 := h1
  have lt1 : ∀ x ∈ p1, x.block < W.heap.size := by obtain ⟨m, hm⟩ := k1; exact DataW.trod_lt m _ _ _ hm
  obtain ⟨a1, c1, x1, rfl, hx1, hm1⟩ := open_card Tryz.underlying41 rfl rfl Tryz.underlying39 Tryz.underlying2 (by kernel_rfl) (by kernel_rfl) (by kernel_rfl) (hval 1 41 v1 rfl rfl) h1
  clear hA0 hval0
  refine (walk d0 a0 c0 x0 a1 c1 x1 W hx0 hm0 hx1 hm1 (pow10_of (l := Rows.fnExactRecordOfRow.laid) hL (by simp [Rows.fnExactRecordOfRow]))).mono fun e W' ⟨he, bel⟩ => ?_
  subst he
  exact ⟨_, rfl, _, _, _, [], _, [], hW', trodAll_mk1 (shut_bool Tryz.underlying4 _), (trodAll_cons_mk (Below.trod laidOut (by kernel_rfl) (of_decide_eq_true (by kernel_rfl)) k0 bel lt0) (trodAll_cons_mk (Below.trod laidOut (by kernel_rfl) (of_decide_eq_true (by kernel_rfl)) k1 bel lt1) trodAll_mk0)), rfl, bel.frame _, fun h => by cases h⟩

/-- A world for the witness: the settled one, the listed tables laid. -/
noncomputable def laidWorld (os : Os) : World := { World.holding Tryz.prog os ⟨#[], #[], []⟩ with heap := layAt (layAt (layAt (layAt (layAt ((World.holding Tryz.prog os ⟨#[], #[], []⟩).heap) 6 (Rows.laid_math_bits_deBruijn32tab)) 7 (Rows.laid_math_bits_deBruijn64tab)) 0 (Rows.laid_internal_strconv_uint64pow10)) 4 (Rows.laid_unicode_utf8_acceptRanges)) 3 (Rows.laid_unicode_utf8_first) }
theorem laid_met (os : Os) : laidMet Tryz.prog Rows.fnExactRecordOfRow.laid ((laidWorld os).forCall (fun _ _ => 0) ⟨#[], #[.agg #[.int .i64 0, .slice none 0 0], .agg #[.slice none 0 0]], []⟩).memory :=
  laidMet_of_run' 8 (by kernel_rfl) (by kernel_rfl)
theorem reads (os : Os) {H : Type} (enc : TypeId × Value → H) : ∃ x : List (DataW H) × List (DataW H) × List MemPlace, DataW.whole enc Tryz.prog ((laidWorld os).forCall (fun _ _ => 0) ⟨#[], #[.agg #[.int .i64 0, .slice none 0 0], .agg #[.slice none 0 0]], []⟩).memory Tryz.f4.params.toList Rows.fnExactRecordOfSpec.vars false #[.agg #[.int .i64 0, .slice none 0 0], .agg #[.slice none 0 0]].toList 8 = some x :=
  Option.isSome_iff_exists.1 (by kernel_rfl)

set_option maxRecDepth 100000 in
theorem lifted (os : Os) (started : os.Started) (H : Type) (enc : TypeId × Value → H) (F : Stop.Interp) :
    ReturnsInHanded {} Tryz.checked os 4 .any ((OpenSpec.ofChange Rows.fnExactRecordOfSpec).preRow enc Tryz.prog Tryz.f4 Rows.fnExactRecordOfRow.domain false Rows.fnExactRecordOfRow.laid) (((OpenSpec.ofChange Rows.fnExactRecordOfSpec).at F).post enc Tryz.prog Tryz.f4 false true false false) := by
  obtain ⟨x, hx⟩ := reads os enc
  refine returnsInHanded_of_row (C := Tryz.checked) (s := OpenSpec.ofChange Rows.fnExactRecordOfSpec) own started (by kernel_rfl) Tryz.func4
    (witness_row_at (enc := enc) (C := Tryz.checked) false (laidWorld os) #[.agg #[.int .i64 0, .slice none 0 0], .agg #[.slice none 0 0]] rfl (by kernel_rfl) (by kernel_rfl) (by kernel_rfl)
      (OpenSpec.preRow_of_cond 8 hx (by kernel_rfl) (fun k hk => by cases hk) (by kernel_rfl) (laid_met os))) ?_
  intro W base args ds gs before hval hW _ _ _ hL hS _
  exact contract H enc W base args ds gs before hval hW hL hS

theorem said : Rows.FnExactRecordOfSaid :=
  OpenClaim.holds_of_cond 4 Tryz.f4 rfl rfl rfl rfl rfl rfl rfl ⟨rfl, rfl, rfl, rfl, rfl⟩ rfl rfl rfl rfl rfl (by kernel_rfl) Tryz.func4 (by kernel_rfl)
    (of_decide_eq_true (by kernel_rfl)) (by unfold Func.isWrapper; first | (rw [if_pos (by decide +kernel)]; kernel_rfl) | (rw [if_neg (by decide +kernel)]; exact ⟨rfl, rfl⟩))
    (fun os started H enc _ F => by rw [OpenClaim.pre_eq_preRow]; exact lifted os started H enc F)

theorem noStand : (Tryz.f4.params.toList.all fun t => !Tryz.prog.wantsStandIn t) = true := by kernel_rfl
/-- No parameter wants a stand-in; the program's own looks are off. -/
theorem plain (g : FuncId) (fn : Func) (hf : Tryz.pinned.checked.prog.funcNamed "loop.example/g01012/laws.FnExactRecordOf" = some g) (hfn : Tryz.pinned.checked.prog.funcs[g]? = some fn) :
    true = Tryz.pinned.checked.prog.looks [] ∧ ∀ (j : Nat) t, fn.params[j]? = some t → Tryz.pinned.checked.prog.wantsStandIn t = false := by
  obtain rfl : g = 4 := Option.some.inj ((show Tryz.prog.funcNamed "loop.example/g01012/laws.FnExactRecordOf" = some 4 by kernel_rfl).symm.trans hf) |>.symm
  obtain rfl : fn = Tryz.f4 := (Option.some.inj (Tryz.func4.symm.trans hfn)).symm
  refine ⟨by kernel_rfl, fun j t ht => ?_⟩
  have h1 := List.all_eq_true.1 noStand t (by have := Array.mem_of_getElem? ht; simpa using this)
  have h2 : Tryz.prog.wantsStandIn t = false := by simpa using h1
  exact h2

/-- The card. -/
theorem proved : Rows.FnExactRecordOfCardSaid :=
  Claim7.holds_tied_plain_at .later [] _ _ _ _ said (fun _ h => by cases h) (by kernel_rfl) (fun _ h => by cases h) fnExactRecordOf_row_tie rfl ⟨rfl, rfl⟩ (by kernel_rfl) rfl plain (by kernel_rfl)
#print axioms proved
end Go.Proofs.YtoeohebobmkobaaGreatDoor.fnExactRecordOf
