/- FnExactCardFor: for all arguments the law returns true, and memory that was there is as it was. No condition. -/
import Derived.Test.YtcbjfgjlhjjpiaaGreatDoorRows
import Derived.Test.YtcbjfgjlhjjpiaaGreatDoorCards
import Derived.Deep.DeepWitnessRowRef
import Derived.LaidMore
import Derived.Test.YtcbjfgjlhjjpiaaGreatDoorTie
import Derived.Deep.DeepHandedRow
import Derived.Lib.LaidTab
import Derived.Stop.LaidErr
import Derived.OpenVars
import Derived.Test.YtcbjfgjlhjjpiaaGreatDoorTabs
import Derived.Test.YtcbjfgjlhjjpiaaGreatDoorOpen
import Derived.Deep.RegionHeld3
import Derived.Deep.CutRange
import Derived.ShutString
import Derived.Test.YtcbjfgjlhjjpiaaGreatDoorMark
import Derived.Test.YtcbjfgjlhjjpiaaGreatDoorMarkT
import Derived.Test.YtcbjfgjlhjjpiaaGreatDoorTextsA
import Derived.Test.YtcbjfgjlhjjpiaaGreatDoorCf
import Derived.Test.YtcbjfgjlhjjpiaaGreatDoorCfS
import Derived.Test.YtcbjfgjlhjjpiaaGreatDoorErrs
namespace Go.Proofs.YtcbjfgjlhjjpiaaGreatDoor.fnExactCardFor
open Go.ChangeShapes Go.WideShapes Go.ChangeAt Go.RowKit
open Go.ChangeMaps (open_string shut_string)
set_option linter.unusedVariables false
set_option linter.unusedSimpArgs false
set_option linter.unnecessarySimpa false
set_option maxRecDepth 100000

theorem own : ownKnob Tryz.prog.godebug = none := by kernel_rfl
theorem laidOut : laidOutB Tryz.prog = true := by kernel_rfl

set_option maxHeartbeats 4000000 in
/-- The Go text returns true; memory has at most new blocks. -/
theorem walk (d0 : Int) (a0 : Option Addr) (c0 : Nat) (x0 : List Itm) (a1 : Option Addr) (c1 : Nat) (x1 : List ByteArray) (w : World) (hx0 : RT w a0 x0) (hm0 : x0.length ≤ maxLen ∧ ∀ y ∈ x0, y.name.size ≤ maxLen) (hx1 : RS w a1 x1) (hm1 : x1.length ≤ maxLen ∧ ∀ s ∈ x1, s.size ≤ maxLen) (ht : Pow10 w) (hE : Errs w) :
    Calls Tryz.prog 6 #[.agg #[.int .i64 d0, .slice a0 x0.length c0], .slice a1 x1.length c1] w fun e w' => e = .returned (.bool true) ∧ Below w.heap.size w w' := by
  have hsl0 := itemsSz_len x0
  go_enter Tryz.func6, Tryz.ntmps6
  by_cases hz1 : 1048576 < (itemsSz x0 : Int)
  · go_wp2_with fail
    refine (laws_szLayout_over d0 a0 c0 x0 (1048576) _ (hx0.kept (below_alloc _)) (by omega) (by omega) hm0 hz1).mono ?_
    rintro e wz ⟨rfl, hz⟩
    go_wp2_with fail
    go_ret
    exact ⟨rfl, bthen (below_alloc _) hz⟩
  go_wp2_with fail
  refine (laws_szLayout_ok d0 a0 c0 x0 (1048576) _ (hx0.kept (below_alloc _)) (by omega) (by omega) hm0 (by omega)).mono ?_
  rintro e w1 ⟨rfl, hb2⟩
  have hc3_0 : w1.cell? ⟨w.heap.size, 0, none⟩ = some (.int .i64 d0) := (keep hb2 (by simp [go_sem]))
  have hc3_1 : w1.cell? ⟨w.heap.size, 1, none⟩ = some (.slice a0 x0.length c0) := (keep hb2 (by simp [go_sem]))
  have hB := (bthen (below_alloc _) hb2)
  have hs4 := hb2.size
  simp only [World.size_alloc] at hs4
  have hc3_l : w.heap.size < w1.heap.size := World.block_lt_of_cell? _ _ hc3_0
  clear hb2
  have hn0 : itemsSz x0 ≤ 1048576 := by omega
  by_cases hz2 : (1048576 - (itemsSz x0 : Int)) < (textsSz x1 : Int)
  · go_wp2_with fail
    refine (laws_szStringS_over a1 c1 x1 ((1048576 - (itemsSz x0 : Int))) _ (hx1.kept hB) (by omega) (by omega) hm1 hz2).mono ?_
    rintro e wz ⟨rfl, hz⟩
    go_wp2_with fail
    go_ret
    exact ⟨rfl, bthen hB hz⟩
  go_wp2_with fail
  refine (laws_szStringS_ok a1 c1 x1 ((1048576 - (itemsSz x0 : Int))) _ (hx1.kept hB) (by omega) (by omega) hm1 (by omega)).mono ?_
  rintro e w5 ⟨rfl, hb6⟩
  replace hc3_0 := (keep hb6 hc3_0)
  replace hc3_1 := (keep hb6 hc3_1)
  replace hB := (bthen hB hb6)
  have hs7 := hb6.size
  replace hc3_l : w.heap.size < w5.heap.size := World.block_lt_of_cell? _ _ hc3_0
  clear hb6
  have hn1 : textsSz x1 ≤ 1048576 := by omega
  go_wp2_with fail
  refine (laws_toLayout d0 a0 c0 x0 _ (hx0.kept hB) hn0).mono ?_
  rintro e w9 ⟨a10, c11, rfl, ho12, hb8⟩
  replace hc3_0 := (keep hb8 hc3_0)
  replace hc3_1 := (keep hb8 hc3_1)
  replace hB := (bthen hB hb8)
  have hs13 := hb8.size
  replace hc3_l : w.heap.size < w9.heap.size := World.block_lt_of_cell? _ _ hc3_0
  clear hb8
  replace ho12 := OT.of (own_mono (B := w5.heap.size) ho12 (by first | exact Nat.le_refl _ | simp))
  go_wp2_with fail
  refine (laws_toStringS a1 c1 x1 _ (hx1.kept hB) hn1).mono ?_
  rintro e w15 ⟨a16, c17, rfl, ho18, hb14⟩
  replace hc3_0 := (keep hb14 hc3_0)
  replace hc3_1 := (keep hb14 hc3_1)
  replace ho12 := (ho12.kept hb14)
  replace hB := (bthen hB hb14)
  have hs19 := hb14.size
  replace hc3_l : w.heap.size < w15.heap.size := World.block_lt_of_cell? _ _ hc3_0
  clear hb14
  replace ho18 := OS.of (own_mono (B := w9.heap.size) ho18 (by first | exact Nat.le_refl _ | simp))
  go_wp2_with fail
  refine (spec_CardFor d0 a10 c11 x0 a16 c17 x1 _ (ho12.RT) (ho18.RS) hn0 (OT.capm ho12).1 hn1 ).mono ?_
  rintro e w21 ⟨a22, c23, rfl, ho24, hb20⟩
  replace hc3_0 := (keep hb20 hc3_0)
  replace hc3_1 := (keep hb20 hc3_1)
  replace ho12 := (ho12.kept hb20)
  replace ho18 := (ho18.kept hb20)
  replace hB := (bthen hB hb20)
  have hs26 := hb20.size
  replace hc3_l : w.heap.size < w21.heap.size := World.block_lt_of_cell? _ _ hc3_0
  clear hb20
  replace ho24 := OI.of (own_mono (B := w15.heap.size) ho24 (by first | exact Nat.le_refl _ | simp))
  have hl25 := cfL_len d0 x0 x1
  go_wp2_with fail
  refine (laws_toLayout d0 a0 c0 x0 _ (hx0.kept (bthen hB (below_alloc _))) hn0).mono ?_
  rintro e w28 ⟨a29, c30, rfl, ho31, hb27⟩
  replace hc3_0 := (keep hb27 (keep (below_alloc _) hc3_0))
  replace hc3_1 := (keep hb27 (keep (below_alloc _) hc3_1))
  have hc32_0 : w28.cell? ⟨w21.heap.size, 0, none⟩ = some (.slice a22 (cfL d0 x0 x1).length c23) := (keep hb27 (by simp [go_sem]))
  replace ho12 := ((ho12.kept (below_alloc _)).kept hb27)
  replace ho18 := ((ho18.kept (below_alloc _)).kept hb27)
  replace ho24 := ((ho24.kept (below_alloc _)).kept hb27)
  replace hB := (bthen (bthen hB (below_alloc _)) hb27)
  have hs33 := hb27.size
  simp only [World.size_alloc] at hs33
  replace hc3_l : w.heap.size < w28.heap.size := World.block_lt_of_cell? _ _ hc3_0
  have hc32_l : w21.heap.size < w28.heap.size := World.block_lt_of_cell? _ _ hc32_0
  clear hb27
  replace ho31 := OT.of (own_mono (B := w21.heap.size + 1) ho31 (by first | exact Nat.le_refl _ | simp))
  go_wp2_with fail
  refine (laws_toStringS a1 c1 x1 _ (hx1.kept (bthen hB (below_alloc _))) hn1).mono ?_
  rintro e w35 ⟨a36, c37, rfl, ho38, hb34⟩
  replace hc3_0 := (keep hb34 (keep (below_alloc _) hc3_0))
  replace hc3_1 := (keep hb34 (keep (below_alloc _) hc3_1))
  replace hc32_0 := (keep hb34 (keep (below_alloc _) hc32_0))
  have hc39_0 : w35.cell? ⟨w28.heap.size, 0, none⟩ = some (.int .i64 d0) := (keep hb34 (by simp [go_sem]))
  have hc39_1 : w35.cell? ⟨w28.heap.size, 1, none⟩ = some (.slice a29 x0.length c30) := (keep hb34 (by simp [go_sem]))
  replace ho12 := ((ho12.kept (below_alloc _)).kept hb34)
  replace ho18 := ((ho18.kept (below_alloc _)).kept hb34)
  replace ho24 := ((ho24.kept (below_alloc _)).kept hb34)
  replace ho31 := ((ho31.kept (below_alloc _)).kept hb34)
  replace hB := (bthen (bthen hB (below_alloc _)) hb34)
  have hs40 := hb34.size
  simp only [World.size_alloc] at hs40
  replace hc3_l : w.heap.size < w35.heap.size := World.block_lt_of_cell? _ _ hc3_0
  replace hc32_l : w21.heap.size < w35.heap.size := World.block_lt_of_cell? _ _ hc32_0
  have hc39_l : w28.heap.size < w35.heap.size := World.block_lt_of_cell? _ _ hc39_0
  clear hb34
  replace ho38 := OS.of (own_mono (B := w28.heap.size + 1) ho38 (by first | exact Nat.le_refl _ | simp))
  go_wp2_with fail
  refine (impl_CardFor d0 a29 c30 x0 a36 c37 x1 _ (ho31.RT) (ho38.RS) hn0 (OT.capm ho31).1 hn1 (pow_kept ht hB) (Errs.kept hE hB)).mono ?_
  rintro e w42 ⟨a43, c44, rfl, ho45, hb41⟩
  replace hc3_0 := (keep hb41 hc3_0)
  replace hc3_1 := (keep hb41 hc3_1)
  replace hc32_0 := (keep hb41 hc32_0)
  replace hc39_0 := (keep hb41 hc39_0)
  replace hc39_1 := (keep hb41 hc39_1)
  replace ho12 := (ho12.kept hb41)
  replace ho18 := (ho18.kept hb41)
  replace ho24 := (ho24.kept hb41)
  replace ho31 := (ho31.kept hb41)
  replace ho38 := (ho38.kept hb41)
  replace hB := (bthen hB hb41)
  have hs47 := hb41.size
  replace hc3_l : w.heap.size < w42.heap.size := World.block_lt_of_cell? _ _ hc3_0
  replace hc32_l : w21.heap.size < w42.heap.size := World.block_lt_of_cell? _ _ hc32_0
  replace hc39_l : w28.heap.size < w42.heap.size := World.block_lt_of_cell? _ _ hc39_0
  clear hb41
  replace ho45 := OI.of (own_mono (B := w35.heap.size) ho45 (by first | exact Nat.le_refl _ | simp))
  have hl46 := cfL_len d0 x0 x1
  go_wp2_with fail
  refine (laws_eqCard_same a43 a22 c44 c23 (cfL d0 x0 x1) _ ((ho45.RI).kept (below_alloc _)) ((ho24.RI).kept (below_alloc _)) (small hl46)).mono ?_
  rintro e w49 ⟨rfl, hb48⟩
  replace hc3_0 := (keep hb48 (keep (below_alloc _) hc3_0))
  replace hc3_1 := (keep hb48 (keep (below_alloc _) hc3_1))
  replace hc32_0 := (keep hb48 (keep (below_alloc _) hc32_0))
  replace hc39_0 := (keep hb48 (keep (below_alloc _) hc39_0))
  replace hc39_1 := (keep hb48 (keep (below_alloc _) hc39_1))
  have hc50_0 : w49.cell? ⟨w42.heap.size, 0, none⟩ = some (.slice a43 (cfL d0 x0 x1).length c44) := (keep hb48 (by simp [go_sem]))
  replace ho12 := ((ho12.kept (below_alloc _)).kept hb48)
  replace ho18 := ((ho18.kept (below_alloc _)).kept hb48)
  replace ho24 := ((ho24.kept (below_alloc _)).kept hb48)
  replace ho31 := ((ho31.kept (below_alloc _)).kept hb48)
  replace ho38 := ((ho38.kept (below_alloc _)).kept hb48)
  replace ho45 := ((ho45.kept (below_alloc _)).kept hb48)
  replace hB := (bthen (bthen hB (below_alloc _)) hb48)
  have hs51 := hb48.size
  simp only [World.size_alloc] at hs51
  replace hc3_l : w.heap.size < w49.heap.size := World.block_lt_of_cell? _ _ hc3_0
  replace hc32_l : w21.heap.size < w49.heap.size := World.block_lt_of_cell? _ _ hc32_0
  replace hc39_l : w28.heap.size < w49.heap.size := World.block_lt_of_cell? _ _ hc39_0
  have hc50_l : w42.heap.size < w49.heap.size := World.block_lt_of_cell? _ _ hc50_0
  clear hb48
  go_wp2_with fail
  go_region_held3 (fun W => Below w49.heap.size w49 W ∧ W.cell? ⟨w28.heap.size, 0, none⟩ = some (.int .i64 d0) ∧ W.cell? ⟨w28.heap.size, 1, none⟩ = some (.slice a29 x0.length c30) ∧ W.cell? ⟨w.heap.size, 0, none⟩ = some (.int .i64 d0) ∧ W.cell? ⟨w.heap.size, 1, none⟩ = some (.slice a0 x0.length c0)) (first | exact held4 (below_drewN (Below.refl _ _) 1) hc39_0 hc39_1 hc3_0 hc3_1 | (rename Below w49.heap.size w49 _ ∧ _ => hH; refine held4 ?_ hc39_0 hc39_1 hc3_0 hc3_1; (refine bthen hH.1 ?_; assumption))) (first | (go_at_call 10; ((with_reducible refine (laws_toLayout d0 a0 c0 x0 _ (hx0.kept (bthen hB (And.left ‹Below w49.heap.size w49 _ ∧ _›))) hn0).mono ?_); rintro e w53 ⟨a54, c55, rfl, ho56, hb52⟩)) | (go_at_call 14; ((with_reducible refine (laws_eqLayout_same d0 a29 a54 c30 c55 x0 _ ((ho31.RT).kept (And.left ‹Below w49.heap.size w49 _ ∧ _›)) (((OT.of ho56).RT)) hn0).mono ?_); rintro e w58 ⟨rfl, hb57⟩)))
  replace hc3_0 := (keep hb57 (keep hb52 (keep (below_drewN (Below.refl _ _) 1) hc3_0)))
  replace hc3_1 := (keep hb57 (keep hb52 (keep (below_drewN (Below.refl _ _) 1) hc3_1)))
  replace hc32_0 := (keep hb57 (keep hb52 (keep (below_drewN (Below.refl _ _) 1) hc32_0)))
  replace hc39_0 := (keep hb57 (keep hb52 (keep (below_drewN (Below.refl _ _) 1) hc39_0)))
  replace hc39_1 := (keep hb57 (keep hb52 (keep (below_drewN (Below.refl _ _) 1) hc39_1)))
  replace hc50_0 := (keep hb57 (keep hb52 (keep (below_drewN (Below.refl _ _) 1) hc50_0)))
  replace ho12 := (((ho12.kept (below_drewN (Below.refl _ _) 1)).kept hb52).kept hb57)
  replace ho18 := (((ho18.kept (below_drewN (Below.refl _ _) 1)).kept hb52).kept hb57)
  replace ho24 := (((ho24.kept (below_drewN (Below.refl _ _) 1)).kept hb52).kept hb57)
  replace ho31 := (((ho31.kept (below_drewN (Below.refl _ _) 1)).kept hb52).kept hb57)
  replace ho38 := (((ho38.kept (below_drewN (Below.refl _ _) 1)).kept hb52).kept hb57)
  replace ho45 := (((ho45.kept (below_drewN (Below.refl _ _) 1)).kept hb52).kept hb57)
  replace hB := (bthen (bthen (bthen hB (below_drewN (Below.refl _ _) 1)) hb52) hb57)
  have hs59 := hb52.size
  simp only [World.size_drew] at hs59
  have hs60 := hb57.size
  replace hc3_l : w.heap.size < w58.heap.size := World.block_lt_of_cell? _ _ hc3_0
  replace hc32_l : w21.heap.size < w58.heap.size := World.block_lt_of_cell? _ _ hc32_0
  replace hc39_l : w28.heap.size < w58.heap.size := World.block_lt_of_cell? _ _ hc39_0
  replace hc50_l : w42.heap.size < w58.heap.size := World.block_lt_of_cell? _ _ hc50_0
  clear ho56
  clear hb52 hb57
  go_wp2_with fail
  refine (laws_toStringS a1 c1 x1 _ (hx1.kept hB) hn1).mono ?_
  rintro e w62 ⟨a63, c64, rfl, ho65, hb61⟩
  replace hc3_0 := (keep hb61 hc3_0)
  replace hc3_1 := (keep hb61 hc3_1)
  replace hc32_0 := (keep hb61 hc32_0)
  replace hc39_0 := (keep hb61 hc39_0)
  replace hc39_1 := (keep hb61 hc39_1)
  replace hc50_0 := (keep hb61 hc50_0)
  replace ho12 := (ho12.kept hb61)
  replace ho18 := (ho18.kept hb61)
  replace ho24 := (ho24.kept hb61)
  replace ho31 := (ho31.kept hb61)
  replace ho38 := (ho38.kept hb61)
  replace ho45 := (ho45.kept hb61)
  replace hB := (bthen hB hb61)
  have hs66 := hb61.size
  replace hc3_l : w.heap.size < w62.heap.size := World.block_lt_of_cell? _ _ hc3_0
  replace hc32_l : w21.heap.size < w62.heap.size := World.block_lt_of_cell? _ _ hc32_0
  replace hc39_l : w28.heap.size < w62.heap.size := World.block_lt_of_cell? _ _ hc39_0
  replace hc50_l : w42.heap.size < w62.heap.size := World.block_lt_of_cell? _ _ hc50_0
  clear hb61
  replace ho65 := OS.of (own_mono (B := w58.heap.size) ho65 (by first | exact Nat.le_refl _ | simp))
  go_wp2_with fail
  refine (laws_eqStringS_same a36 a63 c37 c64 x1 _ (ho38.RS) (ho65.RS) (small (Nat.le_trans (textsSz_len _) hn1))).mono ?_
  rintro e w68 ⟨rfl, hb67⟩
  replace hc3_0 := (keep hb67 hc3_0)
  replace hc3_1 := (keep hb67 hc3_1)
  replace hc32_0 := (keep hb67 hc32_0)
  replace hc39_0 := (keep hb67 hc39_0)
  replace hc39_1 := (keep hb67 hc39_1)
  replace hc50_0 := (keep hb67 hc50_0)
  replace ho12 := (ho12.kept hb67)
  replace ho18 := (ho18.kept hb67)
  replace ho24 := (ho24.kept hb67)
  replace ho31 := (ho31.kept hb67)
  replace ho38 := (ho38.kept hb67)
  replace ho45 := (ho45.kept hb67)
  replace ho65 := (ho65.kept hb67)
  replace hB := (bthen hB hb67)
  have hs69 := hb67.size
  replace hc3_l : w.heap.size < w68.heap.size := World.block_lt_of_cell? _ _ hc3_0
  replace hc32_l : w21.heap.size < w68.heap.size := World.block_lt_of_cell? _ _ hc32_0
  replace hc39_l : w28.heap.size < w68.heap.size := World.block_lt_of_cell? _ _ hc39_0
  replace hc50_l : w42.heap.size < w68.heap.size := World.block_lt_of_cell? _ _ hc50_0
  clear hb67
  go_wp2_with fail
  refine (laws_markLayout (w21.heap.size + 1) (w28.heap.size) d0 a29 c30 x0 1 _ ho31 (by omega) (by omega) hn0 (by first | omega | (simp only [World.size_alloc]; omega))).mono ?_
  rintro e w71 ⟨rfl, hw72, ho73⟩
  replace hc3_0 := hw72.cell hc3_0 (by dsimp only; omega)
  replace hc3_1 := hw72.cell hc3_1 (by dsimp only; omega)
  replace hc32_0 := hw72.cell hc32_0 (by dsimp only; omega)
  replace hc39_0 := hw72.cell hc39_0 (by dsimp only; omega)
  replace hc39_1 := hw72.cell hc39_1 (by dsimp only; omega)
  replace hc50_0 := hw72.cell hc50_0 (by dsimp only; omega)
  replace ho12 := ho12.within hw72 (by omega)
  replace ho18 := ho18.within hw72 (by omega)
  replace ho24 := ho24.within hw72 (by omega)
  replace ho38 := ho38.within hw72 (by omega)
  replace ho45 := ho45.within hw72 (by omega)
  replace ho65 := ho65.within hw72 (by omega)
  replace hB := hw72.below hB (by omega) (by first | omega | (simp only [World.size_alloc]; omega))
  have hs74 := hw72.size
  replace hc3_l : w.heap.size < w71.heap.size := World.block_lt_of_cell? _ _ hc3_0
  replace hc32_l : w21.heap.size < w71.heap.size := World.block_lt_of_cell? _ _ hc32_0
  replace hc39_l : w28.heap.size < w71.heap.size := World.block_lt_of_cell? _ _ hc39_0
  replace hc50_l : w42.heap.size < w71.heap.size := World.block_lt_of_cell? _ _ hc50_0
  clear hw72
  clear ho31
  go_wp2_with fail
  refine (laws_markStringS (w28.heap.size + 1) (w35.heap.size) a36 c37 x1 (1 + (x0.length * 4 : Int)) _ ho38 (by omega) (by omega) (Nat.le_trans (textsSz_len _) hn1) (by first | omega | (simp only [World.size_alloc]; omega))).mono ?_
  rintro e w76 ⟨rfl, hw77, ho78⟩
  replace hc3_0 := hw77.cell hc3_0 (by dsimp only; omega)
  replace hc3_1 := hw77.cell hc3_1 (by dsimp only; omega)
  replace hc32_0 := hw77.cell hc32_0 (by dsimp only; omega)
  replace hc39_0 := hw77.cell hc39_0 (by dsimp only; omega)
  replace hc39_1 := hw77.cell hc39_1 (by dsimp only; omega)
  replace hc50_0 := hw77.cell hc50_0 (by dsimp only; omega)
  replace ho12 := ho12.within hw77 (by omega)
  replace ho18 := ho18.within hw77 (by omega)
  replace ho24 := ho24.within hw77 (by omega)
  replace ho73 := ho73.within hw77 (by omega)
  replace ho45 := ho45.within hw77 (by omega)
  replace ho65 := ho65.within hw77 (by omega)
  replace hB := hw77.below hB (by omega) (by first | omega | (simp only [World.size_alloc]; omega))
  have hs79 := hw77.size
  replace hc3_l : w.heap.size < w76.heap.size := World.block_lt_of_cell? _ _ hc3_0
  replace hc32_l : w21.heap.size < w76.heap.size := World.block_lt_of_cell? _ _ hc32_0
  replace hc39_l : w28.heap.size < w76.heap.size := World.block_lt_of_cell? _ _ hc39_0
  replace hc50_l : w42.heap.size < w76.heap.size := World.block_lt_of_cell? _ _ hc50_0
  clear hw77
  clear ho38
  go_wp2_with fail
  refine (laws_eqCard_same a43 a22 c44 c23 (cfL d0 x0 x1) _ (ho45.RI) (ho24.RI) (small hl46)).mono ?_
  rintro e w81 ⟨rfl, hb80⟩
  replace hc3_0 := (keep hb80 hc3_0)
  replace hc3_1 := (keep hb80 hc3_1)
  replace hc32_0 := (keep hb80 hc32_0)
  replace hc39_0 := (keep hb80 hc39_0)
  replace hc39_1 := (keep hb80 hc39_1)
  replace hc50_0 := (keep hb80 hc50_0)
  replace ho12 := (ho12.kept hb80)
  replace ho18 := (ho18.kept hb80)
  replace ho24 := (ho24.kept hb80)
  replace ho73 := (ho73.kept hb80)
  replace ho78 := (ho78.kept hb80)
  replace ho45 := (ho45.kept hb80)
  replace ho65 := (ho65.kept hb80)
  replace hB := (bthen hB hb80)
  have hs82 := hb80.size
  replace hc3_l : w.heap.size < w81.heap.size := World.block_lt_of_cell? _ _ hc3_0
  replace hc32_l : w21.heap.size < w81.heap.size := World.block_lt_of_cell? _ _ hc32_0
  replace hc39_l : w28.heap.size < w81.heap.size := World.block_lt_of_cell? _ _ hc39_0
  replace hc50_l : w42.heap.size < w81.heap.size := World.block_lt_of_cell? _ _ hc50_0
  clear hb80
  go_wp2_with fail
  refine (laws_markCard (w35.heap.size) (w42.heap.size) a43 c44 (cfL d0 x0 x1) 1 _ ho45 (by omega) (by omega) hl46 (by first | omega | (simp only [World.size_alloc]; omega))).mono ?_
  rintro e w84 ⟨rfl, hw85, ho86⟩
  replace hc3_0 := hw85.cell hc3_0 (by dsimp only; omega)
  replace hc3_1 := hw85.cell hc3_1 (by dsimp only; omega)
  replace hc32_0 := hw85.cell hc32_0 (by dsimp only; omega)
  replace hc39_0 := hw85.cell hc39_0 (by dsimp only; omega)
  replace hc39_1 := hw85.cell hc39_1 (by dsimp only; omega)
  replace hc50_0 := hw85.cell hc50_0 (by dsimp only; omega)
  replace ho12 := ho12.within hw85 (by omega)
  replace ho18 := ho18.within hw85 (by omega)
  replace ho24 := ho24.within hw85 (by omega)
  replace ho73 := ho73.within hw85 (by omega)
  replace ho78 := ho78.within hw85 (by omega)
  replace ho65 := ho65.within hw85 (by omega)
  replace hB := hw85.below hB (by omega) (by first | omega | (simp only [World.size_alloc]; omega))
  have hs87 := hw85.size
  replace hc3_l : w.heap.size < w84.heap.size := World.block_lt_of_cell? _ _ hc3_0
  replace hc32_l : w21.heap.size < w84.heap.size := World.block_lt_of_cell? _ _ hc32_0
  replace hc39_l : w28.heap.size < w84.heap.size := World.block_lt_of_cell? _ _ hc39_0
  replace hc50_l : w42.heap.size < w84.heap.size := World.block_lt_of_cell? _ _ hc50_0
  clear hw85
  clear ho45
  go_wp2_with fail
  refine (laws_heldCard a43 c44 (cfL d0 x0 x1).length 1 _ (ho86.RI) (by omega) (by omega) hl46).mono ?_
  rintro e w89 ⟨rfl, hb88⟩
  replace hc3_0 := (keep hb88 hc3_0)
  replace hc3_1 := (keep hb88 hc3_1)
  replace hc32_0 := (keep hb88 hc32_0)
  replace hc39_0 := (keep hb88 hc39_0)
  replace hc39_1 := (keep hb88 hc39_1)
  replace hc50_0 := (keep hb88 hc50_0)
  replace ho12 := (ho12.kept hb88)
  replace ho18 := (ho18.kept hb88)
  replace ho24 := (ho24.kept hb88)
  replace ho73 := (ho73.kept hb88)
  replace ho78 := (ho78.kept hb88)
  replace ho86 := (ho86.kept hb88)
  replace ho65 := (ho65.kept hb88)
  replace hB := (bthen hB hb88)
  have hs90 := hb88.size
  replace hc3_l : w.heap.size < w89.heap.size := World.block_lt_of_cell? _ _ hc3_0
  replace hc32_l : w21.heap.size < w89.heap.size := World.block_lt_of_cell? _ _ hc32_0
  replace hc39_l : w28.heap.size < w89.heap.size := World.block_lt_of_cell? _ _ hc39_0
  replace hc50_l : w42.heap.size < w89.heap.size := World.block_lt_of_cell? _ _ hc50_0
  clear hb88
  go_wp2_with fail
  refine (laws_toLayout d0 a0 c0 x0 _ (hx0.kept hB) hn0).mono ?_
  rintro e w92 ⟨a93, c94, rfl, ho95, hb91⟩
  replace hc3_0 := (keep hb91 hc3_0)
  replace hc3_1 := (keep hb91 hc3_1)
  replace hc32_0 := (keep hb91 hc32_0)
  replace hc39_0 := (keep hb91 hc39_0)
  replace hc39_1 := (keep hb91 hc39_1)
  replace hc50_0 := (keep hb91 hc50_0)
  replace ho12 := (ho12.kept hb91)
  replace ho18 := (ho18.kept hb91)
  replace ho24 := (ho24.kept hb91)
  replace ho73 := (ho73.kept hb91)
  replace ho78 := (ho78.kept hb91)
  replace ho86 := (ho86.kept hb91)
  replace ho65 := (ho65.kept hb91)
  replace hB := (bthen hB hb91)
  have hs96 := hb91.size
  replace hc3_l : w.heap.size < w92.heap.size := World.block_lt_of_cell? _ _ hc3_0
  replace hc32_l : w21.heap.size < w92.heap.size := World.block_lt_of_cell? _ _ hc32_0
  replace hc39_l : w28.heap.size < w92.heap.size := World.block_lt_of_cell? _ _ hc39_0
  replace hc50_l : w42.heap.size < w92.heap.size := World.block_lt_of_cell? _ _ hc50_0
  clear hb91
  replace ho95 := OT.of (own_mono (B := w89.heap.size) ho95 (by first | exact Nat.le_refl _ | simp))
  go_wp2_with fail
  refine (laws_toStringS a1 c1 x1 _ (hx1.kept hB) hn1).mono ?_
  rintro e w98 ⟨a99, c100, rfl, ho101, hb97⟩
  replace hc3_0 := (keep hb97 hc3_0)
  replace hc3_1 := (keep hb97 hc3_1)
  replace hc32_0 := (keep hb97 hc32_0)
  replace hc39_0 := (keep hb97 hc39_0)
  replace hc39_1 := (keep hb97 hc39_1)
  replace hc50_0 := (keep hb97 hc50_0)
  replace ho12 := (ho12.kept hb97)
  replace ho18 := (ho18.kept hb97)
  replace ho24 := (ho24.kept hb97)
  replace ho73 := (ho73.kept hb97)
  replace ho78 := (ho78.kept hb97)
  replace ho86 := (ho86.kept hb97)
  replace ho65 := (ho65.kept hb97)
  replace ho95 := (ho95.kept hb97)
  replace hB := (bthen hB hb97)
  have hs102 := hb97.size
  replace hc3_l : w.heap.size < w98.heap.size := World.block_lt_of_cell? _ _ hc3_0
  replace hc32_l : w21.heap.size < w98.heap.size := World.block_lt_of_cell? _ _ hc32_0
  replace hc39_l : w28.heap.size < w98.heap.size := World.block_lt_of_cell? _ _ hc39_0
  replace hc50_l : w42.heap.size < w98.heap.size := World.block_lt_of_cell? _ _ hc50_0
  clear hb97
  replace ho101 := OS.of (own_mono (B := w92.heap.size) ho101 (by first | exact Nat.le_refl _ | simp))
  go_wp2_with fail
  refine (impl_CardFor d0 a93 c94 x0 a99 c100 x1 _ (ho95.RT) (ho101.RS) hn0 (OT.capm ho95).1 hn1 (pow_kept ht hB) (Errs.kept hE hB)).mono ?_
  rintro e w104 ⟨a105, c106, rfl, ho107, hb103⟩
  replace hc3_0 := (keep hb103 hc3_0)
  replace hc3_1 := (keep hb103 hc3_1)
  replace hc32_0 := (keep hb103 hc32_0)
  replace hc39_0 := (keep hb103 hc39_0)
  replace hc39_1 := (keep hb103 hc39_1)
  replace hc50_0 := (keep hb103 hc50_0)
  replace ho12 := (ho12.kept hb103)
  replace ho18 := (ho18.kept hb103)
  replace ho24 := (ho24.kept hb103)
  replace ho73 := (ho73.kept hb103)
  replace ho78 := (ho78.kept hb103)
  replace ho86 := (ho86.kept hb103)
  replace ho65 := (ho65.kept hb103)
  replace ho95 := (ho95.kept hb103)
  replace ho101 := (ho101.kept hb103)
  replace hB := (bthen hB hb103)
  have hs109 := hb103.size
  replace hc3_l : w.heap.size < w104.heap.size := World.block_lt_of_cell? _ _ hc3_0
  replace hc32_l : w21.heap.size < w104.heap.size := World.block_lt_of_cell? _ _ hc32_0
  replace hc39_l : w28.heap.size < w104.heap.size := World.block_lt_of_cell? _ _ hc39_0
  replace hc50_l : w42.heap.size < w104.heap.size := World.block_lt_of_cell? _ _ hc50_0
  clear hb103
  replace ho107 := OI.of (own_mono (B := w98.heap.size) ho107 (by first | exact Nat.le_refl _ | simp))
  have hl108 := cfL_len d0 x0 x1
  go_wp2_with fail
  refine (laws_eqCard_same a105 a22 c106 c23 (cfL d0 x0 x1) _ ((ho107.RI).kept (below_alloc _)) ((ho24.RI).kept (below_alloc _)) (small hl108)).mono ?_
  rintro e w111 ⟨rfl, hb110⟩
  replace hc3_0 := (keep hb110 (keep (below_alloc _) hc3_0))
  replace hc3_1 := (keep hb110 (keep (below_alloc _) hc3_1))
  replace hc32_0 := (keep hb110 (keep (below_alloc _) hc32_0))
  replace hc39_0 := (keep hb110 (keep (below_alloc _) hc39_0))
  replace hc39_1 := (keep hb110 (keep (below_alloc _) hc39_1))
  replace hc50_0 := (keep hb110 (keep (below_alloc _) hc50_0))
  have hc112_0 : w111.cell? ⟨w104.heap.size, 0, none⟩ = some (.slice a105 (cfL d0 x0 x1).length c106) := (keep hb110 (by simp [go_sem]))
  replace ho12 := ((ho12.kept (below_alloc _)).kept hb110)
  replace ho18 := ((ho18.kept (below_alloc _)).kept hb110)
  replace ho24 := ((ho24.kept (below_alloc _)).kept hb110)
  replace ho73 := ((ho73.kept (below_alloc _)).kept hb110)
  replace ho78 := ((ho78.kept (below_alloc _)).kept hb110)
  replace ho86 := ((ho86.kept (below_alloc _)).kept hb110)
  replace ho65 := ((ho65.kept (below_alloc _)).kept hb110)
  replace ho95 := ((ho95.kept (below_alloc _)).kept hb110)
  replace ho101 := ((ho101.kept (below_alloc _)).kept hb110)
  replace ho107 := ((ho107.kept (below_alloc _)).kept hb110)
  replace hB := (bthen (bthen hB (below_alloc _)) hb110)
  have hs113 := hb110.size
  simp only [World.size_alloc] at hs113
  replace hc3_l : w.heap.size < w111.heap.size := World.block_lt_of_cell? _ _ hc3_0
  replace hc32_l : w21.heap.size < w111.heap.size := World.block_lt_of_cell? _ _ hc32_0
  replace hc39_l : w28.heap.size < w111.heap.size := World.block_lt_of_cell? _ _ hc39_0
  replace hc50_l : w42.heap.size < w111.heap.size := World.block_lt_of_cell? _ _ hc50_0
  have hc112_l : w104.heap.size < w111.heap.size := World.block_lt_of_cell? _ _ hc112_0
  clear hb110
  go_wp2_with fail
  refine (laws_heldCard a43 c44 (cfL d0 x0 x1).length 1 _ (ho86.RI) (by omega) (by omega) hl46).mono ?_
  rintro e w115 ⟨rfl, hb114⟩
  replace hc3_0 := (keep hb114 hc3_0)
  replace hc3_1 := (keep hb114 hc3_1)
  replace hc32_0 := (keep hb114 hc32_0)
  replace hc39_0 := (keep hb114 hc39_0)
  replace hc39_1 := (keep hb114 hc39_1)
  replace hc50_0 := (keep hb114 hc50_0)
  replace hc112_0 := (keep hb114 hc112_0)
  replace ho12 := (ho12.kept hb114)
  replace ho18 := (ho18.kept hb114)
  replace ho24 := (ho24.kept hb114)
  replace ho73 := (ho73.kept hb114)
  replace ho78 := (ho78.kept hb114)
  replace ho86 := (ho86.kept hb114)
  replace ho65 := (ho65.kept hb114)
  replace ho95 := (ho95.kept hb114)
  replace ho101 := (ho101.kept hb114)
  replace ho107 := (ho107.kept hb114)
  replace hB := (bthen hB hb114)
  have hs116 := hb114.size
  replace hc3_l : w.heap.size < w115.heap.size := World.block_lt_of_cell? _ _ hc3_0
  replace hc32_l : w21.heap.size < w115.heap.size := World.block_lt_of_cell? _ _ hc32_0
  replace hc39_l : w28.heap.size < w115.heap.size := World.block_lt_of_cell? _ _ hc39_0
  replace hc50_l : w42.heap.size < w115.heap.size := World.block_lt_of_cell? _ _ hc50_0
  replace hc112_l : w104.heap.size < w115.heap.size := World.block_lt_of_cell? _ _ hc112_0
  clear hb114
  go_wp2_with fail
  go_ret
  exact ⟨rfl, hB⟩

/-- What the walk gives, for every argument and every world that holds the tables. -/
theorem contract (H : Type) (enc : TypeId × Value → H) (W : World) (base : Nat) (args : Array Value) (ds gs : List (DataW H)) (before : List MemPlace)
    (hval0 : ∀ (j : Nat) t v, Tryz.f6.params[j]? = some t → args[j]? = some v → Value.okWide Tryz.prog W .any base t v)
    (hW : DataW.Whole enc Tryz.prog Tryz.f6.params.toList Rows.fnExactCardForSpec.vars false W args.toList ds gs before) (hL : laidMetH Tryz.prog Rows.fnExactCardForRow.laid W) (hS : W.ShapedOpen Tryz.prog) :
    Calls Tryz.prog 6 args W fun e W' => ∃ v, e = .returned v ∧ Rows.fnExactCardForSpec.post enc Tryz.prog Tryz.f6 false true false false W args v W' := by
  have hval : ∀ (j : Nat) t v, Tryz.f6.params[j]? = some t → args[j]? = some v → Value.okWide Tryz.prog W .any base t v := hval0
  have hW' := hW
  obtain ⟨p, q, hA0, hV, rfl, hfz, hnd⟩ := hW
  have hA : DataW.TrodAll enc Tryz.prog W 0 (fun _ => true) true Tryz.f6.params.toList args.toList ds p := hA0
  rw [Tryz.params6] at hA hval
  obtain ⟨v0, vs0, d0, ds0, p0, q0, hargs, rfl, rfl, h0, r0⟩ := trodAll_cons hA
  obtain ⟨v1, vs1, d1, ds1, p1, q1, rfl, rfl, rfl, h1, r1⟩ := trodAll_cons r0
  obtain ⟨rfl, rfl, rfl⟩ := trodAll_nil r1
  obtain rfl : args = #[v0, v1] := by cases args; simp_all
  obtain ⟨rfl, rfl⟩ := trodVars_none hV
  have k0 := h0
  have lt0 : ∀ x ∈ p0, x.block < W.heap.size := by obtain ⟨m, hm⟩ := k0; exact DataW.trod_lt m _ _ _ hm
  obtain ⟨d0, a0, c0, x0, rfl, hx0, hm0⟩ := open_layout Tryz.underlying24 rfl rfl rfl rfl Tryz.underlying22 Tryz.underlying153 rfl rfl rfl rfl rfl rfl Tryz.underlying151 rfl rfl rfl rfl Tryz.underlying9 Tryz.underlying2 (by kernel_rfl) (by kernel_rfl) (by kernel_rfl) (by kernel_rfl) (by kernel_rfl) (by kernel_rfl) (hval 0 24 v0 rfl rfl) h0
  have k1 := h1
  have lt1 : ∀ x ∈ p1, x.block < W.heap.size := by obtain ⟨m, hm⟩ := k1; exact DataW.trod_lt m _ _ _ hm
  obtain ⟨a1, c1, x1, rfl, hx1, hm1⟩ := open_texts Tryz.underlying69 Tryz.underlying9 (by kernel_rfl) (hval 1 69 v1 rfl rfl) h1
  clear hA0 hval0
  refine (walk d0 a0 c0 x0 a1 c1 x1 W hx0 hm0 hx1 hm1 (pow10_of (l := Rows.fnExactCardForRow.laid) hL (by simp [Rows.fnExactCardForRow])) (errs_of (l := Rows.fnExactCardForRow.laid) hL (by simp [Rows.fnExactCardForRow]) (by simp [Rows.fnExactCardForRow]))).mono fun e W' ⟨he, bel⟩ => ?_
  subst he
  exact ⟨_, rfl, _, _, _, [], _, [], hW', trodAll_mk1 (shut_bool Tryz.underlying4 _), (trodAll_cons_mk (Below.trod laidOut (by kernel_rfl) (of_decide_eq_true (by kernel_rfl)) k0 bel lt0) (trodAll_cons_mk (Below.trod laidOut (by kernel_rfl) (of_decide_eq_true (by kernel_rfl)) k1 bel lt1) trodAll_mk0)), rfl, bel.frame _, fun h => by cases h⟩

/-- A world for the witness: the settled one, the listed tables laid. -/
noncomputable def laidWorld (os : Os) : World := World.doorLaid Tryz.prog 77 os
theorem laid_met (os : Os) : laidMet Tryz.prog Rows.fnExactCardForRow.laid ((laidWorld os).forCall (fun _ _ => 0) ⟨#[], #[.agg #[.int .i64 0, .slice none 0 0], .slice none 0 0], []⟩).memory :=
  laidMet_of_run' 8 (by kernel_rfl) (by kernel_rfl)
theorem reads (os : Os) {H : Type} (enc : TypeId × Value → H) : ∃ x : List (DataW H) × List (DataW H) × List MemPlace, DataW.whole enc Tryz.prog ((laidWorld os).forCall (fun _ _ => 0) ⟨#[], #[.agg #[.int .i64 0, .slice none 0 0], .slice none 0 0], []⟩).memory Tryz.f6.params.toList Rows.fnExactCardForSpec.vars false #[.agg #[.int .i64 0, .slice none 0 0], .slice none 0 0].toList 8 = some x :=
  Option.isSome_iff_exists.1 (by kernel_rfl)

set_option maxRecDepth 100000 in
theorem lifted (os : Os) (started : os.Started) (H : Type) (enc : TypeId × Value → H) (F : Stop.Interp) :
    ReturnsInHanded {} Tryz.checked os 6 .any ((OpenSpec.ofChange Rows.fnExactCardForSpec).preRow enc Tryz.prog Tryz.f6 Rows.fnExactCardForRow.domain false Rows.fnExactCardForRow.laid) (((OpenSpec.ofChange Rows.fnExactCardForSpec).at F).post enc Tryz.prog Tryz.f6 false true false false) := by
  obtain ⟨x, hx⟩ := reads os enc
  refine returnsInHanded_of_row (C := Tryz.checked) (s := OpenSpec.ofChange Rows.fnExactCardForSpec) own started (by kernel_rfl) Tryz.func6
    (witness_row_atRef (enc := enc) (C := Tryz.checked) false (laidWorld os) #[.agg #[.int .i64 0, .slice none 0 0], .slice none 0 0] rfl (by kernel_rfl) (by kernel_rfl) (by kernel_rfl)
      (OpenSpec.preRow_of_cond 8 hx (by kernel_rfl) (fun k hk => by cases hk) (by kernel_rfl) (laid_met os))) ?_
  intro W base args ds gs before hval hW _ _ _ hL hS _
  exact contract H enc W base args ds gs before hval hW hL hS

theorem said : Rows.FnExactCardForSaid :=
  OpenClaim.holds_of_cond 6 Tryz.f6 rfl rfl rfl rfl rfl rfl rfl ⟨rfl, rfl, rfl, rfl, rfl⟩ rfl rfl rfl rfl rfl (by kernel_rfl) Tryz.func6 (by kernel_rfl)
    (of_decide_eq_true (by kernel_rfl)) (by unfold Func.isWrapper; first | (rw [if_pos (by decide +kernel)]; kernel_rfl) | (rw [if_neg (by decide +kernel)]; exact ⟨rfl, rfl⟩))
    (fun os started H enc _ F => by rw [OpenClaim.pre_eq_preRow]; exact lifted os started H enc F)

theorem noStand : (Tryz.f6.params.toList.all fun t => !Tryz.prog.wantsStandIn t) = true := by kernel_rfl
/-- No parameter wants a stand-in; the program's own looks are off. -/
theorem plain (g : FuncId) (fn : Func) (hf : Tryz.pinned.checked.prog.funcNamed "loop.example/g01012/laws.FnExactCardFor" = some g) (hfn : Tryz.pinned.checked.prog.funcs[g]? = some fn) :
    true = Tryz.pinned.checked.prog.looks [] ∧ ∀ (j : Nat) t, fn.params[j]? = some t → Tryz.pinned.checked.prog.wantsStandIn t = false := by
  obtain rfl : g = 6 := Option.some.inj ((show Tryz.prog.funcNamed "loop.example/g01012/laws.FnExactCardFor" = some 6 by kernel_rfl).symm.trans hf) |>.symm
  obtain rfl : fn = Tryz.f6 := (Option.some.inj (Tryz.func6.symm.trans hfn)).symm
  refine ⟨by kernel_rfl, fun j t ht => ?_⟩
  have h1 := List.all_eq_true.1 noStand t (by have := Array.mem_of_getElem? ht; simpa using this)
  have h2 : Tryz.prog.wantsStandIn t = false := by simpa using h1
  exact h2

/-- The card. -/
theorem proved : Rows.FnExactCardForCardSaid :=
  Claim7.holds_tied_plain_at .later [] _ _ _ _ said (fun _ h => by cases h) (by kernel_rfl) (fun _ h => by cases h) fnExactCardFor_row_tie rfl ⟨rfl, rfl⟩ (by kernel_rfl) rfl plain (by kernel_rfl)
#print axioms proved
end Go.Proofs.YtcbjfgjlhjjpiaaGreatDoor.fnExactCardFor
