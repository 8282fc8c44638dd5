/- FnExactCompareFields: for all arguments the law returns true, and memory that was there is as it was. No condition. -/
import Derived.Test.YtnjgeclbdopdoaaRows
import Derived.Test.YtnjgeclbdopdoaaOpen
import Derived.Deep.RegionHeld3
import Derived.Deep.CutRange
import Derived.ShutString
import Derived.Test.YtnjgeclbdopdoaaComp
namespace Go.Proofs.Ytnjgeclbdopdoaa.fnExactCompareFields
open Go.ChangeShapes Go.WideShapes Go.ChangeAt Go.RowKit
open Go.ChangeMaps (open_string shut_string)
set_option linter.unusedVariables false
set_option linter.unusedSimpArgs false
set_option linter.unnecessarySimpa false
set_option maxRecDepth 100000

theorem own : ownKnob Try.prog.godebug = none := by kernel_rfl
theorem laidOut : laidOutB Try.prog = true := by kernel_rfl

set_option maxHeartbeats 4000000 in
/-- The Go text returns true; memory has at most new blocks. -/
theorem walk (a0 : Option Addr) (c0 : Nat) (x0 : List Int) (a1 : Option Addr) (c1 : Nat) (x1 : List Int) (i2 j2 : Int) (w : World) (hx0 : RI w a0 x0) (hm0 : x0.length ≤ maxLen) (hx1 : RI w a1 x1) (hm1 : x1.length ≤ maxLen) :
    Calls Try.prog 10 #[.agg #[.slice a0 x0.length c0], .agg #[.slice a1 x1.length c1], .agg #[.int .i64 i2, .int .i64 j2]] w fun e w' => e = .returned (.bool true) ∧ Below w.heap.size w w' := by
  go_enter Try.func10, Try.ntmps10
  by_cases hz1 : 1048576 < (x0.length : Int)
  · go_wp2_with fail
    refine (laws_szCard_over a0 c0 x0 (1048576) _ (hx0.kept (below_alloc3 _ _ _ _)) (by omega) (by omega) hm0 hz1).mono ?_
    rintro e wz ⟨rfl, hz⟩
    go_wp2_with fail
    go_ret
    exact ⟨rfl, bthen (below_alloc3 _ _ _ _) hz⟩
  go_wp2_with fail
  refine (laws_szCard_ok a0 c0 x0 (1048576) _ (hx0.kept (below_alloc3 _ _ _ _)) (by omega) (by omega) hm0 (by omega)).mono ?_
  rintro e w1 ⟨rfl, hb2⟩
  have hc3_0 : w1.cell? ⟨w.heap.size, 0, none⟩ = some (.slice a0 x0.length c0) := (keep hb2 (by simp [go_sem]))
  have hc4_0 : w1.cell? ⟨w.heap.size + 1, 0, none⟩ = some (.slice a1 x1.length c1) := (keep hb2 (by simp [go_sem]))
  have hc5_0 : w1.cell? ⟨w.heap.size + 1 + 1, 0, none⟩ = some (.int .i64 i2) := (keep hb2 (by simp [go_sem]))
  have hc5_1 : w1.cell? ⟨w.heap.size + 1 + 1, 1, none⟩ = some (.int .i64 j2) := (keep hb2 (by simp [go_sem]))
  have hB := (bthen (below_alloc3 _ _ _ _) hb2)
  have hs6 := hb2.size
  simp only [World.size_alloc] at hs6
  have hc3_l : w.heap.size < w1.heap.size := World.block_lt_of_cell? _ _ hc3_0
  have hc4_l : w.heap.size + 1 < w1.heap.size := World.block_lt_of_cell? _ _ hc4_0
  have hc5_l : w.heap.size + 1 + 1 < w1.heap.size := World.block_lt_of_cell? _ _ hc5_0
  clear hb2
  have hn0 : x0.length ≤ 1048576 := by omega
  by_cases hz2 : (1048576 - (x0.length : Int)) < (x1.length : Int)
  · go_wp2_with fail
    refine (laws_szCard_over a1 c1 x1 ((1048576 - (x0.length : Int))) _ (hx1.kept hB) (by omega) (by omega) hm1 hz2).mono ?_
    rintro e wz ⟨rfl, hz⟩
    go_wp2_with fail
    go_ret
    exact ⟨rfl, bthen hB hz⟩
  go_wp2_with fail
  refine (laws_szCard_ok a1 c1 x1 ((1048576 - (x0.length : Int))) _ (hx1.kept hB) (by omega) (by omega) hm1 (by omega)).mono ?_
  rintro e w7 ⟨rfl, hb8⟩
  replace hc3_0 := (keep hb8 hc3_0)
  replace hc4_0 := (keep hb8 hc4_0)
  replace hc5_0 := (keep hb8 hc5_0)
  replace hc5_1 := (keep hb8 hc5_1)
  replace hB := (bthen hB hb8)
  have hs9 := hb8.size
  replace hc3_l : w.heap.size < w7.heap.size := World.block_lt_of_cell? _ _ hc3_0
  replace hc4_l : w.heap.size + 1 < w7.heap.size := World.block_lt_of_cell? _ _ hc4_0
  replace hc5_l : w.heap.size + 1 + 1 < w7.heap.size := World.block_lt_of_cell? _ _ hc5_0
  clear hb8
  have hn1 : x1.length ≤ 1048576 := by omega
  go_wp2_with fail
  go_region_held3 (fun W => Below w7.heap.size w7 W ∧ W.cell? ⟨w.heap.size, 0, none⟩ = some (.slice a0 x0.length c0) ∧ W.cell? ⟨w.heap.size + 1, 0, none⟩ = some (.slice a1 x1.length c1) ∧ W.cell? ⟨w.heap.size + 1 + 1, 0, none⟩ = some (.int .i64 i2) ∧ W.cell? ⟨w.heap.size + 1 + 1, 1, none⟩ = some (.int .i64 j2)) (first | exact held4 (below_drewN (Below.refl _ _) 1) hc3_0 hc4_0 hc5_0 hc5_1 | (rename Below w7.heap.size w7 _ ∧ _ => hH; refine held4 ?_ hc3_0 hc4_0 hc5_0 hc5_1; (refine bthen hH.1 ?_; assumption))) (first | (go_at_call 26; ((with_reducible refine (laws_toCard a0 c0 x0 _ (hx0.kept (bthen hB (And.left ‹Below w7.heap.size w7 _ ∧ _›))) hn0).mono ?_); rintro e w11 ⟨a12, c13, rfl, ho14, hb10⟩)) | (go_at_call 26; ((with_reducible refine (laws_toCard a1 c1 x1 _ (hx1.kept (bthen hB (And.left ‹Below w7.heap.size w7 _ ∧ _›))) hn1).mono ?_); rintro e w16 ⟨a17, c18, rfl, ho19, hb15⟩)) | (go_at_call 34; ((with_reducible refine (laws_toField i2 j2 _).mono ?_); rintro e w21 ⟨rfl, hb20⟩)) | (go_at_call 36; ((with_reducible refine (spec_CompareFields a12 c13 x0 a17 c18 x1 i2 j2 _ (((((OI.of ho14).RI).kept hb15).kept hb20)) ((((OI.of ho19).RI).kept hb20)) hn0 (OI.cap0 (OI.of ho14)) hn1 (OI.cap0 (OI.of ho19))).mono ?_); rintro e w23 ⟨rfl, hb22⟩)))
  replace hc3_0 := (keep hb22 (keep hb20 (keep hb15 (keep hb10 (keep (below_drewN (Below.refl _ _) 1) hc3_0)))))
  replace hc4_0 := (keep hb22 (keep hb20 (keep hb15 (keep hb10 (keep (below_drewN (Below.refl _ _) 1) hc4_0)))))
  replace hc5_0 := (keep hb22 (keep hb20 (keep hb15 (keep hb10 (keep (below_drewN (Below.refl _ _) 1) hc5_0)))))
  replace hc5_1 := (keep hb22 (keep hb20 (keep hb15 (keep hb10 (keep (below_drewN (Below.refl _ _) 1) hc5_1)))))
  replace hB := (bthen (bthen (bthen (bthen (bthen hB (below_drewN (Below.refl _ _) 1)) hb10) hb15) hb20) hb22)
  have hs24 := hb10.size
  simp only [World.size_drew] at hs24
  have hs25 := hb15.size
  have hs26 := hb20.size
  have hs27 := hb22.size
  replace hc3_l : w.heap.size < w23.heap.size := World.block_lt_of_cell? _ _ hc3_0
  replace hc4_l : w.heap.size + 1 < w23.heap.size := World.block_lt_of_cell? _ _ hc4_0
  replace hc5_l : w.heap.size + 1 + 1 < w23.heap.size := World.block_lt_of_cell? _ _ hc5_0
  clear ho14
  clear ho19
  clear hb10 hb15 hb20 hb22
  go_wp2_with fail
  refine (laws_toCard a0 c0 x0 _ (hx0.kept hB) hn0).mono ?_
  rintro e w29 ⟨a30, c31, rfl, ho32, hb28⟩
  replace hc3_0 := (keep hb28 hc3_0)
  replace hc4_0 := (keep hb28 hc4_0)
  replace hc5_0 := (keep hb28 hc5_0)
  replace hc5_1 := (keep hb28 hc5_1)
  replace hB := (bthen hB hb28)
  have hs33 := hb28.size
  replace hc3_l : w.heap.size < w29.heap.size := World.block_lt_of_cell? _ _ hc3_0
  replace hc4_l : w.heap.size + 1 < w29.heap.size := World.block_lt_of_cell? _ _ hc4_0
  replace hc5_l : w.heap.size + 1 + 1 < w29.heap.size := World.block_lt_of_cell? _ _ hc5_0
  clear hb28
  replace ho32 := OI.of (own_mono (B := w23.heap.size) ho32 (by first | exact Nat.le_refl _ | simp))
  go_wp2_with fail
  refine (laws_toCard a1 c1 x1 _ (hx1.kept (bthen hB (below_alloc _))) hn1).mono ?_
  rintro e w35 ⟨a36, c37, rfl, ho38, hb34⟩
  replace hc3_0 := (keep hb34 (keep (below_alloc _) hc3_0))
  replace hc4_0 := (keep hb34 (keep (below_alloc _) hc4_0))
  replace hc5_0 := (keep hb34 (keep (below_alloc _) hc5_0))
  replace hc5_1 := (keep hb34 (keep (below_alloc _) hc5_1))
  have hc39_0 : w35.cell? ⟨w29.heap.size, 0, none⟩ = some (.slice a30 x0.length c31) := (keep hb34 (by simp [go_sem]))
  replace ho32 := ((ho32.kept (below_alloc _)).kept hb34)
  replace hB := (bthen (bthen hB (below_alloc _)) hb34)
  have hs40 := hb34.size
  simp only [World.size_alloc] at hs40
  replace hc3_l : w.heap.size < w35.heap.size := World.block_lt_of_cell? _ _ hc3_0
  replace hc4_l : w.heap.size + 1 < w35.heap.size := World.block_lt_of_cell? _ _ hc4_0
  replace hc5_l : w.heap.size + 1 + 1 < w35.heap.size := World.block_lt_of_cell? _ _ hc5_0
  have hc39_l : w29.heap.size < w35.heap.size := World.block_lt_of_cell? _ _ hc39_0
  clear hb34
  replace ho38 := OI.of (own_mono (B := w29.heap.size + 1) ho38 (by first | exact Nat.le_refl _ | simp))
  go_wp2_with fail
  generalize hWW : (w35.alloc (.cells #[.slice a36 x1.length c37] 43)) = w41
  have hb42 : Below w35.heap.size w35 w41 := by rw [← hWW]; exact (below_alloc _)
  have hs43 : w35.heap.size + 1 ≤ w41.heap.size := by rw [← hWW]; simp
  have hc44_0 : w41.cell? ⟨w35.heap.size, 0, none⟩ = some (.slice a36 x1.length c37) := by rw [← hWW]; simp [go_sem]
  have hc44_l : w35.heap.size < w41.heap.size := World.block_lt_of_cell? _ _ hc44_0
  clear hWW
  replace hc3_0 := (keep hb42 hc3_0)
  replace hc4_0 := (keep hb42 hc4_0)
  replace hc5_0 := (keep hb42 hc5_0)
  replace hc5_1 := (keep hb42 hc5_1)
  replace hc39_0 := (keep hb42 hc39_0)
  replace ho32 := (ho32.kept hb42)
  replace ho38 := (ho38.kept hb42)
  replace hB := (bthen hB hb42)
  have hs45 := hb42.size
  replace hc3_l : w.heap.size < w41.heap.size := World.block_lt_of_cell? _ _ hc3_0
  replace hc4_l : w.heap.size + 1 < w41.heap.size := World.block_lt_of_cell? _ _ hc4_0
  replace hc5_l : w.heap.size + 1 + 1 < w41.heap.size := World.block_lt_of_cell? _ _ hc5_0
  replace hc39_l : w29.heap.size < w41.heap.size := World.block_lt_of_cell? _ _ hc39_0
  clear hb42
  go_wp2_with fail
  go_region_held3 (fun W => Below w41.heap.size w41 W ∧ W.cell? ⟨w29.heap.size, 0, none⟩ = some (.slice a30 x0.length c31) ∧ W.cell? ⟨w35.heap.size, 0, none⟩ = some (.slice a36 x1.length c37) ∧ W.cell? ⟨w.heap.size + 1 + 1, 0, none⟩ = some (.int .i64 i2) ∧ W.cell? ⟨w.heap.size + 1 + 1, 1, none⟩ = some (.int .i64 j2)) (first | exact held4 (below_drewN (Below.refl _ _) 1) hc39_0 hc44_0 hc5_0 hc5_1 | (rename Below w41.heap.size w41 _ ∧ _ => hH; refine held4 ?_ hc39_0 hc44_0 hc5_0 hc5_1; (refine bthen hH.1 ?_; assumption))) (first | (go_at_call 34; ((with_reducible refine (laws_toField i2 j2 _).mono ?_); rintro e w47 ⟨rfl, hb46⟩)) | (go_at_call 37; ((with_reducible refine (impl_CompareFields a30 c31 x0 a36 c37 x1 i2 j2 _ ((ho32.RI).kept (And.left ‹Below w41.heap.size w41 _ ∧ _›)) ((ho38.RI).kept (And.left ‹Below w41.heap.size w41 _ ∧ _›)) hn0 (OI.cap0 ho32) hn1 (OI.cap0 ho38)).mono ?_); rintro e w49 ⟨rfl, hb48⟩)))
  replace hc3_0 := (keep hb48 (keep hb46 (keep (below_drewN (Below.refl _ _) 1) hc3_0)))
  replace hc4_0 := (keep hb48 (keep hb46 (keep (below_drewN (Below.refl _ _) 1) hc4_0)))
  replace hc5_0 := (keep hb48 (keep hb46 (keep (below_drewN (Below.refl _ _) 1) hc5_0)))
  replace hc5_1 := (keep hb48 (keep hb46 (keep (below_drewN (Below.refl _ _) 1) hc5_1)))
  replace hc39_0 := (keep hb48 (keep hb46 (keep (below_drewN (Below.refl _ _) 1) hc39_0)))
  replace hc44_0 := (keep hb48 (keep hb46 (keep (below_drewN (Below.refl _ _) 1) hc44_0)))
  replace ho32 := (((ho32.kept (below_drewN (Below.refl _ _) 1)).kept hb46).kept hb48)
  replace ho38 := (((ho38.kept (below_drewN (Below.refl _ _) 1)).kept hb46).kept hb48)
  replace hB := (bthen (bthen (bthen hB (below_drewN (Below.refl _ _) 1)) hb46) hb48)
  have hs50 := hb46.size
  simp only [World.size_drew] at hs50
  have hs51 := hb48.size
  replace hc3_l : w.heap.size < w49.heap.size := World.block_lt_of_cell? _ _ hc3_0
  replace hc4_l : w.heap.size + 1 < w49.heap.size := World.block_lt_of_cell? _ _ hc4_0
  replace hc5_l : w.heap.size + 1 + 1 < w49.heap.size := World.block_lt_of_cell? _ _ hc5_0
  replace hc39_l : w29.heap.size < w49.heap.size := World.block_lt_of_cell? _ _ hc39_0
  replace hc44_l : w35.heap.size < w49.heap.size := World.block_lt_of_cell? _ _ hc44_0
  clear hb46 hb48
  go_wp2_with fail
  go_region_held3 (fun W => Below w49.heap.size w49 W ∧ W.cell? ⟨w29.heap.size, 0, none⟩ = some (.slice a30 x0.length c31) ∧ W.cell? ⟨w.heap.size, 0, none⟩ = some (.slice a0 x0.length c0)) (first | exact held2 (below_drewN (Below.refl _ _) 1) hc39_0 hc3_0 | (rename Below w49.heap.size w49 _ ∧ _ => hH; refine held2 ?_ hc39_0 hc3_0; (refine bthen hH.1 ?_; assumption))) (first | (go_at_call 26; ((with_reducible refine (laws_toCard a0 c0 x0 _ (hx0.kept (bthen hB (And.left ‹Below w49.heap.size w49 _ ∧ _›))) hn0).mono ?_); rintro e w53 ⟨a54, c55, rfl, ho56, hb52⟩)) | (go_at_call 28; ((with_reducible refine (laws_eqCard_same a30 a54 c31 c55 x0 _ ((ho32.RI).kept (And.left ‹Below w49.heap.size w49 _ ∧ _›)) (((OI.of ho56).RI)) (small hn0)).mono ?_); rintro e w58 ⟨rfl, hb57⟩)))
  replace hc3_0 := (keep hb57 (keep hb52 (keep (below_drewN (Below.refl _ _) 1) hc3_0)))
  replace hc4_0 := (keep hb57 (keep hb52 (keep (below_drewN (Below.refl _ _) 1) hc4_0)))
  replace hc5_0 := (keep hb57 (keep hb52 (keep (below_drewN (Below.refl _ _) 1) hc5_0)))
  replace hc5_1 := (keep hb57 (keep hb52 (keep (below_drewN (Below.refl _ _) 1) hc5_1)))
  replace hc39_0 := (keep hb57 (keep hb52 (keep (below_drewN (Below.refl _ _) 1) hc39_0)))
  replace hc44_0 := (keep hb57 (keep hb52 (keep (below_drewN (Below.refl _ _) 1) hc44_0)))
  replace ho32 := (((ho32.kept (below_drewN (Below.refl _ _) 1)).kept hb52).kept hb57)
  replace ho38 := (((ho38.kept (below_drewN (Below.refl _ _) 1)).kept hb52).kept hb57)
  replace hB := (bthen (bthen (bthen hB (below_drewN (Below.refl _ _) 1)) hb52) hb57)
  have hs59 := hb52.size
  simp only [World.size_drew] at hs59
  have hs60 := hb57.size
  replace hc3_l : w.heap.size < w58.heap.size := World.block_lt_of_cell? _ _ hc3_0
  replace hc4_l : w.heap.size + 1 < w58.heap.size := World.block_lt_of_cell? _ _ hc4_0
  replace hc5_l : w.heap.size + 1 + 1 < w58.heap.size := World.block_lt_of_cell? _ _ hc5_0
  replace hc39_l : w29.heap.size < w58.heap.size := World.block_lt_of_cell? _ _ hc39_0
  replace hc44_l : w35.heap.size < w58.heap.size := World.block_lt_of_cell? _ _ hc44_0
  clear ho56
  clear hb52 hb57
  go_wp2_with fail
  go_region_held3 (fun W => Below w58.heap.size w58 W ∧ W.cell? ⟨w35.heap.size, 0, none⟩ = some (.slice a36 x1.length c37) ∧ W.cell? ⟨w.heap.size + 1, 0, none⟩ = some (.slice a1 x1.length c1)) (first | exact held2 (below_drewN (Below.refl _ _) 1) hc44_0 hc4_0 | (rename Below w58.heap.size w58 _ ∧ _ => hH; refine held2 ?_ hc44_0 hc4_0; (refine bthen hH.1 ?_; assumption))) (first | (go_at_call 26; ((with_reducible refine (laws_toCard a1 c1 x1 _ (hx1.kept (bthen hB (And.left ‹Below w58.heap.size w58 _ ∧ _›))) hn1).mono ?_); rintro e w62 ⟨a63, c64, rfl, ho65, hb61⟩)) | (go_at_call 28; ((with_reducible refine (laws_eqCard_same a36 a63 c37 c64 x1 _ ((ho38.RI).kept (And.left ‹Below w58.heap.size w58 _ ∧ _›)) (((OI.of ho65).RI)) (small hn1)).mono ?_); rintro e w67 ⟨rfl, hb66⟩)))
  replace hc3_0 := (keep hb66 (keep hb61 (keep (below_drewN (Below.refl _ _) 1) hc3_0)))
  replace hc4_0 := (keep hb66 (keep hb61 (keep (below_drewN (Below.refl _ _) 1) hc4_0)))
  replace hc5_0 := (keep hb66 (keep hb61 (keep (below_drewN (Below.refl _ _) 1) hc5_0)))
  replace hc5_1 := (keep hb66 (keep hb61 (keep (below_drewN (Below.refl _ _) 1) hc5_1)))
  replace hc39_0 := (keep hb66 (keep hb61 (keep (below_drewN (Below.refl _ _) 1) hc39_0)))
  replace hc44_0 := (keep hb66 (keep hb61 (keep (below_drewN (Below.refl _ _) 1) hc44_0)))
  replace ho32 := (((ho32.kept (below_drewN (Below.refl _ _) 1)).kept hb61).kept hb66)
  replace ho38 := (((ho38.kept (below_drewN (Below.refl _ _) 1)).kept hb61).kept hb66)
  replace hB := (bthen (bthen (bthen hB (below_drewN (Below.refl _ _) 1)) hb61) hb66)
  have hs68 := hb61.size
  simp only [World.size_drew] at hs68
  have hs69 := hb66.size
  replace hc3_l : w.heap.size < w67.heap.size := World.block_lt_of_cell? _ _ hc3_0
  replace hc4_l : w.heap.size + 1 < w67.heap.size := World.block_lt_of_cell? _ _ hc4_0
  replace hc5_l : w.heap.size + 1 + 1 < w67.heap.size := World.block_lt_of_cell? _ _ hc5_0
  replace hc39_l : w29.heap.size < w67.heap.size := World.block_lt_of_cell? _ _ hc39_0
  replace hc44_l : w35.heap.size < w67.heap.size := World.block_lt_of_cell? _ _ hc44_0
  clear ho65
  clear hb61 hb66
  go_wp2_with fail
  go_ret
  exact ⟨rfl, hB⟩

theorem lifted (os : Os) (started : os.Started) (H : Type) (enc : TypeId × Value → H) :
    ReturnsInHanded {} Try.checked os 10 .any (Rows.fnExactCompareFieldsSpec.pre6 enc Try.prog Try.f10 Rows.fnExactCompareFieldsRow.domain false) (Rows.fnExactCompareFieldsSpec.post enc Try.prog Try.f10 false true false false) := by
  refine returnsInHanded_of_change (C := Try.checked) own started (by kernel_rfl) Try.func10
    (ChangeSpec.witness6 (enc := enc) (C := Try.checked) false ⟨#[], #[.agg #[.slice none 0 0], .agg #[.slice none 0 0], .agg #[.int .i64 0, .int .i64 0]], []⟩ 8 (by kernel_rfl) (by kernel_rfl) (by kernel_rfl) (by kernel_rfl)) ?_
  intro W base args ds gs before hval0 hW hcnd _
  have hval : ∀ (j : Nat) t v, Try.f10.params[j]? = some t → args[j]? = some v → Value.okWide Try.prog W .any base t v := hval0
  have hW' := hW
  obtain ⟨p, q, hA0, hV, rfl, hfz, hnd⟩ := hW
  have hA : DataW.TrodAll enc Try.prog W 0 (fun _ => true) true Try.f10.params.toList args.toList ds p := hA0
  rw [Try.params10] at hA hval
  obtain ⟨v0, vs0, d0, ds0, p0, q0, hargs, rfl, rfl, h0, r0⟩ := trodAll_cons hA
  obtain ⟨v1, vs1, d1, ds1, p1, q1, rfl, rfl, rfl, h1, r1⟩ := trodAll_cons r0
  obtain ⟨v2, vs2, d2, ds2, p2, q2, rfl, rfl, rfl, h2, r2⟩ := trodAll_cons r1
  obtain ⟨rfl, rfl, rfl⟩ := trodAll_nil r2
  obtain rfl : args = #[v0, v1, v2] := by cases args; simp_all
  obtain ⟨rfl, rfl⟩ := trodVars_none hV
  have k0 := h0
  have lt0 : ∀ x ∈ p0, x.block < W.heap.size := by obtain ⟨m, hm⟩ := k0; exact DataW.trod_lt m _ _ _ hm
  obtain ⟨a0, c0, x0, rfl, hx0, hm0⟩ := open_card Try.underlying41 rfl rfl Try.underlying39 Try.underlying2 (by kernel_rfl) (by kernel_rfl) (by kernel_rfl) (hval 0 41 v0 rfl rfl) h0
  have k1 := h1
  have lt1 : ∀ x ∈ p1, x.block < W.heap.size := by obtain ⟨m, hm⟩ := k1; exact DataW.trod_lt m _ _ _ hm
  obtain ⟨a1, c1, x1, rfl, hx1, hm1⟩ := open_card Try.underlying41 rfl rfl Try.underlying39 Try.underlying2 (by kernel_rfl) (by kernel_rfl) (by kernel_rfl) (hval 1 41 v1 rfl rfl) h1
  have k2 := h2
  have lt2 : ∀ x ∈ p2, x.block < W.heap.size := by obtain ⟨m, hm⟩ := k2; exact DataW.trod_lt m _ _ _ hm
  obtain ⟨i2, j2, rfl, zi2, zj2⟩ := open_field Try.underlying53 rfl rfl rfl rfl Try.underlying2 (by kernel_rfl) (by kernel_rfl) (hval 2 53 v2 rfl rfl) h2
  clear hA0 hval0
  refine (walk a0 c0 x0 a1 c1 x1 i2 j2 W hx0 hm0 hx1 hm1).mono fun e W' ⟨he, bel⟩ => ?_
  subst he
  exact ⟨_, rfl, _, _, _, [], _, [], hW', trodAll_mk1 (shut_bool Try.underlying4 _), (trodAll_cons_mk (Below.trod laidOut (by kernel_rfl) (of_decide_eq_true (by kernel_rfl)) k0 bel lt0) (trodAll_cons_mk (Below.trod laidOut (by kernel_rfl) (of_decide_eq_true (by kernel_rfl)) k1 bel lt1) (trodAll_cons_mk (Below.trod laidOut (by kernel_rfl) (of_decide_eq_true (by kernel_rfl)) k2 bel lt2) trodAll_mk0))), rfl, bel.frame _, fun h => by cases h⟩

theorem over : Rows.fnExactCompareFieldsRow.holds Try.pinned (OpenSpec.ofChange Rows.fnExactCompareFieldsSpec) :=
  OpenClaim.holds_of_wide 10 Try.f10 rfl rfl rfl rfl rfl rfl rfl ⟨rfl, rfl, rfl, rfl, rfl⟩ rfl rfl rfl rfl rfl (by kernel_rfl) Try.func10 (by kernel_rfl)
    (of_decide_eq_true (by kernel_rfl)) (by unfold Func.isWrapper; first | (rw [if_pos (by decide +kernel)]; kernel_rfl) | (rw [if_neg (by decide +kernel)]; exact ⟨rfl, rfl⟩))
    (fun os started H enc _ => lifted os started H enc)

/-- The statement. -/
theorem proved : Rows.FnExactCompareFieldsSaid := over
#print axioms proved
end Go.Proofs.Ytnjgeclbdopdoaa.fnExactCompareFields
