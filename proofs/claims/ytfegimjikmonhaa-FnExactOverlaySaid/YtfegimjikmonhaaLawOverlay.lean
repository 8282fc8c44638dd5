/- FnExactOverlay: for all arguments the law returns true, and memory that was there is as it was. No condition. -/
import Derived.Test.YtfegimjikmonhaaRows
import Derived.Test.YtfegimjikmonhaaOpen
import Derived.Deep.RegionHeld3
import Derived.Deep.CutRange
import Derived.ShutString
import Derived.Test.YtfegimjikmonhaaMark
import Derived.Test.YtfegimjikmonhaaCards
import Derived.Test.YtfegimjikmonhaaLay
namespace Go.Proofs.Ytfegimjikmonhaa.fnExactOverlay
open Go.ChangeShapes Go.WideShapes Go.ChangeAt Go.RowKit
open Go.ChangeMaps (open_string shut_string)
set_option linter.unusedVariables false
set_option linter.unusedSimpArgs false
set_option linter.unnecessarySimpa false
set_option maxRecDepth 100000

theorem own : ownKnob Try.prog.godebug = none := by kernel_rfl
theorem laidOut : laidOutB Try.prog = true := by kernel_rfl

set_option maxHeartbeats 4000000 in
/-- The Go text returns true; memory has at most new blocks. -/
theorem walk (a0 : Option Addr) (c0 : Nat) (x0 : List Int) (a1 : Option Addr) (c1 : Nat) (x1 : List Int) (w : World) (hx0 : RI w a0 x0) (hm0 : x0.length ≤ maxLen) (hx1 : RI w a1 x1) (hm1 : x1.length ≤ maxLen) :
    Calls Try.prog 5 #[.agg #[.slice a0 x0.length c0], .agg #[.slice a1 x1.length c1]] w fun e w' => e = .returned (.bool true) ∧ Below w.heap.size w w' := by
  go_enter Try.func5, Try.ntmps5
  by_cases hz1 : 1048576 < (x0.length : Int)
  · go_wp2_with fail
    refine (laws_szCard_over a0 c0 x0 (1048576) _ (hx0.kept (below_alloc2 _ _ _)) (by omega) (by omega) hm0 hz1).mono ?_
    rintro e wz ⟨rfl, hz⟩
    go_wp2_with fail
    go_ret
    exact ⟨rfl, bthen (below_alloc2 _ _ _) hz⟩
  go_wp2_with fail
  refine (laws_szCard_ok a0 c0 x0 (1048576) _ (hx0.kept (below_alloc2 _ _ _)) (by omega) (by omega) hm0 (by omega)).mono ?_
  rintro e w1 ⟨rfl, hb2⟩
  have hc3_0 : w1.cell? ⟨w.heap.size, 0, none⟩ = some (.slice a0 x0.length c0) := (keep hb2 (by simp [go_sem]))
  have hc4_0 : w1.cell? ⟨w.heap.size + 1, 0, none⟩ = some (.slice a1 x1.length c1) := (keep hb2 (by simp [go_sem]))
  have hB := (bthen (below_alloc2 _ _ _) hb2)
  have hs5 := hb2.size
  simp only [World.size_alloc] at hs5
  have hc3_l : w.heap.size < w1.heap.size := World.block_lt_of_cell? _ _ hc3_0
  have hc4_l : w.heap.size + 1 < w1.heap.size := World.block_lt_of_cell? _ _ hc4_0
  clear hb2
  have hn0 : x0.length ≤ 1048576 := by omega
  by_cases hz2 : (1048576 - (x0.length : Int)) < (x1.length : Int)
  · go_wp2_with fail
    refine (laws_szCard_over a1 c1 x1 ((1048576 - (x0.length : Int))) _ (hx1.kept hB) (by omega) (by omega) hm1 hz2).mono ?_
    rintro e wz ⟨rfl, hz⟩
    go_wp2_with fail
    go_ret
    exact ⟨rfl, bthen hB hz⟩
  go_wp2_with fail
  refine (laws_szCard_ok a1 c1 x1 ((1048576 - (x0.length : Int))) _ (hx1.kept hB) (by omega) (by omega) hm1 (by omega)).mono ?_
  rintro e w6 ⟨rfl, hb7⟩
  replace hc3_0 := (keep hb7 hc3_0)
  replace hc4_0 := (keep hb7 hc4_0)
  replace hB := (bthen hB hb7)
  have hs8 := hb7.size
  replace hc3_l : w.heap.size < w6.heap.size := World.block_lt_of_cell? _ _ hc3_0
  replace hc4_l : w.heap.size + 1 < w6.heap.size := World.block_lt_of_cell? _ _ hc4_0
  clear hb7
  have hn1 : x1.length ≤ 1048576 := by omega
  go_upto_region 8 with (fail)
  go_cut [6, 7] from 27 to 34 (fun s6 s7 wx => ∃ (B : Nat) (a : Option Addr) (c : Nat), s6 = .pointer (some ⟨B, 0, none⟩) ∧ s7 = .int .i64 (overlayCode x0 x1) ∧ wx.cell? ⟨B, 0, none⟩ = some (.slice a (overlayL x0 x1).length c) ∧ OI (w6.heap.size) (wx.heap.size) wx 2 a c ((overlayL x0 x1)) ∧ Below w6.heap.size w6 wx)
  case first =>
    go_region_held3 (fun W => Below w6.heap.size w6 W ∧ W.cell? ⟨w.heap.size, 0, none⟩ = some (.slice a0 x0.length c0) ∧ W.cell? ⟨w.heap.size + 1, 0, none⟩ = some (.slice a1 x1.length c1)) (first | exact held2 (below_drewN (Below.refl _ _) 1) hc3_0 hc4_0 | (rename Below w6.heap.size w6 _ ∧ _ => hH; refine held2 ?_ hc3_0 hc4_0; first | (refine bthen hH.1 ?_; assumption) | exact hH.1.alloc hH.1.size _ | (refine below_realloc hH.1 ?_; omega) | (refine hH.1.setCell ?_ _; dsimp only; omega))) (first | (go_at_call 17; ((with_reducible refine (laws_toCard a0 c0 x0 _ (hx0.kept (bthen hB (And.left ‹Below w6.heap.size w6 _ ∧ _›))) hn0).mono ?_); rintro e w10 ⟨a11, c12, rfl, ho13, hb9⟩; have hq := bcell hb9; obtain ⟨hqaw10, hqbw10⟩ := hq; have hqsw10 := hb9.size; (try simp only [World.size_alloc, World.size_drew] at hqsw10); (have hb9n : Below w6.heap.size w6 w10 := by (first | exact hb9 | exact bthen (below_alloc _) hb9 | exact bthen (below_drewN (Below.refl _ _) 1) hb9 | exact bthen (below_drewN (below_alloc _) 1) hb9)); (try (have hltw6w10 : w6.heap.size < w10.heap.size := by omega)); (have hlew6w10 : w6.heap.size ≤ w10.heap.size := by omega))) | (go_at_call 17; ((with_reducible refine (laws_toCard a1 c1 x1 _ (hx1.kept (bthen hB (And.left ‹Below w6.heap.size w6 _ ∧ _›))) hn1).mono ?_); rintro e w15 ⟨a16, c17, rfl, ho18, hb14⟩; have hq := bcell hb14; obtain ⟨hqaw15, hqbw15⟩ := hq; have hqsw15 := hb14.size; (try simp only [World.size_alloc, World.size_drew] at hqsw15); (have hb14n : Below w10.heap.size w10 w15 := by (first | exact hb14 | exact bthen (below_alloc _) hb14 | exact bthen (below_drewN (Below.refl _ _) 1) hb14 | exact bthen (below_drewN (below_alloc _) 1) hb14)); (try (have hltw6w15 : w6.heap.size < w15.heap.size := by omega)); (have hlew6w15 : w6.heap.size ≤ w15.heap.size := by omega); (try (have hltw10w15 : w10.heap.size < w15.heap.size := by omega)); (have hlew10w15 : w10.heap.size ≤ w15.heap.size := by omega))) | (go_at_call 22; ((with_reducible refine (spec_Overlay a11 c12 x0 a16 c17 x1 _ (((((OI.of ho13).RI).kept hb14n).kept0 (by first | exact Below.refl _ _ | exact below_alloc _))) ((((OI.of ho18).RI).kept0 (by first | exact Below.refl _ _ | exact below_alloc _))) (small hn0) (small hn1)).mono ?_); rintro e w20 ⟨a21, c22, rfl, ho23, hb19⟩; have hq := bcell hb19; obtain ⟨hqaw20, hqbw20⟩ := hq; have hqsw20 := hb19.size; (try simp only [World.size_alloc, World.size_drew] at hqsw20); (have hb19n : Below w15.heap.size w15 w20 := by (first | exact hb19 | exact bthen (below_alloc _) hb19 | exact bthen (below_drewN (Below.refl _ _) 1) hb19 | exact bthen (below_drewN (below_alloc _) 1) hb19)); (try (have hltw6w20 : w6.heap.size < w20.heap.size := by omega)); (have hlew6w20 : w6.heap.size ≤ w20.heap.size := by omega); (try (have hltw10w20 : w10.heap.size < w20.heap.size := by omega)); (have hlew10w20 : w10.heap.size ≤ w20.heap.size := by omega); (try (have hltw15w20 : w15.heap.size < w20.heap.size := by omega)); (have hlew15w20 : w15.heap.size ≤ w20.heap.size := by omega))))
    all_goals
      go_wp2_with fail
      go_meet
      rename Below w6.heap.size w6 _ ∧ _ => hH
      refine ⟨_, a21, c22, rfl, rfl, by simp [go_sem, *], ?_, hH.1⟩
      first | (refine cut_alloc ho23 _ ?_; first | omega | (simp only [World.size_alloc]; omega)) | (refine cut_set ho23 _ ?_ ?_ <;> first | omega | (simp only [World.size_alloc]; omega))
  obtain ⟨b26, a27, c28, rfl, rfl, hc31_0, ho29, hb30⟩ := hcut
  rename World => w25
  replace hc3_0 := (keep hb30 hc3_0)
  replace hc4_0 := (keep hb30 hc4_0)
  replace hB := (bthen hB hb30)
  have hs32 := hb30.size
  replace hc3_l : w.heap.size < w25.heap.size := World.block_lt_of_cell? _ _ hc3_0
  replace hc4_l : w.heap.size + 1 < w25.heap.size := World.block_lt_of_cell? _ _ hc4_0
  clear hb30
  have hc31_l : b26 < w25.heap.size := World.block_lt_of_cell? _ _ hc31_0
  have hc31_m := hc31_l
  have hl24 := overlayL_len x0 x1
  go_wp2_with fail
  refine (laws_toCard a0 c0 x0 _ (hx0.kept hB) hn0).mono ?_
  rintro e w34 ⟨a35, c36, rfl, ho37, hb33⟩
  replace hc3_0 := (keep hb33 hc3_0)
  replace hc4_0 := (keep hb33 hc4_0)
  replace hc31_0 := (keep hb33 hc31_0)
  replace ho29 := (ho29.kept hb33)
  replace hB := (bthen hB hb33)
  have hs38 := hb33.size
  replace hc3_l : w.heap.size < w34.heap.size := World.block_lt_of_cell? _ _ hc3_0
  replace hc4_l : w.heap.size + 1 < w34.heap.size := World.block_lt_of_cell? _ _ hc4_0
  replace hc31_l : b26 < w34.heap.size := World.block_lt_of_cell? _ _ hc31_0
  clear hb33
  replace ho37 := OI.of (own_mono (B := w25.heap.size) ho37 (by first | exact Nat.le_refl _ | simp))
  go_wp2_with fail
  refine (laws_toCard a1 c1 x1 _ (hx1.kept (bthen hB (below_alloc _))) hn1).mono ?_
  rintro e w40 ⟨a41, c42, rfl, ho43, hb39⟩
  replace hc3_0 := (keep hb39 (keep (below_alloc _) hc3_0))
  replace hc4_0 := (keep hb39 (keep (below_alloc _) hc4_0))
  replace hc31_0 := (keep hb39 (keep (below_alloc _) hc31_0))
  have hc44_0 : w40.cell? ⟨w34.heap.size, 0, none⟩ = some (.slice a35 x0.length c36) := (keep hb39 (by simp [go_sem]))
  replace ho29 := ((ho29.kept (below_alloc _)).kept hb39)
  replace ho37 := ((ho37.kept (below_alloc _)).kept hb39)
  replace hB := (bthen (bthen hB (below_alloc _)) hb39)
  have hs45 := hb39.size
  simp only [World.size_alloc] at hs45
  replace hc3_l : w.heap.size < w40.heap.size := World.block_lt_of_cell? _ _ hc3_0
  replace hc4_l : w.heap.size + 1 < w40.heap.size := World.block_lt_of_cell? _ _ hc4_0
  replace hc31_l : b26 < w40.heap.size := World.block_lt_of_cell? _ _ hc31_0
  have hc44_l : w34.heap.size < w40.heap.size := World.block_lt_of_cell? _ _ hc44_0
  clear hb39
  replace ho43 := OI.of (own_mono (B := w34.heap.size + 1) ho43 (by first | exact Nat.le_refl _ | simp))
  go_wp2_with fail
  refine (impl_Overlay a35 c36 x0 a41 c42 x1 _ ((ho37.RI).kept (below_alloc _)) ((ho43.RI).kept (below_alloc _)) (small hn0) (small hn1)).mono ?_
  rintro e w47 ⟨a48, c49, rfl, ho50, hb46⟩
  replace hc3_0 := (keep hb46 (keep (below_alloc _) hc3_0))
  replace hc4_0 := (keep hb46 (keep (below_alloc _) hc4_0))
  replace hc31_0 := (keep hb46 (keep (below_alloc _) hc31_0))
  replace hc44_0 := (keep hb46 (keep (below_alloc _) hc44_0))
  have hc52_0 : w47.cell? ⟨w40.heap.size, 0, none⟩ = some (.slice a41 x1.length c42) := (keep hb46 (by simp [go_sem]))
  replace ho29 := ((ho29.kept (below_alloc _)).kept hb46)
  replace ho37 := ((ho37.kept (below_alloc _)).kept hb46)
  replace ho43 := ((ho43.kept (below_alloc _)).kept hb46)
  replace hB := (bthen (bthen hB (below_alloc _)) hb46)
  have hs53 := hb46.size
  simp only [World.size_alloc] at hs53
  replace hc3_l : w.heap.size < w47.heap.size := World.block_lt_of_cell? _ _ hc3_0
  replace hc4_l : w.heap.size + 1 < w47.heap.size := World.block_lt_of_cell? _ _ hc4_0
  replace hc31_l : b26 < w47.heap.size := World.block_lt_of_cell? _ _ hc31_0
  replace hc44_l : w34.heap.size < w47.heap.size := World.block_lt_of_cell? _ _ hc44_0
  have hc52_l : w40.heap.size < w47.heap.size := World.block_lt_of_cell? _ _ hc52_0
  clear hb46
  replace ho50 := OI.of (own_mono (B := w40.heap.size + 1) ho50 (by first | exact Nat.le_refl _ | simp))
  have hl51 := overlayL_len x0 x1
  go_wp2_with fail
  refine (laws_eqCard_same a48 a27 c49 c28 (overlayL x0 x1) _ ((ho50.RI).kept (below_alloc _)) ((ho29.RI).kept (below_alloc _)) (small hl51)).mono ?_
  rintro e w55 ⟨rfl, hb54⟩
  replace hc3_0 := (keep hb54 (keep (below_alloc _) hc3_0))
  replace hc4_0 := (keep hb54 (keep (below_alloc _) hc4_0))
  replace hc31_0 := (keep hb54 (keep (below_alloc _) hc31_0))
  replace hc44_0 := (keep hb54 (keep (below_alloc _) hc44_0))
  replace hc52_0 := (keep hb54 (keep (below_alloc _) hc52_0))
  have hc56_0 : w55.cell? ⟨w47.heap.size, 0, none⟩ = some (.slice a48 (overlayL x0 x1).length c49) := (keep hb54 (by simp [go_sem]))
  replace ho29 := ((ho29.kept (below_alloc _)).kept hb54)
  replace ho37 := ((ho37.kept (below_alloc _)).kept hb54)
  replace ho43 := ((ho43.kept (below_alloc _)).kept hb54)
  replace ho50 := ((ho50.kept (below_alloc _)).kept hb54)
  replace hB := (bthen (bthen hB (below_alloc _)) hb54)
  have hs57 := hb54.size
  simp only [World.size_alloc] at hs57
  replace hc3_l : w.heap.size < w55.heap.size := World.block_lt_of_cell? _ _ hc3_0
  replace hc4_l : w.heap.size + 1 < w55.heap.size := World.block_lt_of_cell? _ _ hc4_0
  replace hc31_l : b26 < w55.heap.size := World.block_lt_of_cell? _ _ hc31_0
  replace hc44_l : w34.heap.size < w55.heap.size := World.block_lt_of_cell? _ _ hc44_0
  replace hc52_l : w40.heap.size < w55.heap.size := World.block_lt_of_cell? _ _ hc52_0
  have hc56_l : w47.heap.size < w55.heap.size := World.block_lt_of_cell? _ _ hc56_0
  clear hb54
  go_wp2_with fail
  go_region_held3 (fun W => Below w55.heap.size w55 W ∧ W.cell? ⟨w34.heap.size, 0, none⟩ = some (.slice a35 x0.length c36) ∧ W.cell? ⟨w.heap.size, 0, none⟩ = some (.slice a0 x0.length c0)) (first | exact held2 (below_drewN (Below.refl _ _) 1) hc44_0 hc3_0 | (rename Below w55.heap.size w55 _ ∧ _ => hH; refine held2 ?_ hc44_0 hc3_0; (refine bthen hH.1 ?_; assumption))) (first | (go_at_call 17; ((with_reducible refine (laws_toCard a0 c0 x0 _ (hx0.kept (bthen hB (And.left ‹Below w55.heap.size w55 _ ∧ _›))) hn0).mono ?_); rintro e w59 ⟨a60, c61, rfl, ho62, hb58⟩)) | (go_at_call 19; ((with_reducible refine (laws_eqCard_same a35 a60 c36 c61 x0 _ ((ho37.RI).kept (And.left ‹Below w55.heap.size w55 _ ∧ _›)) (((OI.of ho62).RI)) (small hn0)).mono ?_); rintro e w64 ⟨rfl, hb63⟩)))
  replace hc3_0 := (keep hb63 (keep hb58 (keep (below_drewN (Below.refl _ _) 1) hc3_0)))
  replace hc4_0 := (keep hb63 (keep hb58 (keep (below_drewN (Below.refl _ _) 1) hc4_0)))
  replace hc31_0 := (keep hb63 (keep hb58 (keep (below_drewN (Below.refl _ _) 1) hc31_0)))
  replace hc44_0 := (keep hb63 (keep hb58 (keep (below_drewN (Below.refl _ _) 1) hc44_0)))
  replace hc52_0 := (keep hb63 (keep hb58 (keep (below_drewN (Below.refl _ _) 1) hc52_0)))
  replace hc56_0 := (keep hb63 (keep hb58 (keep (below_drewN (Below.refl _ _) 1) hc56_0)))
  replace ho29 := (((ho29.kept (below_drewN (Below.refl _ _) 1)).kept hb58).kept hb63)
  replace ho37 := (((ho37.kept (below_drewN (Below.refl _ _) 1)).kept hb58).kept hb63)
  replace ho43 := (((ho43.kept (below_drewN (Below.refl _ _) 1)).kept hb58).kept hb63)
  replace ho50 := (((ho50.kept (below_drewN (Below.refl _ _) 1)).kept hb58).kept hb63)
  replace hB := (bthen (bthen (bthen hB (below_drewN (Below.refl _ _) 1)) hb58) hb63)
  have hs65 := hb58.size
  simp only [World.size_drew] at hs65
  have hs66 := hb63.size
  replace hc3_l : w.heap.size < w64.heap.size := World.block_lt_of_cell? _ _ hc3_0
  replace hc4_l : w.heap.size + 1 < w64.heap.size := World.block_lt_of_cell? _ _ hc4_0
  replace hc31_l : b26 < w64.heap.size := World.block_lt_of_cell? _ _ hc31_0
  replace hc44_l : w34.heap.size < w64.heap.size := World.block_lt_of_cell? _ _ hc44_0
  replace hc52_l : w40.heap.size < w64.heap.size := World.block_lt_of_cell? _ _ hc52_0
  replace hc56_l : w47.heap.size < w64.heap.size := World.block_lt_of_cell? _ _ hc56_0
  clear ho62
  clear hb58 hb63
  go_wp2_with fail
  go_region_held3 (fun W => Below w64.heap.size w64 W ∧ W.cell? ⟨w40.heap.size, 0, none⟩ = some (.slice a41 x1.length c42) ∧ W.cell? ⟨w.heap.size + 1, 0, none⟩ = some (.slice a1 x1.length c1)) (first | exact held2 (below_drewN (Below.refl _ _) 1) hc52_0 hc4_0 | (rename Below w64.heap.size w64 _ ∧ _ => hH; refine held2 ?_ hc52_0 hc4_0; (refine bthen hH.1 ?_; assumption))) (first | (go_at_call 17; ((with_reducible refine (laws_toCard a1 c1 x1 _ (hx1.kept (bthen hB (And.left ‹Below w64.heap.size w64 _ ∧ _›))) hn1).mono ?_); rintro e w68 ⟨a69, c70, rfl, ho71, hb67⟩)) | (go_at_call 19; ((with_reducible refine (laws_eqCard_same a41 a69 c42 c70 x1 _ ((ho43.RI).kept (And.left ‹Below w64.heap.size w64 _ ∧ _›)) (((OI.of ho71).RI)) (small hn1)).mono ?_); rintro e w73 ⟨rfl, hb72⟩)))
  replace hc3_0 := (keep hb72 (keep hb67 (keep (below_drewN (Below.refl _ _) 1) hc3_0)))
  replace hc4_0 := (keep hb72 (keep hb67 (keep (below_drewN (Below.refl _ _) 1) hc4_0)))
  replace hc31_0 := (keep hb72 (keep hb67 (keep (below_drewN (Below.refl _ _) 1) hc31_0)))
  replace hc44_0 := (keep hb72 (keep hb67 (keep (below_drewN (Below.refl _ _) 1) hc44_0)))
  replace hc52_0 := (keep hb72 (keep hb67 (keep (below_drewN (Below.refl _ _) 1) hc52_0)))
  replace hc56_0 := (keep hb72 (keep hb67 (keep (below_drewN (Below.refl _ _) 1) hc56_0)))
  replace ho29 := (((ho29.kept (below_drewN (Below.refl _ _) 1)).kept hb67).kept hb72)
  replace ho37 := (((ho37.kept (below_drewN (Below.refl _ _) 1)).kept hb67).kept hb72)
  replace ho43 := (((ho43.kept (below_drewN (Below.refl _ _) 1)).kept hb67).kept hb72)
  replace ho50 := (((ho50.kept (below_drewN (Below.refl _ _) 1)).kept hb67).kept hb72)
  replace hB := (bthen (bthen (bthen hB (below_drewN (Below.refl _ _) 1)) hb67) hb72)
  have hs74 := hb67.size
  simp only [World.size_drew] at hs74
  have hs75 := hb72.size
  replace hc3_l : w.heap.size < w73.heap.size := World.block_lt_of_cell? _ _ hc3_0
  replace hc4_l : w.heap.size + 1 < w73.heap.size := World.block_lt_of_cell? _ _ hc4_0
  replace hc31_l : b26 < w73.heap.size := World.block_lt_of_cell? _ _ hc31_0
  replace hc44_l : w34.heap.size < w73.heap.size := World.block_lt_of_cell? _ _ hc44_0
  replace hc52_l : w40.heap.size < w73.heap.size := World.block_lt_of_cell? _ _ hc52_0
  replace hc56_l : w47.heap.size < w73.heap.size := World.block_lt_of_cell? _ _ hc56_0
  clear ho71
  clear hb67 hb72
  go_wp2_with fail
  refine (laws_markCard (w25.heap.size) (w34.heap.size) a35 c36 x0 1 _ ho37 (by omega) (by omega) hn0 (by first | omega | (simp only [World.size_alloc]; omega))).mono ?_
  rintro e w77 ⟨rfl, hw78, ho79⟩
  replace hc3_0 := hw78.cell hc3_0 (by dsimp only; omega)
  replace hc4_0 := hw78.cell hc4_0 (by dsimp only; omega)
  replace hc31_0 := hw78.cell hc31_0 (by dsimp only; omega)
  replace hc44_0 := hw78.cell hc44_0 (by dsimp only; omega)
  replace hc52_0 := hw78.cell hc52_0 (by dsimp only; omega)
  replace hc56_0 := hw78.cell hc56_0 (by dsimp only; omega)
  replace ho29 := ho29.within hw78 (by omega)
  replace ho43 := ho43.within hw78 (by omega)
  replace ho50 := ho50.within hw78 (by omega)
  replace hB := hw78.below hB (by omega) (by first | omega | (simp only [World.size_alloc]; omega))
  have hs80 := hw78.size
  replace hc3_l : w.heap.size < w77.heap.size := World.block_lt_of_cell? _ _ hc3_0
  replace hc4_l : w.heap.size + 1 < w77.heap.size := World.block_lt_of_cell? _ _ hc4_0
  replace hc31_l : b26 < w77.heap.size := World.block_lt_of_cell? _ _ hc31_0
  replace hc44_l : w34.heap.size < w77.heap.size := World.block_lt_of_cell? _ _ hc44_0
  replace hc52_l : w40.heap.size < w77.heap.size := World.block_lt_of_cell? _ _ hc52_0
  replace hc56_l : w47.heap.size < w77.heap.size := World.block_lt_of_cell? _ _ hc56_0
  clear hw78
  clear ho37
  go_wp2_with fail
  refine (laws_markCard (w34.heap.size + 1) (w40.heap.size) a41 c42 x1 (1 + (x0.length : Int)) _ ho43 (by omega) (by omega) hn1 (by first | omega | (simp only [World.size_alloc]; omega))).mono ?_
  rintro e w82 ⟨rfl, hw83, ho84⟩
  replace hc3_0 := hw83.cell hc3_0 (by dsimp only; omega)
  replace hc4_0 := hw83.cell hc4_0 (by dsimp only; omega)
  replace hc31_0 := hw83.cell hc31_0 (by dsimp only; omega)
  replace hc44_0 := hw83.cell hc44_0 (by dsimp only; omega)
  replace hc52_0 := hw83.cell hc52_0 (by dsimp only; omega)
  replace hc56_0 := hw83.cell hc56_0 (by dsimp only; omega)
  replace ho29 := ho29.within hw83 (by omega)
  replace ho79 := ho79.within hw83 (by omega)
  replace ho50 := ho50.within hw83 (by omega)
  replace hB := hw83.below hB (by omega) (by first | omega | (simp only [World.size_alloc]; omega))
  have hs85 := hw83.size
  replace hc3_l : w.heap.size < w82.heap.size := World.block_lt_of_cell? _ _ hc3_0
  replace hc4_l : w.heap.size + 1 < w82.heap.size := World.block_lt_of_cell? _ _ hc4_0
  replace hc31_l : b26 < w82.heap.size := World.block_lt_of_cell? _ _ hc31_0
  replace hc44_l : w34.heap.size < w82.heap.size := World.block_lt_of_cell? _ _ hc44_0
  replace hc52_l : w40.heap.size < w82.heap.size := World.block_lt_of_cell? _ _ hc52_0
  replace hc56_l : w47.heap.size < w82.heap.size := World.block_lt_of_cell? _ _ hc56_0
  clear hw83
  clear ho43
  go_wp2_with fail
  refine (laws_eqCard_same a48 a27 c49 c28 (overlayL x0 x1) _ (ho50.RI) (ho29.RI) (small hl51)).mono ?_
  rintro e w87 ⟨rfl, hb86⟩
  replace hc3_0 := (keep hb86 hc3_0)
  replace hc4_0 := (keep hb86 hc4_0)
  replace hc31_0 := (keep hb86 hc31_0)
  replace hc44_0 := (keep hb86 hc44_0)
  replace hc52_0 := (keep hb86 hc52_0)
  replace hc56_0 := (keep hb86 hc56_0)
  replace ho29 := (ho29.kept hb86)
  replace ho79 := (ho79.kept hb86)
  replace ho84 := (ho84.kept hb86)
  replace ho50 := (ho50.kept hb86)
  replace hB := (bthen hB hb86)
  have hs88 := hb86.size
  replace hc3_l : w.heap.size < w87.heap.size := World.block_lt_of_cell? _ _ hc3_0
  replace hc4_l : w.heap.size + 1 < w87.heap.size := World.block_lt_of_cell? _ _ hc4_0
  replace hc31_l : b26 < w87.heap.size := World.block_lt_of_cell? _ _ hc31_0
  replace hc44_l : w34.heap.size < w87.heap.size := World.block_lt_of_cell? _ _ hc44_0
  replace hc52_l : w40.heap.size < w87.heap.size := World.block_lt_of_cell? _ _ hc52_0
  replace hc56_l : w47.heap.size < w87.heap.size := World.block_lt_of_cell? _ _ hc56_0
  clear hb86
  go_wp2_with fail
  refine (laws_markCard (w40.heap.size + 1) (w47.heap.size) a48 c49 (overlayL x0 x1) 1 _ ho50 (by omega) (by omega) hl51 (by first | omega | (simp only [World.size_alloc]; omega))).mono ?_
  rintro e w90 ⟨rfl, hw91, ho92⟩
  replace hc3_0 := hw91.cell hc3_0 (by dsimp only; omega)
  replace hc4_0 := hw91.cell hc4_0 (by dsimp only; omega)
  replace hc31_0 := hw91.cell hc31_0 (by dsimp only; omega)
  replace hc44_0 := hw91.cell hc44_0 (by dsimp only; omega)
  replace hc52_0 := hw91.cell hc52_0 (by dsimp only; omega)
  replace hc56_0 := hw91.cell hc56_0 (by dsimp only; omega)
  replace ho29 := ho29.within hw91 (by omega)
  replace ho79 := ho79.within hw91 (by omega)
  replace ho84 := ho84.within hw91 (by omega)
  replace hB := hw91.below hB (by omega) (by first | omega | (simp only [World.size_alloc]; omega))
  have hs93 := hw91.size
  replace hc3_l : w.heap.size < w90.heap.size := World.block_lt_of_cell? _ _ hc3_0
  replace hc4_l : w.heap.size + 1 < w90.heap.size := World.block_lt_of_cell? _ _ hc4_0
  replace hc31_l : b26 < w90.heap.size := World.block_lt_of_cell? _ _ hc31_0
  replace hc44_l : w34.heap.size < w90.heap.size := World.block_lt_of_cell? _ _ hc44_0
  replace hc52_l : w40.heap.size < w90.heap.size := World.block_lt_of_cell? _ _ hc52_0
  replace hc56_l : w47.heap.size < w90.heap.size := World.block_lt_of_cell? _ _ hc56_0
  clear hw91
  clear ho50
  go_wp2_with fail
  refine (laws_heldCard a48 c49 (overlayL x0 x1).length 1 _ (ho92.RI) (by omega) (by omega) hl51).mono ?_
  rintro e w95 ⟨rfl, hb94⟩
  replace hc3_0 := (keep hb94 hc3_0)
  replace hc4_0 := (keep hb94 hc4_0)
  replace hc31_0 := (keep hb94 hc31_0)
  replace hc44_0 := (keep hb94 hc44_0)
  replace hc52_0 := (keep hb94 hc52_0)
  replace hc56_0 := (keep hb94 hc56_0)
  replace ho29 := (ho29.kept hb94)
  replace ho79 := (ho79.kept hb94)
  replace ho84 := (ho84.kept hb94)
  replace ho92 := (ho92.kept hb94)
  replace hB := (bthen hB hb94)
  have hs96 := hb94.size
  replace hc3_l : w.heap.size < w95.heap.size := World.block_lt_of_cell? _ _ hc3_0
  replace hc4_l : w.heap.size + 1 < w95.heap.size := World.block_lt_of_cell? _ _ hc4_0
  replace hc31_l : b26 < w95.heap.size := World.block_lt_of_cell? _ _ hc31_0
  replace hc44_l : w34.heap.size < w95.heap.size := World.block_lt_of_cell? _ _ hc44_0
  replace hc52_l : w40.heap.size < w95.heap.size := World.block_lt_of_cell? _ _ hc52_0
  replace hc56_l : w47.heap.size < w95.heap.size := World.block_lt_of_cell? _ _ hc56_0
  clear hb94
  go_upto_region 31 with (fail)
  go_cut [15, 16] from 94 to 101 (fun s15 s16 wx => ∃ (B : Nat) (a : Option Addr) (c : Nat), s15 = .pointer (some ⟨B, 0, none⟩) ∧ s16 = .int .i64 (overlayCode x0 x1) ∧ wx.cell? ⟨B, 0, none⟩ = some (.slice a (overlayL x0 x1).length c) ∧ OI (w95.heap.size) (wx.heap.size) wx 2 a c ((overlayL x0 x1)) ∧ Below w95.heap.size w95 wx)
  case first =>
    go_region_held3 (fun W => Below w95.heap.size w95 W ∧ W.cell? ⟨w.heap.size, 0, none⟩ = some (.slice a0 x0.length c0) ∧ W.cell? ⟨w.heap.size + 1, 0, none⟩ = some (.slice a1 x1.length c1)) (first | exact held2 (below_drewN (Below.refl _ _) 1) hc3_0 hc4_0 | (rename Below w95.heap.size w95 _ ∧ _ => hH; refine held2 ?_ hc3_0 hc4_0; first | (refine bthen hH.1 ?_; assumption) | exact hH.1.alloc hH.1.size _ | (refine below_realloc hH.1 ?_; omega) | (refine hH.1.setCell ?_ _; dsimp only; omega))) (first | (go_at_call 17; ((with_reducible refine (laws_toCard a0 c0 x0 _ (hx0.kept (bthen hB (And.left ‹Below w95.heap.size w95 _ ∧ _›))) hn0).mono ?_); rintro e w98 ⟨a99, c100, rfl, ho101, hb97⟩; have hq := bcell hb97; obtain ⟨hqaw98, hqbw98⟩ := hq; have hqsw98 := hb97.size; (try simp only [World.size_alloc, World.size_drew] at hqsw98); (have hb97n : Below w95.heap.size w95 w98 := by (first | exact hb97 | exact bthen (below_alloc _) hb97 | exact bthen (below_drewN (Below.refl _ _) 1) hb97 | exact bthen (below_drewN (below_alloc _) 1) hb97)); (try (have hltw95w98 : w95.heap.size < w98.heap.size := by omega)); (have hlew95w98 : w95.heap.size ≤ w98.heap.size := by omega))) | (go_at_call 17; ((with_reducible refine (laws_toCard a1 c1 x1 _ (hx1.kept (bthen hB (And.left ‹Below w95.heap.size w95 _ ∧ _›))) hn1).mono ?_); rintro e w103 ⟨a104, c105, rfl, ho106, hb102⟩; have hq := bcell hb102; obtain ⟨hqaw103, hqbw103⟩ := hq; have hqsw103 := hb102.size; (try simp only [World.size_alloc, World.size_drew] at hqsw103); (have hb102n : Below w98.heap.size w98 w103 := by (first | exact hb102 | exact bthen (below_alloc _) hb102 | exact bthen (below_drewN (Below.refl _ _) 1) hb102 | exact bthen (below_drewN (below_alloc _) 1) hb102)); (try (have hltw95w103 : w95.heap.size < w103.heap.size := by omega)); (have hlew95w103 : w95.heap.size ≤ w103.heap.size := by omega); (try (have hltw98w103 : w98.heap.size < w103.heap.size := by omega)); (have hlew98w103 : w98.heap.size ≤ w103.heap.size := by omega))) | (go_at_call 23; ((with_reducible refine (impl_Overlay a99 c100 x0 a104 c105 x1 _ (((((OI.of ho101).RI).kept hb102n).kept0 (by first | exact Below.refl _ _ | exact below_alloc _))) ((((OI.of ho106).RI).kept0 (by first | exact Below.refl _ _ | exact below_alloc _))) (small hn0) (small hn1)).mono ?_); rintro e w108 ⟨a109, c110, rfl, ho111, hb107⟩; have hq := bcell hb107; obtain ⟨hqaw108, hqbw108⟩ := hq; have hqsw108 := hb107.size; (try simp only [World.size_alloc, World.size_drew] at hqsw108); (have hb107n : Below w103.heap.size w103 w108 := by (first | exact hb107 | exact bthen (below_alloc _) hb107 | exact bthen (below_drewN (Below.refl _ _) 1) hb107 | exact bthen (below_drewN (below_alloc _) 1) hb107)); (try (have hltw95w108 : w95.heap.size < w108.heap.size := by omega)); (have hlew95w108 : w95.heap.size ≤ w108.heap.size := by omega); (try (have hltw98w108 : w98.heap.size < w108.heap.size := by omega)); (have hlew98w108 : w98.heap.size ≤ w108.heap.size := by omega); (try (have hltw103w108 : w103.heap.size < w108.heap.size := by omega)); (have hlew103w108 : w103.heap.size ≤ w108.heap.size := by omega))))
    all_goals
      go_wp2_with fail
      go_meet
      rename Below w95.heap.size w95 _ ∧ _ => hH
      refine ⟨_, a109, c110, rfl, rfl, by simp [go_sem, *], ?_, hH.1⟩
      first | (refine cut_alloc ho111 _ ?_; first | omega | (simp only [World.size_alloc]; omega)) | (refine cut_set ho111 _ ?_ ?_ <;> first | omega | (simp only [World.size_alloc]; omega))
  obtain ⟨b114, a115, c116, rfl, rfl, hc119_0, ho117, hb118⟩ := hcut
  rename World => w113
  replace hc3_0 := (keep hb118 hc3_0)
  replace hc4_0 := (keep hb118 hc4_0)
  replace hc31_0 := (keep hb118 hc31_0)
  replace hc44_0 := (keep hb118 hc44_0)
  replace hc52_0 := (keep hb118 hc52_0)
  replace hc56_0 := (keep hb118 hc56_0)
  replace ho29 := (ho29.kept hb118)
  replace ho79 := (ho79.kept hb118)
  replace ho84 := (ho84.kept hb118)
  replace ho92 := (ho92.kept hb118)
  replace hB := (bthen hB hb118)
  have hs120 := hb118.size
  replace hc3_l : w.heap.size < w113.heap.size := World.block_lt_of_cell? _ _ hc3_0
  replace hc4_l : w.heap.size + 1 < w113.heap.size := World.block_lt_of_cell? _ _ hc4_0
  replace hc31_l : b26 < w113.heap.size := World.block_lt_of_cell? _ _ hc31_0
  replace hc44_l : w34.heap.size < w113.heap.size := World.block_lt_of_cell? _ _ hc44_0
  replace hc52_l : w40.heap.size < w113.heap.size := World.block_lt_of_cell? _ _ hc52_0
  replace hc56_l : w47.heap.size < w113.heap.size := World.block_lt_of_cell? _ _ hc56_0
  clear hb118
  have hc119_l : b114 < w113.heap.size := World.block_lt_of_cell? _ _ hc119_0
  have hc119_m := hc119_l
  have hl112 := overlayL_len x0 x1
  go_wp2_with fail
  refine (laws_eqCard_same a115 a27 c116 c28 (overlayL x0 x1) _ (ho117.RI) (ho29.RI) (small hl112)).mono ?_
  rintro e w122 ⟨rfl, hb121⟩
  replace hc3_0 := (keep hb121 hc3_0)
  replace hc4_0 := (keep hb121 hc4_0)
  replace hc31_0 := (keep hb121 hc31_0)
  replace hc44_0 := (keep hb121 hc44_0)
  replace hc52_0 := (keep hb121 hc52_0)
  replace hc56_0 := (keep hb121 hc56_0)
  replace hc119_0 := (keep hb121 hc119_0)
  replace ho29 := (ho29.kept hb121)
  replace ho79 := (ho79.kept hb121)
  replace ho84 := (ho84.kept hb121)
  replace ho92 := (ho92.kept hb121)
  replace ho117 := (ho117.kept hb121)
  replace hB := (bthen hB hb121)
  have hs123 := hb121.size
  replace hc3_l : w.heap.size < w122.heap.size := World.block_lt_of_cell? _ _ hc3_0
  replace hc4_l : w.heap.size + 1 < w122.heap.size := World.block_lt_of_cell? _ _ hc4_0
  replace hc31_l : b26 < w122.heap.size := World.block_lt_of_cell? _ _ hc31_0
  replace hc44_l : w34.heap.size < w122.heap.size := World.block_lt_of_cell? _ _ hc44_0
  replace hc52_l : w40.heap.size < w122.heap.size := World.block_lt_of_cell? _ _ hc52_0
  replace hc56_l : w47.heap.size < w122.heap.size := World.block_lt_of_cell? _ _ hc56_0
  replace hc119_l : b114 < w122.heap.size := World.block_lt_of_cell? _ _ hc119_0
  clear hb121
  go_wp2_with fail
  refine (laws_heldCard a48 c49 (overlayL x0 x1).length 1 _ (ho92.RI) (by omega) (by omega) hl51).mono ?_
  rintro e w125 ⟨rfl, hb124⟩
  replace hc3_0 := (keep hb124 hc3_0)
  replace hc4_0 := (keep hb124 hc4_0)
  replace hc31_0 := (keep hb124 hc31_0)
  replace hc44_0 := (keep hb124 hc44_0)
  replace hc52_0 := (keep hb124 hc52_0)
  replace hc56_0 := (keep hb124 hc56_0)
  replace hc119_0 := (keep hb124 hc119_0)
  replace ho29 := (ho29.kept hb124)
  replace ho79 := (ho79.kept hb124)
  replace ho84 := (ho84.kept hb124)
  replace ho92 := (ho92.kept hb124)
  replace ho117 := (ho117.kept hb124)
  replace hB := (bthen hB hb124)
  have hs126 := hb124.size
  replace hc3_l : w.heap.size < w125.heap.size := World.block_lt_of_cell? _ _ hc3_0
  replace hc4_l : w.heap.size + 1 < w125.heap.size := World.block_lt_of_cell? _ _ hc4_0
  replace hc31_l : b26 < w125.heap.size := World.block_lt_of_cell? _ _ hc31_0
  replace hc44_l : w34.heap.size < w125.heap.size := World.block_lt_of_cell? _ _ hc44_0
  replace hc52_l : w40.heap.size < w125.heap.size := World.block_lt_of_cell? _ _ hc52_0
  replace hc56_l : w47.heap.size < w125.heap.size := World.block_lt_of_cell? _ _ hc56_0
  replace hc119_l : b114 < w125.heap.size := World.block_lt_of_cell? _ _ hc119_0
  clear hb124
  go_wp2_with fail
  go_ret
  exact ⟨rfl, hB⟩

theorem lifted (os : Os) (started : os.Started) (H : Type) (enc : TypeId × Value → H) :
    ReturnsInHanded {} Try.checked os 5 .any (Rows.fnExactOverlaySpec.pre6 enc Try.prog Try.f5 Rows.fnExactOverlayRow.domain false) (Rows.fnExactOverlaySpec.post enc Try.prog Try.f5 false true false false) := by
  refine returnsInHanded_of_change (C := Try.checked) own started (by kernel_rfl) Try.func5
    (ChangeSpec.witness6 (enc := enc) (C := Try.checked) false ⟨#[], #[.agg #[.slice none 0 0], .agg #[.slice none 0 0]], []⟩ 8 (by kernel_rfl) (by kernel_rfl) (by kernel_rfl) (by kernel_rfl)) ?_
  intro W base args ds gs before hval0 hW hcnd _
  have hval : ∀ (j : Nat) t v, Try.f5.params[j]? = some t → args[j]? = some v → Value.okWide Try.prog W .any base t v := hval0
  have hW' := hW
  obtain ⟨p, q, hA0, hV, rfl, hfz, hnd⟩ := hW
  have hA : DataW.TrodAll enc Try.prog W 0 (fun _ => true) true Try.f5.params.toList args.toList ds p := hA0
  rw [Try.params5] at hA hval
  obtain ⟨v0, vs0, d0, ds0, p0, q0, hargs, rfl, rfl, h0, r0⟩ := trodAll_cons hA
  obtain ⟨v1, vs1, d1, ds1, p1, q1, rfl, rfl, rfl, h1, r1⟩ := trodAll_cons r0
  obtain ⟨rfl, rfl, rfl⟩ := trodAll_nil r1
  obtain rfl : args = #[v0, v1] := by cases args; simp_all
  obtain ⟨rfl, rfl⟩ := trodVars_none hV
  have k0 := h0
  have lt0 : ∀ x ∈ p0, x.block < W.heap.size := by obtain ⟨m, hm⟩ := k0; exact DataW.trod_lt m _ _ _ hm
  obtain ⟨a0, c0, x0, rfl, hx0, hm0⟩ := open_card Try.underlying24 rfl rfl Try.underlying22 Try.underlying2 (by kernel_rfl) (by kernel_rfl) (by kernel_rfl) (hval 0 24 v0 rfl rfl) h0
  have k1 := h1
  have lt1 : ∀ x ∈ p1, x.block < W.heap.size := by obtain ⟨m, hm⟩ := k1; exact DataW.trod_lt m _ _ _ hm
  obtain ⟨a1, c1, x1, rfl, hx1, hm1⟩ := open_card Try.underlying24 rfl rfl Try.underlying22 Try.underlying2 (by kernel_rfl) (by kernel_rfl) (by kernel_rfl) (hval 1 24 v1 rfl rfl) h1
  clear hA0 hval0
  refine (walk a0 c0 x0 a1 c1 x1 W hx0 hm0 hx1 hm1).mono fun e W' ⟨he, bel⟩ => ?_
  subst he
  exact ⟨_, rfl, _, _, _, [], _, [], hW', trodAll_mk1 (shut_bool Try.underlying4 _), (trodAll_cons_mk (Below.trod laidOut (by kernel_rfl) (of_decide_eq_true (by kernel_rfl)) k0 bel lt0) (trodAll_cons_mk (Below.trod laidOut (by kernel_rfl) (of_decide_eq_true (by kernel_rfl)) k1 bel lt1) trodAll_mk0)), rfl, bel.frame _, fun h => by cases h⟩

theorem over : Rows.fnExactOverlayRow.holds Try.pinned (OpenSpec.ofChange Rows.fnExactOverlaySpec) :=
  OpenClaim.holds_of_wide 5 Try.f5 rfl rfl rfl rfl rfl rfl rfl ⟨rfl, rfl, rfl, rfl, rfl⟩ rfl rfl rfl rfl rfl (by kernel_rfl) Try.func5 (by kernel_rfl)
    (of_decide_eq_true (by kernel_rfl)) (by unfold Func.isWrapper; first | (rw [if_pos (by decide +kernel)]; kernel_rfl) | (rw [if_neg (by decide +kernel)]; exact ⟨rfl, rfl⟩))
    (fun os started H enc _ => lifted os started H enc)

/-- The statement. -/
theorem proved : Rows.FnExactOverlaySaid := over
#print axioms proved
end Go.Proofs.Ytfegimjikmonhaa.fnExactOverlay
