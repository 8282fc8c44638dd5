/- FnExactPunchNumber: for all arguments the law returns true, and memory that was there is as it was. No condition. -/
import Derived.Test.YtoeohebobmkobaaDoorRows
import Derived.Test.YtoeohebobmkobaaDoorCards
import Derived.Test.YtoeohebobmkobaaDoorTie
import Derived.Deep.DeepHandedRow
import Derived.Lib.LaidTab
import Derived.Stop.LaidErr
import Derived.OpenVars
import Derived.Test.YtoeohebobmkobaaDoorTabs
import Derived.Test.YtoeohebobmkobaaDoorOpen
import Derived.Deep.RegionHeld3
import Derived.Deep.CutRange
import Derived.ShutString
import Derived.Test.YtoeohebobmkobaaDoorMark
import Derived.Test.YtoeohebobmkobaaDoorPutN
namespace Go.Proofs.YtoeohebobmkobaaDoor.fnExactPunchNumber
open Go.ChangeShapes Go.WideShapes Go.ChangeAt Go.RowKit
open Go.ChangeMaps (open_string shut_string)
set_option linter.unusedVariables false
set_option linter.unusedSimpArgs false
set_option linter.unnecessarySimpa false
set_option maxRecDepth 100000

theorem own : ownKnob Tryd.prog.godebug = none := by kernel_rfl
theorem laidOut : laidOutB Tryd.prog = true := by kernel_rfl

set_option maxHeartbeats 4000000 in
/-- The Go text returns true; memory has at most new blocks. -/
theorem walk (a0 : Option Addr) (c0 : Nat) (x0 : List Int) (i1 j1 : Int) (i2 : Int) (w : World) (hx0 : RI w a0 x0) (hm0 : x0.length ≤ maxLen) (y2 : -9223372036854775808 ≤ i2 ∧ i2 ≤ 9223372036854775807) (ht : Pow10 w) :
    Calls Tryd.prog 3 #[.agg #[.slice a0 x0.length c0], .agg #[.int .i64 i1, .int .i64 j1], .int .i64 i2] w fun e w' => e = .returned (.bool true) ∧ Below w.heap.size w w' := by
  go_enter Tryd.func3, Tryd.ntmps3
  by_cases hz1 : 1048576 < (x0.length : Int)
  · go_wp2_with fail
    refine (laws_szCard_over a0 c0 x0 (1048576) _ (hx0.kept (below_alloc2 _ _ _)) (by omega) (by omega) hm0 hz1).mono ?_
    rintro e wz ⟨rfl, hz⟩
    go_wp2_with fail
    go_ret
    exact ⟨rfl, bthen (below_alloc2 _ _ _) hz⟩
  go_wp2_with fail
  refine (laws_szCard_ok a0 c0 x0 (1048576) _ (hx0.kept (below_alloc2 _ _ _)) (by omega) (by omega) hm0 (by omega)).mono ?_
  rintro e w1 ⟨rfl, hb2⟩
  have hc3_0 : w1.cell? ⟨w.heap.size, 0, none⟩ = some (.slice a0 x0.length c0) := (keep hb2 (by simp [go_sem]))
  have hc4_0 : w1.cell? ⟨w.heap.size + 1, 0, none⟩ = some (.int .i64 i1) := (keep hb2 (by simp [go_sem]))
  have hc4_1 : w1.cell? ⟨w.heap.size + 1, 1, none⟩ = some (.int .i64 j1) := (keep hb2 (by simp [go_sem]))
  have hB := (bthen (below_alloc2 _ _ _) hb2)
  have hs5 := hb2.size
  simp only [World.size_alloc] at hs5
  have hc3_l : w.heap.size < w1.heap.size := World.block_lt_of_cell? _ _ hc3_0
  have hc4_l : w.heap.size + 1 < w1.heap.size := World.block_lt_of_cell? _ _ hc4_0
  clear hb2
  have hn0 : x0.length ≤ 1048576 := by omega
  go_upto_region 5 with (fail)
  go_cut [8, 9] from 23 to 31 (fun s8 s9 wx => ∃ (B : Nat) (a : Option Addr) (c : Nat), s8 = .pointer (some ⟨B, 0, none⟩) ∧ s9 = .int .i64 (pnCode x0 i1 j1 i2) ∧ wx.cell? ⟨B, 0, none⟩ = some (.slice a (pnL x0 i1 j1 i2).length c) ∧ OI (w1.heap.size) (wx.heap.size) wx 2 a c ((pnL x0 i1 j1 i2)) ∧ w1.heap.size ≤ B ∧ (∀ p, a = some p → ¬ p.block = B) ∧ Below w1.heap.size w1 wx)
  case first =>
    go_region_held3 (fun W => Below w1.heap.size w1 W ∧ W.cell? ⟨w.heap.size, 0, none⟩ = some (.slice a0 x0.length c0) ∧ W.cell? ⟨w.heap.size + 1, 0, none⟩ = some (.int .i64 i1) ∧ W.cell? ⟨w.heap.size + 1, 1, none⟩ = some (.int .i64 j1)) (first | exact held3 (below_drewN (Below.refl _ _) 1) hc3_0 hc4_0 hc4_1 | (rename Below w1.heap.size w1 _ ∧ _ => hH; refine held3 ?_ hc3_0 hc4_0 hc4_1; first | (refine bthen hH.1 ?_; assumption) | exact hH.1.alloc hH.1.size _ | (refine below_realloc hH.1 ?_; omega) | (refine hH.1.setCell ?_ _; dsimp only; omega) | (refine (hH.1.setCell ?_ _).setCell ?_ _ <;> (dsimp only; omega)))) (first | (go_at_call 8; ((with_reducible refine (laws_toCard a0 c0 x0 _ (hx0.kept (bthen hB (And.left ‹Below w1.heap.size w1 _ ∧ _›))) hn0).mono ?_); rintro e w7 ⟨a8, c9, rfl, ho10, hb6⟩; have hq := bcell hb6; obtain ⟨hqaw7, hqbw7⟩ := hq; have hqsw7 := hb6.size; (try simp only [World.size_alloc, World.size_drew] at hqsw7); (have hb6n : Below w1.heap.size w1 w7 := by (first | exact hb6 | exact bthen (below_alloc _) hb6 | exact bthen (below_drewN (Below.refl _ _) 1) hb6 | exact bthen (below_drewN (below_alloc _) 1) hb6)); (try (have hltw1w7 : w1.heap.size < w7.heap.size := by omega)); (have hlew1w7 : w1.heap.size ≤ w7.heap.size := by omega))) | (go_at_call 9; ((with_reducible refine (laws_toField i1 j1 _).mono ?_); rintro e w12 ⟨rfl, hb11⟩; have hq := bcell hb11; obtain ⟨hqaw12, hqbw12⟩ := hq; have hqsw12 := hb11.size; (try simp only [World.size_alloc, World.size_drew] at hqsw12); (have hb11n : Below w7.heap.size w7 w12 := by (first | exact hb11 | exact bthen (below_alloc _) hb11 | exact bthen (below_drewN (Below.refl _ _) 1) hb11 | exact bthen (below_drewN (below_alloc _) 1) hb11)); (try (have hltw1w12 : w1.heap.size < w12.heap.size := by omega)); (have hlew1w12 : w1.heap.size ≤ w12.heap.size := by omega); (try (have hltw7w12 : w7.heap.size < w12.heap.size := by omega)); (have hlew7w12 : w7.heap.size ≤ w12.heap.size := by omega))) | (go_at_call 7; ((with_reducible refine (spec_PunchNumber a8 c9 x0 i1 j1 i2 _ (((((OI.of ho10).RI).kept hb11n).kept0 (by first | exact Below.refl _ _ | exact below_alloc _))) hn0 ).mono ?_); rintro e w14 ⟨a15, c16, rfl, ho17, hb13⟩; have hq := bcell hb13; obtain ⟨hqaw14, hqbw14⟩ := hq; have hqsw14 := hb13.size; (try simp only [World.size_alloc, World.size_drew] at hqsw14); (have hb13n : Below w12.heap.size w12 w14 := by (first | exact hb13 | exact bthen (below_alloc _) hb13 | exact bthen (below_drewN (Below.refl _ _) 1) hb13 | exact bthen (below_drewN (below_alloc _) 1) hb13)); (try (have hltw1w14 : w1.heap.size < w14.heap.size := by omega)); (have hlew1w14 : w1.heap.size ≤ w14.heap.size := by omega); (try (have hltw7w14 : w7.heap.size < w14.heap.size := by omega)); (have hlew7w14 : w7.heap.size ≤ w14.heap.size := by omega); (try (have hltw12w14 : w12.heap.size < w14.heap.size := by omega)); (have hlew12w14 : w12.heap.size ≤ w14.heap.size := by omega))))
    all_goals
      go_wp2_with fail
      go_meet
      rename Below w1.heap.size w1 _ ∧ _ => hH
      refine ⟨_, a15, c16, rfl, rfl, by simp [go_sem, *], ?_, by first | exact Nat.le_refl _ | omega | (simp only [World.size_alloc]; omega), fun p hp => by (have hq := own_at ho17 hp; first | omega | (simp only [World.size_alloc] at *; omega)), hH.1⟩
      first | (refine cut_alloc ho17 _ ?_; first | omega | (simp only [World.size_alloc]; omega)) | (refine cut_set ho17 _ ?_ ?_ <;> first | omega | (simp only [World.size_alloc]; omega))
  obtain ⟨b20, a21, c22, rfl, rfl, hc25_0, ho23, hc25_ge, hc25_ne, hb24⟩ := hcut
  rename World => w19
  obtain ⟨lo26, hi27, hc25_lo, hc25_hi, ho23, hc25_ap⟩ := ho23.tight hc25_ne
  replace hc3_0 := (keep hb24 hc3_0)
  replace hc4_0 := (keep hb24 hc4_0)
  replace hc4_1 := (keep hb24 hc4_1)
  replace hB := (bthen hB hb24)
  have hs28 := hb24.size
  replace hc3_l : w.heap.size < w19.heap.size := World.block_lt_of_cell? _ _ hc3_0
  replace hc4_l : w.heap.size + 1 < w19.heap.size := World.block_lt_of_cell? _ _ hc4_0
  clear hb24
  have hc25_l : b20 < w19.heap.size := World.block_lt_of_cell? _ _ hc25_0
  have hc25_m := hc25_l
  have hl18 := pnL_len x0 i1 j1 i2 hn0
  go_wp2_with fail
  refine (laws_toCard a0 c0 x0 _ (hx0.kept hB) hn0).mono ?_
  rintro e w30 ⟨a31, c32, rfl, ho33, hb29⟩
  replace hc3_0 := (keep hb29 hc3_0)
  replace hc4_0 := (keep hb29 hc4_0)
  replace hc4_1 := (keep hb29 hc4_1)
  replace hc25_0 := (keep hb29 hc25_0)
  replace ho23 := (ho23.kept hb29)
  replace hB := (bthen hB hb29)
  have hs34 := hb29.size
  replace hc3_l : w.heap.size < w30.heap.size := World.block_lt_of_cell? _ _ hc3_0
  replace hc4_l : w.heap.size + 1 < w30.heap.size := World.block_lt_of_cell? _ _ hc4_0
  replace hc25_l : b20 < w30.heap.size := World.block_lt_of_cell? _ _ hc25_0
  clear hb29
  replace ho33 := OI.of (own_mono (B := w19.heap.size) ho33 (by first | exact Nat.le_refl _ | simp))
  go_wp2_with fail
  generalize hWW : (w30.alloc (.cells #[.slice a31 x0.length c32] 28)) = w35
  have hb36 : Below w30.heap.size w30 w35 := by rw [← hWW]; exact (below_alloc _)
  have hs37 : w30.heap.size + 1 ≤ w35.heap.size := by rw [← hWW]; simp
  have hc38_0 : w35.cell? ⟨w30.heap.size, 0, none⟩ = some (.slice a31 x0.length c32) := by rw [← hWW]; simp [go_sem]
  have hc38_l : w30.heap.size < w35.heap.size := World.block_lt_of_cell? _ _ hc38_0
  clear hWW
  replace hc3_0 := (keep hb36 hc3_0)
  replace hc4_0 := (keep hb36 hc4_0)
  replace hc4_1 := (keep hb36 hc4_1)
  replace hc25_0 := (keep hb36 hc25_0)
  replace ho23 := (ho23.kept hb36)
  replace ho33 := (ho33.kept hb36)
  replace hB := (bthen hB hb36)
  have hs39 := hb36.size
  replace hc3_l : w.heap.size < w35.heap.size := World.block_lt_of_cell? _ _ hc3_0
  replace hc4_l : w.heap.size + 1 < w35.heap.size := World.block_lt_of_cell? _ _ hc4_0
  replace hc25_l : b20 < w35.heap.size := World.block_lt_of_cell? _ _ hc25_0
  clear hb36
  go_upto_region 7 with (fail)
  go_cut [11, 12] from 34 to 41 (fun s11 s12 wx => ∃ (B : Nat) (a : Option Addr) (c : Nat), s11 = .pointer (some ⟨B, 0, none⟩) ∧ s12 = .int .i64 (pnCode x0 i1 j1 i2) ∧ wx.cell? ⟨B, 0, none⟩ = some (.slice a (pnL x0 i1 j1 i2).length c) ∧ OI (w35.heap.size) (wx.heap.size) wx 2 a c ((pnL x0 i1 j1 i2)) ∧ w35.heap.size ≤ B ∧ (∀ p, a = some p → ¬ p.block = B) ∧ Below w35.heap.size w35 wx)
  case first =>
    go_region_held3 (fun W => Below w35.heap.size w35 W ∧ W.cell? ⟨w30.heap.size, 0, none⟩ = some (.slice a31 x0.length c32) ∧ W.cell? ⟨w.heap.size + 1, 0, none⟩ = some (.int .i64 i1) ∧ W.cell? ⟨w.heap.size + 1, 1, none⟩ = some (.int .i64 j1)) (first | exact held3 (below_drewN (Below.refl _ _) 1) hc38_0 hc4_0 hc4_1 | (rename Below w35.heap.size w35 _ ∧ _ => hH; refine held3 ?_ hc38_0 hc4_0 hc4_1; first | (refine bthen hH.1 ?_; assumption) | exact hH.1.alloc hH.1.size _ | (refine below_realloc hH.1 ?_; omega) | (refine hH.1.setCell ?_ _; dsimp only; omega) | (refine (hH.1.setCell ?_ _).setCell ?_ _ <;> (dsimp only; omega)))) (first | (go_at_call 9; ((with_reducible refine (laws_toField i1 j1 _).mono ?_); rintro e w41 ⟨rfl, hb40⟩; have hq := bcell hb40; obtain ⟨hqaw41, hqbw41⟩ := hq; have hqsw41 := hb40.size; (try simp only [World.size_alloc, World.size_drew] at hqsw41); (have hb40n : Below w35.heap.size w35 w41 := by (first | exact hb40 | exact bthen (below_alloc _) hb40 | exact bthen (below_drewN (Below.refl _ _) 1) hb40 | exact bthen (below_drewN (below_alloc _) 1) hb40)); (try (have hltw35w41 : w35.heap.size < w41.heap.size := by omega)); (have hlew35w41 : w35.heap.size ≤ w41.heap.size := by omega))) | (go_at_call 10; ((with_reducible refine (impl_PunchNumber a31 c32 x0 i1 j1 i2 _ ((ho33.RI).kept (And.left ‹Below w35.heap.size w35 _ ∧ _›)) hn0 (Pow10.kept ht (bthen hB (And.left ‹Below w35.heap.size w35 _ ∧ _›)))).mono ?_); rintro e w43 ⟨a44, c45, rfl, ho46, hb42⟩; have hq := bcell hb42; obtain ⟨hqaw43, hqbw43⟩ := hq; have hqsw43 := hb42.size; (try simp only [World.size_alloc, World.size_drew] at hqsw43); (have hb42n : Below w41.heap.size w41 w43 := by (first | exact hb42 | exact bthen (below_alloc _) hb42 | exact bthen (below_drewN (Below.refl _ _) 1) hb42 | exact bthen (below_drewN (below_alloc _) 1) hb42)); (try (have hltw35w43 : w35.heap.size < w43.heap.size := by omega)); (have hlew35w43 : w35.heap.size ≤ w43.heap.size := by omega); (try (have hltw41w43 : w41.heap.size < w43.heap.size := by omega)); (have hlew41w43 : w41.heap.size ≤ w43.heap.size := by omega))))
    all_goals
      go_wp2_with fail
      go_meet
      rename Below w35.heap.size w35 _ ∧ _ => hH
      refine ⟨_, a44, c45, rfl, rfl, by simp [go_sem, *], ?_, by first | exact Nat.le_refl _ | omega | (simp only [World.size_alloc]; omega), fun p hp => by (have hq := own_at ho46 hp; first | omega | (simp only [World.size_alloc] at *; omega)), hH.1⟩
      first | (refine cut_alloc ho46 _ ?_; first | omega | (simp only [World.size_alloc]; omega)) | (refine cut_set ho46 _ ?_ ?_ <;> first | omega | (simp only [World.size_alloc]; omega))
  obtain ⟨b49, a50, c51, rfl, rfl, hc54_0, ho52, hc54_ge, hc54_ne, hb53⟩ := hcut
  rename World => w48
  obtain ⟨lo55, hi56, hc54_lo, hc54_hi, ho52, hc54_ap⟩ := ho52.tight hc54_ne
  replace hc3_0 := (keep hb53 hc3_0)
  replace hc4_0 := (keep hb53 hc4_0)
  replace hc4_1 := (keep hb53 hc4_1)
  replace hc25_0 := (keep hb53 hc25_0)
  replace hc38_0 := (keep hb53 hc38_0)
  replace ho23 := (ho23.kept hb53)
  replace ho33 := (ho33.kept hb53)
  replace hB := (bthen hB hb53)
  have hs57 := hb53.size
  replace hc3_l : w.heap.size < w48.heap.size := World.block_lt_of_cell? _ _ hc3_0
  replace hc4_l : w.heap.size + 1 < w48.heap.size := World.block_lt_of_cell? _ _ hc4_0
  replace hc25_l : b20 < w48.heap.size := World.block_lt_of_cell? _ _ hc25_0
  replace hc38_l : w30.heap.size < w48.heap.size := World.block_lt_of_cell? _ _ hc38_0
  clear hb53
  have hc54_l : b49 < w48.heap.size := World.block_lt_of_cell? _ _ hc54_0
  have hc54_m := hc54_l
  have hl47 := pnL_len x0 i1 j1 i2 hn0
  go_wp2_with fail
  refine (laws_eqCard_same a50 a21 c51 c22 (pnL x0 i1 j1 i2) _ (ho52.RI) (ho23.RI) (small hl47)).mono ?_
  rintro e w59 ⟨rfl, hb58⟩
  replace hc3_0 := (keep hb58 hc3_0)
  replace hc4_0 := (keep hb58 hc4_0)
  replace hc4_1 := (keep hb58 hc4_1)
  replace hc25_0 := (keep hb58 hc25_0)
  replace hc38_0 := (keep hb58 hc38_0)
  replace hc54_0 := (keep hb58 hc54_0)
  replace ho23 := (ho23.kept hb58)
  replace ho33 := (ho33.kept hb58)
  replace ho52 := (ho52.kept hb58)
  replace hB := (bthen hB hb58)
  have hs60 := hb58.size
  replace hc3_l : w.heap.size < w59.heap.size := World.block_lt_of_cell? _ _ hc3_0
  replace hc4_l : w.heap.size + 1 < w59.heap.size := World.block_lt_of_cell? _ _ hc4_0
  replace hc25_l : b20 < w59.heap.size := World.block_lt_of_cell? _ _ hc25_0
  replace hc38_l : w30.heap.size < w59.heap.size := World.block_lt_of_cell? _ _ hc38_0
  replace hc54_l : b49 < w59.heap.size := World.block_lt_of_cell? _ _ hc54_0
  clear hb58
  go_wp2_with fail
  go_region_held3 (fun W => Below w59.heap.size w59 W ∧ W.cell? ⟨w30.heap.size, 0, none⟩ = some (.slice a31 x0.length c32) ∧ W.cell? ⟨w.heap.size, 0, none⟩ = some (.slice a0 x0.length c0)) (first | exact held2 (below_drewN (Below.refl _ _) 1) hc38_0 hc3_0 | (rename Below w59.heap.size w59 _ ∧ _ => hH; refine held2 ?_ hc38_0 hc3_0; (refine bthen hH.1 ?_; assumption))) (first | (go_at_call 8; ((with_reducible refine (laws_toCard a0 c0 x0 _ (hx0.kept (bthen hB (And.left ‹Below w59.heap.size w59 _ ∧ _›))) hn0).mono ?_); rintro e w62 ⟨a63, c64, rfl, ho65, hb61⟩)) | (go_at_call 11; ((with_reducible refine (laws_eqCard_same a31 a63 c32 c64 x0 _ ((ho33.RI).kept (And.left ‹Below w59.heap.size w59 _ ∧ _›)) (((OI.of ho65).RI)) (small hn0)).mono ?_); rintro e w67 ⟨rfl, hb66⟩)))
  replace hc3_0 := (keep hb66 (keep hb61 (keep (below_drewN (Below.refl _ _) 1) hc3_0)))
  replace hc4_0 := (keep hb66 (keep hb61 (keep (below_drewN (Below.refl _ _) 1) hc4_0)))
  replace hc4_1 := (keep hb66 (keep hb61 (keep (below_drewN (Below.refl _ _) 1) hc4_1)))
  replace hc25_0 := (keep hb66 (keep hb61 (keep (below_drewN (Below.refl _ _) 1) hc25_0)))
  replace hc38_0 := (keep hb66 (keep hb61 (keep (below_drewN (Below.refl _ _) 1) hc38_0)))
  replace hc54_0 := (keep hb66 (keep hb61 (keep (below_drewN (Below.refl _ _) 1) hc54_0)))
  replace ho23 := (((ho23.kept (below_drewN (Below.refl _ _) 1)).kept hb61).kept hb66)
  replace ho33 := (((ho33.kept (below_drewN (Below.refl _ _) 1)).kept hb61).kept hb66)
  replace ho52 := (((ho52.kept (below_drewN (Below.refl _ _) 1)).kept hb61).kept hb66)
  replace hB := (bthen (bthen (bthen hB (below_drewN (Below.refl _ _) 1)) hb61) hb66)
  have hs68 := hb61.size
  simp only [World.size_drew] at hs68
  have hs69 := hb66.size
  replace hc3_l : w.heap.size < w67.heap.size := World.block_lt_of_cell? _ _ hc3_0
  replace hc4_l : w.heap.size + 1 < w67.heap.size := World.block_lt_of_cell? _ _ hc4_0
  replace hc25_l : b20 < w67.heap.size := World.block_lt_of_cell? _ _ hc25_0
  replace hc38_l : w30.heap.size < w67.heap.size := World.block_lt_of_cell? _ _ hc38_0
  replace hc54_l : b49 < w67.heap.size := World.block_lt_of_cell? _ _ hc54_0
  clear ho65
  clear hb61 hb66
  go_wp2_with fail
  refine (laws_markCard (w19.heap.size) (w30.heap.size) a31 c32 x0 1 _ ho33 (by omega) (by omega) hn0 (by first | omega | (simp only [World.size_alloc]; omega))).mono ?_
  rintro e w71 ⟨rfl, hw72, ho73⟩
  replace hc3_0 := hw72.cell hc3_0 (by dsimp only; omega)
  replace hc4_0 := hw72.cell hc4_0 (by dsimp only; omega)
  replace hc4_1 := hw72.cell hc4_1 (by dsimp only; omega)
  replace hc25_0 := hw72.cell hc25_0 (by dsimp only; omega)
  replace hc38_0 := hw72.cell hc38_0 (by dsimp only; omega)
  replace hc54_0 := hw72.cell hc54_0 (by dsimp only; omega)
  replace ho23 := ho23.within hw72 (by omega)
  replace ho52 := ho52.within hw72 (by omega)
  replace hB := hw72.below hB (by omega) (by first | omega | (simp only [World.size_alloc]; omega))
  have hs74 := hw72.size
  replace hc3_l : w.heap.size < w71.heap.size := World.block_lt_of_cell? _ _ hc3_0
  replace hc4_l : w.heap.size + 1 < w71.heap.size := World.block_lt_of_cell? _ _ hc4_0
  replace hc25_l : b20 < w71.heap.size := World.block_lt_of_cell? _ _ hc25_0
  replace hc38_l : w30.heap.size < w71.heap.size := World.block_lt_of_cell? _ _ hc38_0
  replace hc54_l : b49 < w71.heap.size := World.block_lt_of_cell? _ _ hc54_0
  clear hw72
  clear ho33
  go_wp2_with fail
  refine (laws_eqCard_same a50 a21 c51 c22 (pnL x0 i1 j1 i2) _ (ho52.RI) (ho23.RI) (small hl47)).mono ?_
  rintro e w76 ⟨rfl, hb75⟩
  replace hc3_0 := (keep hb75 hc3_0)
  replace hc4_0 := (keep hb75 hc4_0)
  replace hc4_1 := (keep hb75 hc4_1)
  replace hc25_0 := (keep hb75 hc25_0)
  replace hc38_0 := (keep hb75 hc38_0)
  replace hc54_0 := (keep hb75 hc54_0)
  replace ho23 := (ho23.kept hb75)
  replace ho73 := (ho73.kept hb75)
  replace ho52 := (ho52.kept hb75)
  replace hB := (bthen hB hb75)
  have hs77 := hb75.size
  replace hc3_l : w.heap.size < w76.heap.size := World.block_lt_of_cell? _ _ hc3_0
  replace hc4_l : w.heap.size + 1 < w76.heap.size := World.block_lt_of_cell? _ _ hc4_0
  replace hc25_l : b20 < w76.heap.size := World.block_lt_of_cell? _ _ hc25_0
  replace hc38_l : w30.heap.size < w76.heap.size := World.block_lt_of_cell? _ _ hc38_0
  replace hc54_l : b49 < w76.heap.size := World.block_lt_of_cell? _ _ hc54_0
  clear hb75
  go_wp2_with fail
  refine (laws_markCard (lo55) (hi56) a50 c51 (pnL x0 i1 j1 i2) 1 _ ho52 (by omega) (by omega) hl47 (by first | omega | (simp only [World.size_alloc]; omega))).mono ?_
  rintro e w79 ⟨rfl, hw80, ho81⟩
  replace hc3_0 := hw80.cell hc3_0 (by dsimp only; omega)
  replace hc4_0 := hw80.cell hc4_0 (by dsimp only; omega)
  replace hc4_1 := hw80.cell hc4_1 (by dsimp only; omega)
  replace hc25_0 := hw80.cell hc25_0 (by dsimp only; omega)
  replace hc38_0 := hw80.cell hc38_0 (by dsimp only; omega)
  replace hc54_0 := hw80.cell hc54_0 (by dsimp only; omega)
  replace ho23 := ho23.within hw80 (by omega)
  replace ho73 := ho73.within hw80 (by omega)
  replace hB := hw80.below hB (by omega) (by first | omega | (simp only [World.size_alloc]; omega))
  have hs82 := hw80.size
  replace hc3_l : w.heap.size < w79.heap.size := World.block_lt_of_cell? _ _ hc3_0
  replace hc4_l : w.heap.size + 1 < w79.heap.size := World.block_lt_of_cell? _ _ hc4_0
  replace hc25_l : b20 < w79.heap.size := World.block_lt_of_cell? _ _ hc25_0
  replace hc38_l : w30.heap.size < w79.heap.size := World.block_lt_of_cell? _ _ hc38_0
  replace hc54_l : b49 < w79.heap.size := World.block_lt_of_cell? _ _ hc54_0
  clear hw80
  clear ho52
  go_wp2_with fail
  refine (laws_heldCard a50 c51 (pnL x0 i1 j1 i2).length 1 _ (ho81.RI) (by omega) (by omega) hl47).mono ?_
  rintro e w84 ⟨rfl, hb83⟩
  replace hc3_0 := (keep hb83 hc3_0)
  replace hc4_0 := (keep hb83 hc4_0)
  replace hc4_1 := (keep hb83 hc4_1)
  replace hc25_0 := (keep hb83 hc25_0)
  replace hc38_0 := (keep hb83 hc38_0)
  replace hc54_0 := (keep hb83 hc54_0)
  replace ho23 := (ho23.kept hb83)
  replace ho73 := (ho73.kept hb83)
  replace ho81 := (ho81.kept hb83)
  replace hB := (bthen hB hb83)
  have hs85 := hb83.size
  replace hc3_l : w.heap.size < w84.heap.size := World.block_lt_of_cell? _ _ hc3_0
  replace hc4_l : w.heap.size + 1 < w84.heap.size := World.block_lt_of_cell? _ _ hc4_0
  replace hc25_l : b20 < w84.heap.size := World.block_lt_of_cell? _ _ hc25_0
  replace hc38_l : w30.heap.size < w84.heap.size := World.block_lt_of_cell? _ _ hc38_0
  replace hc54_l : b49 < w84.heap.size := World.block_lt_of_cell? _ _ hc54_0
  clear hb83
  go_upto_region 24 with (fail)
  go_cut [16, 17] from 83 to 91 (fun s16 s17 wx => ∃ (B : Nat) (a : Option Addr) (c : Nat), s16 = .pointer (some ⟨B, 0, none⟩) ∧ s17 = .int .i64 (pnCode x0 i1 j1 i2) ∧ wx.cell? ⟨B, 0, none⟩ = some (.slice a (pnL x0 i1 j1 i2).length c) ∧ OI (w84.heap.size) (wx.heap.size) wx 2 a c ((pnL x0 i1 j1 i2)) ∧ w84.heap.size ≤ B ∧ (∀ p, a = some p → ¬ p.block = B) ∧ Below w84.heap.size w84 wx)
  case first =>
    go_region_held3 (fun W => Below w84.heap.size w84 W ∧ W.cell? ⟨w.heap.size, 0, none⟩ = some (.slice a0 x0.length c0) ∧ W.cell? ⟨w.heap.size + 1, 0, none⟩ = some (.int .i64 i1) ∧ W.cell? ⟨w.heap.size + 1, 1, none⟩ = some (.int .i64 j1)) (first | exact held3 (below_drewN (Below.refl _ _) 1) hc3_0 hc4_0 hc4_1 | (rename Below w84.heap.size w84 _ ∧ _ => hH; refine held3 ?_ hc3_0 hc4_0 hc4_1; first | (refine bthen hH.1 ?_; assumption) | exact hH.1.alloc hH.1.size _ | (refine below_realloc hH.1 ?_; omega) | (refine hH.1.setCell ?_ _; dsimp only; omega) | (refine (hH.1.setCell ?_ _).setCell ?_ _ <;> (dsimp only; omega)))) (first | (go_at_call 8; ((with_reducible refine (laws_toCard a0 c0 x0 _ (hx0.kept (bthen hB (And.left ‹Below w84.heap.size w84 _ ∧ _›))) hn0).mono ?_); rintro e w87 ⟨a88, c89, rfl, ho90, hb86⟩; have hq := bcell hb86; obtain ⟨hqaw87, hqbw87⟩ := hq; have hqsw87 := hb86.size; (try simp only [World.size_alloc, World.size_drew] at hqsw87); (have hb86n : Below w84.heap.size w84 w87 := by (first | exact hb86 | exact bthen (below_alloc _) hb86 | exact bthen (below_drewN (Below.refl _ _) 1) hb86 | exact bthen (below_drewN (below_alloc _) 1) hb86)); (try (have hltw84w87 : w84.heap.size < w87.heap.size := by omega)); (have hlew84w87 : w84.heap.size ≤ w87.heap.size := by omega))) | (go_at_call 9; ((with_reducible refine (laws_toField i1 j1 _).mono ?_); rintro e w92 ⟨rfl, hb91⟩; have hq := bcell hb91; obtain ⟨hqaw92, hqbw92⟩ := hq; have hqsw92 := hb91.size; (try simp only [World.size_alloc, World.size_drew] at hqsw92); (have hb91n : Below w87.heap.size w87 w92 := by (first | exact hb91 | exact bthen (below_alloc _) hb91 | exact bthen (below_drewN (Below.refl _ _) 1) hb91 | exact bthen (below_drewN (below_alloc _) 1) hb91)); (try (have hltw84w92 : w84.heap.size < w92.heap.size := by omega)); (have hlew84w92 : w84.heap.size ≤ w92.heap.size := by omega); (try (have hltw87w92 : w87.heap.size < w92.heap.size := by omega)); (have hlew87w92 : w87.heap.size ≤ w92.heap.size := by omega))) | (go_at_call 10; ((with_reducible refine (impl_PunchNumber a88 c89 x0 i1 j1 i2 _ (((((OI.of ho90).RI).kept hb91n).kept0 (by first | exact Below.refl _ _ | exact below_alloc _))) hn0 (Pow10.kept ht (bthen hB (And.left ‹Below w84.heap.size w84 _ ∧ _›)))).mono ?_); rintro e w94 ⟨a95, c96, rfl, ho97, hb93⟩; have hq := bcell hb93; obtain ⟨hqaw94, hqbw94⟩ := hq; have hqsw94 := hb93.size; (try simp only [World.size_alloc, World.size_drew] at hqsw94); (have hb93n : Below w92.heap.size w92 w94 := by (first | exact hb93 | exact bthen (below_alloc _) hb93 | exact bthen (below_drewN (Below.refl _ _) 1) hb93 | exact bthen (below_drewN (below_alloc _) 1) hb93)); (try (have hltw84w94 : w84.heap.size < w94.heap.size := by omega)); (have hlew84w94 : w84.heap.size ≤ w94.heap.size := by omega); (try (have hltw87w94 : w87.heap.size < w94.heap.size := by omega)); (have hlew87w94 : w87.heap.size ≤ w94.heap.size := by omega); (try (have hltw92w94 : w92.heap.size < w94.heap.size := by omega)); (have hlew92w94 : w92.heap.size ≤ w94.heap.size := by omega))))
    all_goals
      go_wp2_with fail
      go_meet
      rename Below w84.heap.size w84 _ ∧ _ => hH
      refine ⟨_, a95, c96, rfl, rfl, by simp [go_sem, *], ?_, by first | exact Nat.le_refl _ | omega | (simp only [World.size_alloc]; omega), fun p hp => by (have hq := own_at ho97 hp; first | omega | (simp only [World.size_alloc] at *; omega)), hH.1⟩
      first | (refine cut_alloc ho97 _ ?_; first | omega | (simp only [World.size_alloc]; omega)) | (refine cut_set ho97 _ ?_ ?_ <;> first | omega | (simp only [World.size_alloc]; omega))
  obtain ⟨b100, a101, c102, rfl, rfl, hc105_0, ho103, hc105_ge, hc105_ne, hb104⟩ := hcut
  rename World => w99
  obtain ⟨lo106, hi107, hc105_lo, hc105_hi, ho103, hc105_ap⟩ := ho103.tight hc105_ne
  replace hc3_0 := (keep hb104 hc3_0)
  replace hc4_0 := (keep hb104 hc4_0)
  replace hc4_1 := (keep hb104 hc4_1)
  replace hc25_0 := (keep hb104 hc25_0)
  replace hc38_0 := (keep hb104 hc38_0)
  replace hc54_0 := (keep hb104 hc54_0)
  replace ho23 := (ho23.kept hb104)
  replace ho73 := (ho73.kept hb104)
  replace ho81 := (ho81.kept hb104)
  replace hB := (bthen hB hb104)
  have hs108 := hb104.size
  replace hc3_l : w.heap.size < w99.heap.size := World.block_lt_of_cell? _ _ hc3_0
  replace hc4_l : w.heap.size + 1 < w99.heap.size := World.block_lt_of_cell? _ _ hc4_0
  replace hc25_l : b20 < w99.heap.size := World.block_lt_of_cell? _ _ hc25_0
  replace hc38_l : w30.heap.size < w99.heap.size := World.block_lt_of_cell? _ _ hc38_0
  replace hc54_l : b49 < w99.heap.size := World.block_lt_of_cell? _ _ hc54_0
  clear hb104
  have hc105_l : b100 < w99.heap.size := World.block_lt_of_cell? _ _ hc105_0
  have hc105_m := hc105_l
  have hl98 := pnL_len x0 i1 j1 i2 hn0
  go_wp2_with fail
  refine (laws_eqCard_same a101 a21 c102 c22 (pnL x0 i1 j1 i2) _ (ho103.RI) (ho23.RI) (small hl98)).mono ?_
  rintro e w110 ⟨rfl, hb109⟩
  replace hc3_0 := (keep hb109 hc3_0)
  replace hc4_0 := (keep hb109 hc4_0)
  replace hc4_1 := (keep hb109 hc4_1)
  replace hc25_0 := (keep hb109 hc25_0)
  replace hc38_0 := (keep hb109 hc38_0)
  replace hc54_0 := (keep hb109 hc54_0)
  replace hc105_0 := (keep hb109 hc105_0)
  replace ho23 := (ho23.kept hb109)
  replace ho73 := (ho73.kept hb109)
  replace ho81 := (ho81.kept hb109)
  replace ho103 := (ho103.kept hb109)
  replace hB := (bthen hB hb109)
  have hs111 := hb109.size
  replace hc3_l : w.heap.size < w110.heap.size := World.block_lt_of_cell? _ _ hc3_0
  replace hc4_l : w.heap.size + 1 < w110.heap.size := World.block_lt_of_cell? _ _ hc4_0
  replace hc25_l : b20 < w110.heap.size := World.block_lt_of_cell? _ _ hc25_0
  replace hc38_l : w30.heap.size < w110.heap.size := World.block_lt_of_cell? _ _ hc38_0
  replace hc54_l : b49 < w110.heap.size := World.block_lt_of_cell? _ _ hc54_0
  replace hc105_l : b100 < w110.heap.size := World.block_lt_of_cell? _ _ hc105_0
  clear hb109
  go_wp2_with fail
  refine (laws_heldCard a50 c51 (pnL x0 i1 j1 i2).length 1 _ (ho81.RI) (by omega) (by omega) hl47).mono ?_
  rintro e w113 ⟨rfl, hb112⟩
  replace hc3_0 := (keep hb112 hc3_0)
  replace hc4_0 := (keep hb112 hc4_0)
  replace hc4_1 := (keep hb112 hc4_1)
  replace hc25_0 := (keep hb112 hc25_0)
  replace hc38_0 := (keep hb112 hc38_0)
  replace hc54_0 := (keep hb112 hc54_0)
  replace hc105_0 := (keep hb112 hc105_0)
  replace ho23 := (ho23.kept hb112)
  replace ho73 := (ho73.kept hb112)
  replace ho81 := (ho81.kept hb112)
  replace ho103 := (ho103.kept hb112)
  replace hB := (bthen hB hb112)
  have hs114 := hb112.size
  replace hc3_l : w.heap.size < w113.heap.size := World.block_lt_of_cell? _ _ hc3_0
  replace hc4_l : w.heap.size + 1 < w113.heap.size := World.block_lt_of_cell? _ _ hc4_0
  replace hc25_l : b20 < w113.heap.size := World.block_lt_of_cell? _ _ hc25_0
  replace hc38_l : w30.heap.size < w113.heap.size := World.block_lt_of_cell? _ _ hc38_0
  replace hc54_l : b49 < w113.heap.size := World.block_lt_of_cell? _ _ hc54_0
  replace hc105_l : b100 < w113.heap.size := World.block_lt_of_cell? _ _ hc105_0
  clear hb112
  go_wp2_with fail
  go_ret
  exact ⟨rfl, hB⟩

/-- What the walk gives, for every argument and every world that holds the tables. -/
theorem contract (H : Type) (enc : TypeId × Value → H) (W : World) (base : Nat) (args : Array Value) (ds gs : List (DataW H)) (before : List MemPlace)
    (hval0 : ∀ (j : Nat) t v, Tryd.f3.params[j]? = some t → args[j]? = some v → Value.okWide Tryd.prog W .any base t v)
    (hW : DataW.Whole enc Tryd.prog Tryd.f3.params.toList Rows.fnExactPunchNumberSpec.vars false W args.toList ds gs before) (hL : laidMetH Tryd.prog Rows.fnExactPunchNumberRow.laid W) (hS : W.ShapedOpen Tryd.prog) :
    Calls Tryd.prog 3 args W fun e W' => ∃ v, e = .returned v ∧ Rows.fnExactPunchNumberSpec.post enc Tryd.prog Tryd.f3 false true false false W args v W' := by
  have hval : ∀ (j : Nat) t v, Tryd.f3.params[j]? = some t → args[j]? = some v → Value.okWide Tryd.prog W .any base t v := hval0
  have hW' := hW
  obtain ⟨p, q, hA0, hV, rfl, hfz, hnd⟩ := hW
  have hA : DataW.TrodAll enc Tryd.prog W 0 (fun _ => true) true Tryd.f3.params.toList args.toList ds p := hA0
  rw [Tryd.params3] at hA hval
  obtain ⟨v0, vs0, d0, ds0, p0, q0, hargs, rfl, rfl, h0, r0⟩ := trodAll_cons hA
  obtain ⟨v1, vs1, d1, ds1, p1, q1, rfl, rfl, rfl, h1, r1⟩ := trodAll_cons r0
  obtain ⟨v2, vs2, d2, ds2, p2, q2, rfl, rfl, rfl, h2, r2⟩ := trodAll_cons r1
  obtain ⟨rfl, rfl, rfl⟩ := trodAll_nil r2
  obtain rfl : args = #[v0, v1, v2] := by cases args; simp_all
  obtain ⟨rfl, rfl⟩ := trodVars_none hV
  have k0 := h0
  have lt0 : ∀ x ∈ p0, x.block < W.heap.size := by obtain ⟨m, hm⟩ := k0; exact DataW.trod_lt m _ _ _ hm
  obtain ⟨a0, c0, x0, rfl, hx0, hm0⟩ := open_card Tryd.underlying24 rfl rfl Tryd.underlying22 Tryd.underlying2 (by kernel_rfl) (by kernel_rfl) (by kernel_rfl) (hval 0 24 v0 rfl rfl) h0
  have k1 := h1
  have lt1 : ∀ x ∈ p1, x.block < W.heap.size := by obtain ⟨m, hm⟩ := k1; exact DataW.trod_lt m _ _ _ hm
  obtain ⟨i1, j1, rfl, zi1, zj1⟩ := open_field Tryd.underlying26 rfl rfl rfl rfl Tryd.underlying2 (by kernel_rfl) (by kernel_rfl) (hval 1 26 v1 rfl rfl) h1
  obtain ⟨i2, rfl, rfl, rfl, z2⟩ := open_int Tryd.underlying2 (hval 2 2 v2 rfl rfl) h2
  clear hA0 hval0
  refine (walk a0 c0 x0 i1 j1 i2 W hx0 hm0 (bounds_i64 z2) (pow10_of (l := Rows.fnExactPunchNumberRow.laid) hL (by simp [Rows.fnExactPunchNumberRow]))).mono fun e W' ⟨he, bel⟩ => ?_
  subst he
  exact ⟨_, rfl, _, _, _, [], _, [], hW', trodAll_mk1 (shut_bool Tryd.underlying4 _), (trodAll_cons_mk (Below.trod laidOut (by kernel_rfl) (of_decide_eq_true (by kernel_rfl)) k0 bel lt0) (trodAll_cons_mk (Below.trod laidOut (by kernel_rfl) (of_decide_eq_true (by kernel_rfl)) k1 bel lt1) (trodAll_cons_mk (shut_int Tryd.underlying2 z2) trodAll_mk0))), rfl, bel.frame _, fun h => by cases h⟩

/-- A world for the witness: the settled one, the listed tables laid. -/
noncomputable def laidWorld (os : Os) : World := { World.holding Tryd.prog os ⟨#[], #[], []⟩ with heap := layAt (layAt (layAt ((World.holding Tryd.prog os ⟨#[], #[], []⟩).heap) 4 (Rows.laid_math_bits_deBruijn32tab)) 5 (Rows.laid_math_bits_deBruijn64tab)) 2 (Rows.laid_internal_strconv_uint64pow10) }
theorem laid_met (os : Os) : laidMet Tryd.prog Rows.fnExactPunchNumberRow.laid ((laidWorld os).forCall (fun _ _ => 0) ⟨#[], #[.agg #[.slice none 0 0], .agg #[.int .i64 0, .int .i64 0], .int .i64 0], []⟩).memory :=
  laidMet_of_run' 8 (by kernel_rfl) (by kernel_rfl)
theorem reads (os : Os) {H : Type} (enc : TypeId × Value → H) : ∃ x : List (DataW H) × List (DataW H) × List MemPlace, DataW.whole enc Tryd.prog ((laidWorld os).forCall (fun _ _ => 0) ⟨#[], #[.agg #[.slice none 0 0], .agg #[.int .i64 0, .int .i64 0], .int .i64 0], []⟩).memory Tryd.f3.params.toList Rows.fnExactPunchNumberSpec.vars false #[.agg #[.slice none 0 0], .agg #[.int .i64 0, .int .i64 0], .int .i64 0].toList 8 = some x :=
  Option.isSome_iff_exists.1 (by kernel_rfl)

set_option maxRecDepth 100000 in
theorem lifted (os : Os) (started : os.Started) (H : Type) (enc : TypeId × Value → H) (F : Stop.Interp) :
    ReturnsInHanded {} Tryd.checked os 3 .any ((OpenSpec.ofChange Rows.fnExactPunchNumberSpec).preRow enc Tryd.prog Tryd.f3 Rows.fnExactPunchNumberRow.domain false Rows.fnExactPunchNumberRow.laid) (((OpenSpec.ofChange Rows.fnExactPunchNumberSpec).at F).post enc Tryd.prog Tryd.f3 false true false false) := by
  obtain ⟨x, hx⟩ := reads os enc
  refine returnsInHanded_of_row (C := Tryd.checked) (s := OpenSpec.ofChange Rows.fnExactPunchNumberSpec) own started (by kernel_rfl) Tryd.func3
    (witness_row_at (enc := enc) (C := Tryd.checked) false (laidWorld os) #[.agg #[.slice none 0 0], .agg #[.int .i64 0, .int .i64 0], .int .i64 0] rfl (by kernel_rfl) (by kernel_rfl) (by kernel_rfl)
      (OpenSpec.preRow_of_cond 8 hx (by kernel_rfl) (fun k hk => by cases hk) (by kernel_rfl) (laid_met os))) ?_
  intro W base args ds gs before hval hW _ _ _ hL hS _
  exact contract H enc W base args ds gs before hval hW hL hS

theorem said : Rows.FnExactPunchNumberSaid :=
  OpenClaim.holds_of_cond 3 Tryd.f3 rfl rfl rfl rfl rfl rfl rfl ⟨rfl, rfl, rfl, rfl, rfl⟩ rfl rfl rfl rfl rfl (by kernel_rfl) Tryd.func3 (by kernel_rfl)
    (of_decide_eq_true (by kernel_rfl)) (by unfold Func.isWrapper; first | (rw [if_pos (by decide +kernel)]; kernel_rfl) | (rw [if_neg (by decide +kernel)]; exact ⟨rfl, rfl⟩))
    (fun os started H enc _ F => by rw [OpenClaim.pre_eq_preRow]; exact lifted os started H enc F)

theorem noStand : (Tryd.f3.params.toList.all fun t => !Tryd.prog.wantsStandIn t) = true := by kernel_rfl
/-- No parameter wants a stand-in; the program's own looks are off. -/
theorem plain (g : FuncId) (fn : Func) (hf : Tryd.pinned.checked.prog.funcNamed "loop.example/g01012/laws.FnExactPunchNumber" = some g) (hfn : Tryd.pinned.checked.prog.funcs[g]? = some fn) :
    true = Tryd.pinned.checked.prog.looks [] ∧ ∀ (j : Nat) t, fn.params[j]? = some t → Tryd.pinned.checked.prog.wantsStandIn t = false := by
  obtain rfl : g = 3 := Option.some.inj ((show Tryd.prog.funcNamed "loop.example/g01012/laws.FnExactPunchNumber" = some 3 by kernel_rfl).symm.trans hf) |>.symm
  obtain rfl : fn = Tryd.f3 := (Option.some.inj (Tryd.func3.symm.trans hfn)).symm
  refine ⟨by kernel_rfl, fun j t ht => ?_⟩
  have h1 := List.all_eq_true.1 noStand t (by have := Array.mem_of_getElem? ht; simpa using this)
  have h2 : Tryd.prog.wantsStandIn t = false := by simpa using h1
  exact h2

/-- The card. -/
theorem proved : Rows.FnExactPunchNumberCardSaid :=
  Claim7.holds_tied_plain_at .later [] _ _ _ _ said (fun _ h => by cases h) (by kernel_rfl) (fun _ h => by cases h) fnExactPunchNumber_row_tie rfl ⟨rfl, rfl⟩ (by kernel_rfl) rfl plain (by kernel_rfl)
#print axioms proved
end Go.Proofs.YtoeohebobmkobaaDoor.fnExactPunchNumber
