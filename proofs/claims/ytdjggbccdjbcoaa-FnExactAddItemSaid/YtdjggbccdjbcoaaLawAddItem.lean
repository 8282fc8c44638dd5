/- FnExactAddItem: for all arguments the law returns true, and memory that was there is as it was. No condition. -/
import Derived.Test.YtdjggbccdjbcoaaRows
import Derived.Test.YtdjggbccdjbcoaaOpen
import Derived.Deep.RegionHeld3
import Derived.Deep.CutRange
import Derived.ShutString
import Derived.Test.YtdjggbccdjbcoaaMarkT
import Derived.Test.YtdjggbccdjbcoaaAdd
import Derived.Test.YtdjggbccdjbcoaaAddS
namespace Go.Proofs.Ytdjggbccdjbcoaa.fnExactAddItem
open Go.ChangeShapes Go.WideShapes Go.ChangeAt Go.RowKit
open Go.ChangeMaps (open_string shut_string)
set_option linter.unusedVariables false
set_option linter.unusedSimpArgs false
set_option linter.unnecessarySimpa false
set_option maxRecDepth 100000

theorem own : ownKnob Try.prog.godebug = none := by kernel_rfl
theorem laidOut : laidOutB Try.prog = true := by kernel_rfl

set_option maxHeartbeats 4000000 in
/-- The Go text returns true; memory has at most new blocks. -/
theorem walk (d0 : Int) (a0 : Option Addr) (c0 : Nat) (x0 : List Itm) (p1 : Itm) (w : World) (hx0 : RT w a0 x0) (hm0 : x0.length ≤ maxLen ∧ ∀ y ∈ x0, y.name.size ≤ maxLen) (hm1 : p1.name.size ≤ maxLen) :
    Calls Try.prog 3 #[.agg #[.int .i64 d0, .slice a0 x0.length c0], .agg #[.string p1.name, .int .i64 p1.kind, .int .i64 p1.fr, .int .i64 p1.to]] w fun e w' => e = .returned (.bool true) ∧ Below w.heap.size w w' := by
  go_enter Try.func3, Try.ntmps3
  by_cases hz1 : 1048576 < (itemsSz x0 : Int)
  · go_wp2_with fail
    refine (laws_szLayout_over d0 a0 c0 x0 (1048576) _ (hx0.kept (below_alloc2 _ _ _)) (by omega) (by omega) hm0 hz1).mono ?_
    rintro e wz ⟨rfl, hz⟩
    go_wp2_with fail
    go_ret
    exact ⟨rfl, bthen (below_alloc2 _ _ _) hz⟩
  go_wp2_with fail
  refine (laws_szLayout_ok d0 a0 c0 x0 (1048576) _ (hx0.kept (below_alloc2 _ _ _)) (by omega) (by omega) hm0 (by omega)).mono ?_
  rintro e w1 ⟨rfl, hb2⟩
  have hc3_0 : w1.cell? ⟨w.heap.size, 0, none⟩ = some (.int .i64 d0) := (keep hb2 (by simp [go_sem]))
  have hc3_1 : w1.cell? ⟨w.heap.size, 1, none⟩ = some (.slice a0 x0.length c0) := (keep hb2 (by simp [go_sem]))
  have hc4_0 : w1.cell? ⟨w.heap.size + 1, 0, none⟩ = some (.string p1.name) := (keep hb2 (by simp [go_sem]))
  have hc4_1 : w1.cell? ⟨w.heap.size + 1, 1, none⟩ = some (.int .i64 p1.kind) := (keep hb2 (by simp [go_sem]))
  have hc4_2 : w1.cell? ⟨w.heap.size + 1, 2, none⟩ = some (.int .i64 p1.fr) := (keep hb2 (by simp [go_sem]))
  have hc4_3 : w1.cell? ⟨w.heap.size + 1, 3, none⟩ = some (.int .i64 p1.to) := (keep hb2 (by simp [go_sem]))
  have hB := (bthen (below_alloc2 _ _ _) hb2)
  have hs5 := hb2.size
  simp only [World.size_alloc] at hs5
  have hc3_l : w.heap.size < w1.heap.size := World.block_lt_of_cell? _ _ hc3_0
  have hc4_l : w.heap.size + 1 < w1.heap.size := World.block_lt_of_cell? _ _ hc4_0
  clear hb2
  have hn0 : itemsSz x0 ≤ 1048576 := by omega
  by_cases hz2 : (1048576 - (itemsSz x0 : Int)) < (p1.name.size : Int)
  · go_wp2_with fail
    refine (laws_szItem_over p1 ((1048576 - (itemsSz x0 : Int))) (by omega) (by omega) hm1 hz2 _).mono ?_
    rintro e wz ⟨rfl, hz⟩
    go_wp2_with fail
    go_ret
    exact ⟨rfl, bthen hB hz⟩
  go_wp2_with fail
  refine (laws_szItem_ok p1 ((1048576 - (itemsSz x0 : Int))) (by omega) (by omega) hm1 (by omega) _).mono ?_
  rintro e w6 ⟨rfl, hb7⟩
  replace hc3_0 := (keep hb7 hc3_0)
  replace hc3_1 := (keep hb7 hc3_1)
  replace hc4_0 := (keep hb7 hc4_0)
  replace hc4_1 := (keep hb7 hc4_1)
  replace hc4_2 := (keep hb7 hc4_2)
  replace hc4_3 := (keep hb7 hc4_3)
  replace hB := (bthen hB hb7)
  have hs8 := hb7.size
  replace hc3_l : w.heap.size < w6.heap.size := World.block_lt_of_cell? _ _ hc3_0
  replace hc4_l : w.heap.size + 1 < w6.heap.size := World.block_lt_of_cell? _ _ hc4_0
  clear hb7
  have hn1 : p1.name.size ≤ 1048576 := by omega
  go_upto_region 8 with (fail)
  go_cut [6, 7] from 26 to 33 (fun s6 s7 wx => ∃ (B : Nat) (a : Option Addr) (c : Nat), s6 = .pointer (some ⟨B, 0, none⟩) ∧ s7 = .int .i64 (addCode d0 x0 p1) ∧ wx.cell? ⟨B, 0, none⟩ = some (.int .i64 (addW d0 x0 p1)) ∧ wx.cell? ⟨B, 1, none⟩ = some (.slice a (addL d0 x0 p1).length c) ∧ OT (w6.heap.size) (wx.heap.size) wx 39 a c ((addL d0 x0 p1)) ∧ w6.heap.size ≤ B ∧ (∀ p, a = some p → ¬ p.block = B) ∧ Below w6.heap.size w6 wx)
  case first =>
    go_region_held3 (fun W => Below w6.heap.size w6 W ∧ W.cell? ⟨w.heap.size, 0, none⟩ = some (.int .i64 d0) ∧ W.cell? ⟨w.heap.size, 1, none⟩ = some (.slice a0 x0.length c0) ∧ W.cell? ⟨w.heap.size + 1, 0, none⟩ = some (.string p1.name) ∧ W.cell? ⟨w.heap.size + 1, 1, none⟩ = some (.int .i64 p1.kind) ∧ W.cell? ⟨w.heap.size + 1, 2, none⟩ = some (.int .i64 p1.fr) ∧ W.cell? ⟨w.heap.size + 1, 3, none⟩ = some (.int .i64 p1.to)) (first | exact held6 (below_drewN (Below.refl _ _) 1) hc3_0 hc3_1 hc4_0 hc4_1 hc4_2 hc4_3 | (rename Below w6.heap.size w6 _ ∧ _ => hH; refine held6 ?_ hc3_0 hc3_1 hc4_0 hc4_1 hc4_2 hc4_3; first | (refine bthen hH.1 ?_; assumption) | exact hH.1.alloc hH.1.size _ | (refine below_realloc hH.1 ?_; omega) | (refine hH.1.setCell ?_ _; dsimp only; omega) | (refine (hH.1.setCell ?_ _).setCell ?_ _ <;> (dsimp only; omega)))) (first | (go_at_call 12; ((with_reducible refine (laws_toLayout d0 a0 c0 x0 _ (hx0.kept (bthen hB (And.left ‹Below w6.heap.size w6 _ ∧ _›))) hn0).mono ?_); rintro e w10 ⟨a11, c12, rfl, ho13, hb9⟩; have hq := bcell hb9; obtain ⟨hqaw10, hqbw10⟩ := hq; have hqsw10 := hb9.size; (try simp only [World.size_alloc, World.size_drew] at hqsw10); (have hb9n : Below w6.heap.size w6 w10 := by (first | exact hb9 | exact bthen (below_alloc _) hb9 | exact bthen (below_drewN (Below.refl _ _) 1) hb9 | exact bthen (below_drewN (below_alloc _) 1) hb9)); (try (have hltw6w10 : w6.heap.size < w10.heap.size := by omega)); (have hlew6w10 : w6.heap.size ≤ w10.heap.size := by omega))) | (go_at_call 13; ((with_reducible refine (laws_toItem p1 _).mono ?_); rintro e w15 ⟨rfl, hb14⟩; have hq := bcell hb14; obtain ⟨hqaw15, hqbw15⟩ := hq; have hqsw15 := hb14.size; (try simp only [World.size_alloc, World.size_drew] at hqsw15); (have hb14n : Below w10.heap.size w10 w15 := by (first | exact hb14 | exact bthen (below_alloc _) hb14 | exact bthen (below_drewN (Below.refl _ _) 1) hb14 | exact bthen (below_drewN (below_alloc _) 1) hb14)); (try (have hltw6w15 : w6.heap.size < w15.heap.size := by omega)); (have hlew6w15 : w6.heap.size ≤ w15.heap.size := by omega); (try (have hltw10w15 : w10.heap.size < w15.heap.size := by omega)); (have hlew10w15 : w10.heap.size ≤ w15.heap.size := by omega))) | (go_at_call 11; ((with_reducible refine (spec_AddItem d0 a11 c12 x0 p1 _ (((((OT.of ho13).RT).kept hb14n).kept0 (by first | exact Below.refl _ _ | exact below_alloc _))) hn0 (OT.capm (OT.of ho13)).1 hn1).mono ?_); rintro e w17 ⟨a18, c19, rfl, ho20, hb16⟩; have hq := bcell hb16; obtain ⟨hqaw17, hqbw17⟩ := hq; have hqsw17 := hb16.size; (try simp only [World.size_alloc, World.size_drew] at hqsw17); (have hb16n : Below w15.heap.size w15 w17 := by (first | exact hb16 | exact bthen (below_alloc _) hb16 | exact bthen (below_drewN (Below.refl _ _) 1) hb16 | exact bthen (below_drewN (below_alloc _) 1) hb16)); (try (have hltw6w17 : w6.heap.size < w17.heap.size := by omega)); (have hlew6w17 : w6.heap.size ≤ w17.heap.size := by omega); (try (have hltw10w17 : w10.heap.size < w17.heap.size := by omega)); (have hlew10w17 : w10.heap.size ≤ w17.heap.size := by omega); (try (have hltw15w17 : w15.heap.size < w17.heap.size := by omega)); (have hlew15w17 : w15.heap.size ≤ w17.heap.size := by omega))))
    all_goals
      go_wp2_with fail
      go_meet
      rename Below w6.heap.size w6 _ ∧ _ => hH
      refine ⟨_, a18, c19, rfl, rfl, by simp [go_sem, *], by simp [go_sem, *], ?_, by first | exact Nat.le_refl _ | omega | (simp only [World.size_alloc]; omega), fun p hp => by (have hq := own_at ho20 hp; first | omega | (simp only [World.size_alloc] at *; omega)), hH.1⟩
      first | (refine cut_alloc_T ho20 _ ?_; first | omega | (simp only [World.size_alloc]; omega)) | (refine cut_set_T ho20 _ ?_ ?_ <;> first | omega | (simp only [World.size_alloc]; omega))
  obtain ⟨b23, a24, c25, rfl, rfl, hc28_0, hc28_1, ho26, hc28_ge, hc28_ne, hb27⟩ := hcut
  rename World => w22
  obtain ⟨lo29, hi30, hc28_lo, hc28_hi, ho26, hc28_ap⟩ := ho26.tight hc28_ne
  replace hc3_0 := (keep hb27 hc3_0)
  replace hc3_1 := (keep hb27 hc3_1)
  replace hc4_0 := (keep hb27 hc4_0)
  replace hc4_1 := (keep hb27 hc4_1)
  replace hc4_2 := (keep hb27 hc4_2)
  replace hc4_3 := (keep hb27 hc4_3)
  replace hB := (bthen hB hb27)
  have hs31 := hb27.size
  replace hc3_l : w.heap.size < w22.heap.size := World.block_lt_of_cell? _ _ hc3_0
  replace hc4_l : w.heap.size + 1 < w22.heap.size := World.block_lt_of_cell? _ _ hc4_0
  clear hb27
  have hc28_l : b23 < w22.heap.size := World.block_lt_of_cell? _ _ hc28_0
  have hc28_m := hc28_l
  have hl21 := addL_len d0 x0 p1
  go_wp2_with fail
  refine (laws_toLayout d0 a0 c0 x0 _ (hx0.kept hB) hn0).mono ?_
  rintro e w33 ⟨a34, c35, rfl, ho36, hb32⟩
  replace hc3_0 := (keep hb32 hc3_0)
  replace hc3_1 := (keep hb32 hc3_1)
  replace hc4_0 := (keep hb32 hc4_0)
  replace hc4_1 := (keep hb32 hc4_1)
  replace hc4_2 := (keep hb32 hc4_2)
  replace hc4_3 := (keep hb32 hc4_3)
  replace hc28_0 := (keep hb32 hc28_0)
  replace hc28_1 := (keep hb32 hc28_1)
  replace ho26 := (ho26.kept hb32)
  replace hB := (bthen hB hb32)
  have hs37 := hb32.size
  replace hc3_l : w.heap.size < w33.heap.size := World.block_lt_of_cell? _ _ hc3_0
  replace hc4_l : w.heap.size + 1 < w33.heap.size := World.block_lt_of_cell? _ _ hc4_0
  replace hc28_l : b23 < w33.heap.size := World.block_lt_of_cell? _ _ hc28_0
  clear hb32
  replace ho36 := OT.of (own_mono (B := w22.heap.size) ho36 (by first | exact Nat.le_refl _ | simp))
  go_wp2_with fail
  generalize hWW : (w33.alloc (.cells #[.int .i64 d0, .slice a34 x0.length c35] 33)) = w38
  have hb39 : Below w33.heap.size w33 w38 := by rw [← hWW]; exact (below_alloc _)
  have hs40 : w33.heap.size + 1 ≤ w38.heap.size := by rw [← hWW]; simp
  have hc41_0 : w38.cell? ⟨w33.heap.size, 0, none⟩ = some (.int .i64 d0) := by rw [← hWW]; simp [go_sem]
  have hc41_1 : w38.cell? ⟨w33.heap.size, 1, none⟩ = some (.slice a34 x0.length c35) := by rw [← hWW]; simp [go_sem]
  have hc41_l : w33.heap.size < w38.heap.size := World.block_lt_of_cell? _ _ hc41_0
  clear hWW
  replace hc3_0 := (keep hb39 hc3_0)
  replace hc3_1 := (keep hb39 hc3_1)
  replace hc4_0 := (keep hb39 hc4_0)
  replace hc4_1 := (keep hb39 hc4_1)
  replace hc4_2 := (keep hb39 hc4_2)
  replace hc4_3 := (keep hb39 hc4_3)
  replace hc28_0 := (keep hb39 hc28_0)
  replace hc28_1 := (keep hb39 hc28_1)
  replace ho26 := (ho26.kept hb39)
  replace ho36 := (ho36.kept hb39)
  replace hB := (bthen hB hb39)
  have hs42 := hb39.size
  replace hc3_l : w.heap.size < w38.heap.size := World.block_lt_of_cell? _ _ hc3_0
  replace hc4_l : w.heap.size + 1 < w38.heap.size := World.block_lt_of_cell? _ _ hc4_0
  replace hc28_l : b23 < w38.heap.size := World.block_lt_of_cell? _ _ hc28_0
  clear hb39
  go_upto_region 10 with (fail)
  go_cut [9, 10] from 36 to 42 (fun s9 s10 wx => ∃ (B : Nat) (a : Option Addr) (c : Nat), s9 = .pointer (some ⟨B, 0, none⟩) ∧ s10 = .int .i64 (addCode d0 x0 p1) ∧ wx.cell? ⟨B, 0, none⟩ = some (.int .i64 (addW d0 x0 p1)) ∧ wx.cell? ⟨B, 1, none⟩ = some (.slice a (addL d0 x0 p1).length c) ∧ OT (w38.heap.size) (wx.heap.size) wx 39 a c ((addL d0 x0 p1)) ∧ w38.heap.size ≤ B ∧ (∀ p, a = some p → ¬ p.block = B) ∧ Below w38.heap.size w38 wx)
  case first =>
    go_region_held3 (fun W => Below w38.heap.size w38 W ∧ W.cell? ⟨w33.heap.size, 0, none⟩ = some (.int .i64 d0) ∧ W.cell? ⟨w33.heap.size, 1, none⟩ = some (.slice a34 x0.length c35) ∧ W.cell? ⟨w.heap.size + 1, 0, none⟩ = some (.string p1.name) ∧ W.cell? ⟨w.heap.size + 1, 1, none⟩ = some (.int .i64 p1.kind) ∧ W.cell? ⟨w.heap.size + 1, 2, none⟩ = some (.int .i64 p1.fr) ∧ W.cell? ⟨w.heap.size + 1, 3, none⟩ = some (.int .i64 p1.to)) (first | exact held6 (below_drewN (Below.refl _ _) 1) hc41_0 hc41_1 hc4_0 hc4_1 hc4_2 hc4_3 | (rename Below w38.heap.size w38 _ ∧ _ => hH; refine held6 ?_ hc41_0 hc41_1 hc4_0 hc4_1 hc4_2 hc4_3; first | (refine bthen hH.1 ?_; assumption) | exact hH.1.alloc hH.1.size _ | (refine below_realloc hH.1 ?_; omega) | (refine hH.1.setCell ?_ _; dsimp only; omega) | (refine (hH.1.setCell ?_ _).setCell ?_ _ <;> (dsimp only; omega)))) (first | (go_at_call 13; ((with_reducible refine (laws_toItem p1 _).mono ?_); rintro e w44 ⟨rfl, hb43⟩; have hq := bcell hb43; obtain ⟨hqaw44, hqbw44⟩ := hq; have hqsw44 := hb43.size; (try simp only [World.size_alloc, World.size_drew] at hqsw44); (have hb43n : Below w38.heap.size w38 w44 := by (first | exact hb43 | exact bthen (below_alloc _) hb43 | exact bthen (below_drewN (Below.refl _ _) 1) hb43 | exact bthen (below_drewN (below_alloc _) 1) hb43)); (try (have hltw38w44 : w38.heap.size < w44.heap.size := by omega)); (have hlew38w44 : w38.heap.size ≤ w44.heap.size := by omega))) | (go_at_call 14; ((with_reducible refine (impl_AddItem d0 a34 c35 x0 p1 _ ((ho36.RT).kept (And.left ‹Below w38.heap.size w38 _ ∧ _›)) hn0 (OT.capm ho36).1 hn1).mono ?_); rintro e w46 ⟨a47, c48, rfl, ho49, hb45⟩; have hq := bcell hb45; obtain ⟨hqaw46, hqbw46⟩ := hq; have hqsw46 := hb45.size; (try simp only [World.size_alloc, World.size_drew] at hqsw46); (have hb45n : Below w44.heap.size w44 w46 := by (first | exact hb45 | exact bthen (below_alloc _) hb45 | exact bthen (below_drewN (Below.refl _ _) 1) hb45 | exact bthen (below_drewN (below_alloc _) 1) hb45)); (try (have hltw38w46 : w38.heap.size < w46.heap.size := by omega)); (have hlew38w46 : w38.heap.size ≤ w46.heap.size := by omega); (try (have hltw44w46 : w44.heap.size < w46.heap.size := by omega)); (have hlew44w46 : w44.heap.size ≤ w46.heap.size := by omega))))
    all_goals
      go_wp2_with fail
      go_meet
      rename Below w38.heap.size w38 _ ∧ _ => hH
      refine ⟨_, a47, c48, rfl, rfl, by simp [go_sem, *], by simp [go_sem, *], ?_, by first | exact Nat.le_refl _ | omega | (simp only [World.size_alloc]; omega), fun p hp => by (have hq := own_at ho49 hp; first | omega | (simp only [World.size_alloc] at *; omega)), hH.1⟩
      first | (refine cut_alloc_T ho49 _ ?_; first | omega | (simp only [World.size_alloc]; omega)) | (refine cut_set_T ho49 _ ?_ ?_ <;> first | omega | (simp only [World.size_alloc]; omega))
  obtain ⟨b52, a53, c54, rfl, rfl, hc57_0, hc57_1, ho55, hc57_ge, hc57_ne, hb56⟩ := hcut
  rename World => w51
  obtain ⟨lo58, hi59, hc57_lo, hc57_hi, ho55, hc57_ap⟩ := ho55.tight hc57_ne
  replace hc3_0 := (keep hb56 hc3_0)
  replace hc3_1 := (keep hb56 hc3_1)
  replace hc4_0 := (keep hb56 hc4_0)
  replace hc4_1 := (keep hb56 hc4_1)
  replace hc4_2 := (keep hb56 hc4_2)
  replace hc4_3 := (keep hb56 hc4_3)
  replace hc28_0 := (keep hb56 hc28_0)
  replace hc28_1 := (keep hb56 hc28_1)
  replace hc41_0 := (keep hb56 hc41_0)
  replace hc41_1 := (keep hb56 hc41_1)
  replace ho26 := (ho26.kept hb56)
  replace ho36 := (ho36.kept hb56)
  replace hB := (bthen hB hb56)
  have hs60 := hb56.size
  replace hc3_l : w.heap.size < w51.heap.size := World.block_lt_of_cell? _ _ hc3_0
  replace hc4_l : w.heap.size + 1 < w51.heap.size := World.block_lt_of_cell? _ _ hc4_0
  replace hc28_l : b23 < w51.heap.size := World.block_lt_of_cell? _ _ hc28_0
  replace hc41_l : w33.heap.size < w51.heap.size := World.block_lt_of_cell? _ _ hc41_0
  clear hb56
  have hc57_l : b52 < w51.heap.size := World.block_lt_of_cell? _ _ hc57_0
  have hc57_m := hc57_l
  have hl50 := addL_len d0 x0 p1
  go_wp2_with fail
  refine (laws_eqLayout_same (addW d0 x0 p1) a53 a24 c54 c25 (addL d0 x0 p1) _ (ho55.RT) (ho26.RT) hl50).mono ?_
  rintro e w62 ⟨rfl, hb61⟩
  replace hc3_0 := (keep hb61 hc3_0)
  replace hc3_1 := (keep hb61 hc3_1)
  replace hc4_0 := (keep hb61 hc4_0)
  replace hc4_1 := (keep hb61 hc4_1)
  replace hc4_2 := (keep hb61 hc4_2)
  replace hc4_3 := (keep hb61 hc4_3)
  replace hc28_0 := (keep hb61 hc28_0)
  replace hc28_1 := (keep hb61 hc28_1)
  replace hc41_0 := (keep hb61 hc41_0)
  replace hc41_1 := (keep hb61 hc41_1)
  replace hc57_0 := (keep hb61 hc57_0)
  replace hc57_1 := (keep hb61 hc57_1)
  replace ho26 := (ho26.kept hb61)
  replace ho36 := (ho36.kept hb61)
  replace ho55 := (ho55.kept hb61)
  replace hB := (bthen hB hb61)
  have hs63 := hb61.size
  replace hc3_l : w.heap.size < w62.heap.size := World.block_lt_of_cell? _ _ hc3_0
  replace hc4_l : w.heap.size + 1 < w62.heap.size := World.block_lt_of_cell? _ _ hc4_0
  replace hc28_l : b23 < w62.heap.size := World.block_lt_of_cell? _ _ hc28_0
  replace hc41_l : w33.heap.size < w62.heap.size := World.block_lt_of_cell? _ _ hc41_0
  replace hc57_l : b52 < w62.heap.size := World.block_lt_of_cell? _ _ hc57_0
  clear hb61
  go_wp2_with fail
  go_region_held3 (fun W => Below w62.heap.size w62 W ∧ W.cell? ⟨w33.heap.size, 0, none⟩ = some (.int .i64 d0) ∧ W.cell? ⟨w33.heap.size, 1, none⟩ = some (.slice a34 x0.length c35) ∧ W.cell? ⟨w.heap.size, 0, none⟩ = some (.int .i64 d0) ∧ W.cell? ⟨w.heap.size, 1, none⟩ = some (.slice a0 x0.length c0)) (first | exact held4 (below_drewN (Below.refl _ _) 1) hc41_0 hc41_1 hc3_0 hc3_1 | (rename Below w62.heap.size w62 _ ∧ _ => hH; refine held4 ?_ hc41_0 hc41_1 hc3_0 hc3_1; (refine bthen hH.1 ?_; assumption))) (first | (go_at_call 12; ((with_reducible refine (laws_toLayout d0 a0 c0 x0 _ (hx0.kept (bthen hB (And.left ‹Below w62.heap.size w62 _ ∧ _›))) hn0).mono ?_); rintro e w65 ⟨a66, c67, rfl, ho68, hb64⟩)) | (go_at_call 15; ((with_reducible refine (laws_eqLayout_same d0 a34 a66 c35 c67 x0 _ ((ho36.RT).kept (And.left ‹Below w62.heap.size w62 _ ∧ _›)) (((OT.of ho68).RT)) hn0).mono ?_); rintro e w70 ⟨rfl, hb69⟩)))
  replace hc3_0 := (keep hb69 (keep hb64 (keep (below_drewN (Below.refl _ _) 1) hc3_0)))
  replace hc3_1 := (keep hb69 (keep hb64 (keep (below_drewN (Below.refl _ _) 1) hc3_1)))
  replace hc4_0 := (keep hb69 (keep hb64 (keep (below_drewN (Below.refl _ _) 1) hc4_0)))
  replace hc4_1 := (keep hb69 (keep hb64 (keep (below_drewN (Below.refl _ _) 1) hc4_1)))
  replace hc4_2 := (keep hb69 (keep hb64 (keep (below_drewN (Below.refl _ _) 1) hc4_2)))
  replace hc4_3 := (keep hb69 (keep hb64 (keep (below_drewN (Below.refl _ _) 1) hc4_3)))
  replace hc28_0 := (keep hb69 (keep hb64 (keep (below_drewN (Below.refl _ _) 1) hc28_0)))
  replace hc28_1 := (keep hb69 (keep hb64 (keep (below_drewN (Below.refl _ _) 1) hc28_1)))
  replace hc41_0 := (keep hb69 (keep hb64 (keep (below_drewN (Below.refl _ _) 1) hc41_0)))
  replace hc41_1 := (keep hb69 (keep hb64 (keep (below_drewN (Below.refl _ _) 1) hc41_1)))
  replace hc57_0 := (keep hb69 (keep hb64 (keep (below_drewN (Below.refl _ _) 1) hc57_0)))
  replace hc57_1 := (keep hb69 (keep hb64 (keep (below_drewN (Below.refl _ _) 1) hc57_1)))
  replace ho26 := (((ho26.kept (below_drewN (Below.refl _ _) 1)).kept hb64).kept hb69)
  replace ho36 := (((ho36.kept (below_drewN (Below.refl _ _) 1)).kept hb64).kept hb69)
  replace ho55 := (((ho55.kept (below_drewN (Below.refl _ _) 1)).kept hb64).kept hb69)
  replace hB := (bthen (bthen (bthen hB (below_drewN (Below.refl _ _) 1)) hb64) hb69)
  have hs71 := hb64.size
  simp only [World.size_drew] at hs71
  have hs72 := hb69.size
  replace hc3_l : w.heap.size < w70.heap.size := World.block_lt_of_cell? _ _ hc3_0
  replace hc4_l : w.heap.size + 1 < w70.heap.size := World.block_lt_of_cell? _ _ hc4_0
  replace hc28_l : b23 < w70.heap.size := World.block_lt_of_cell? _ _ hc28_0
  replace hc41_l : w33.heap.size < w70.heap.size := World.block_lt_of_cell? _ _ hc41_0
  replace hc57_l : b52 < w70.heap.size := World.block_lt_of_cell? _ _ hc57_0
  clear ho68
  clear hb64 hb69
  go_wp2_with fail
  refine (laws_markLayout (w22.heap.size) (w33.heap.size) d0 a34 c35 x0 1 _ ho36 (by omega) (by omega) hn0 (by first | omega | (simp only [World.size_alloc]; omega))).mono ?_
  rintro e w74 ⟨rfl, hw75, ho76⟩
  replace hc3_0 := hw75.cell hc3_0 (by dsimp only; omega)
  replace hc3_1 := hw75.cell hc3_1 (by dsimp only; omega)
  replace hc4_0 := hw75.cell hc4_0 (by dsimp only; omega)
  replace hc4_1 := hw75.cell hc4_1 (by dsimp only; omega)
  replace hc4_2 := hw75.cell hc4_2 (by dsimp only; omega)
  replace hc4_3 := hw75.cell hc4_3 (by dsimp only; omega)
  replace hc28_0 := hw75.cell hc28_0 (by dsimp only; omega)
  replace hc28_1 := hw75.cell hc28_1 (by dsimp only; omega)
  replace hc41_0 := hw75.cell hc41_0 (by dsimp only; omega)
  replace hc41_1 := hw75.cell hc41_1 (by dsimp only; omega)
  replace hc57_0 := hw75.cell hc57_0 (by dsimp only; omega)
  replace hc57_1 := hw75.cell hc57_1 (by dsimp only; omega)
  replace ho26 := ho26.within hw75 (by omega)
  replace ho55 := ho55.within hw75 (by omega)
  replace hB := hw75.below hB (by omega) (by first | omega | (simp only [World.size_alloc]; omega))
  have hs77 := hw75.size
  replace hc3_l : w.heap.size < w74.heap.size := World.block_lt_of_cell? _ _ hc3_0
  replace hc4_l : w.heap.size + 1 < w74.heap.size := World.block_lt_of_cell? _ _ hc4_0
  replace hc28_l : b23 < w74.heap.size := World.block_lt_of_cell? _ _ hc28_0
  replace hc41_l : w33.heap.size < w74.heap.size := World.block_lt_of_cell? _ _ hc41_0
  replace hc57_l : b52 < w74.heap.size := World.block_lt_of_cell? _ _ hc57_0
  clear hw75
  clear ho36
  go_wp2_with fail
  refine (laws_eqLayout_same (addW d0 x0 p1) a53 a24 c54 c25 (addL d0 x0 p1) _ (ho55.RT) (ho26.RT) hl50).mono ?_
  rintro e w79 ⟨rfl, hb78⟩
  replace hc3_0 := (keep hb78 hc3_0)
  replace hc3_1 := (keep hb78 hc3_1)
  replace hc4_0 := (keep hb78 hc4_0)
  replace hc4_1 := (keep hb78 hc4_1)
  replace hc4_2 := (keep hb78 hc4_2)
  replace hc4_3 := (keep hb78 hc4_3)
  replace hc28_0 := (keep hb78 hc28_0)
  replace hc28_1 := (keep hb78 hc28_1)
  replace hc41_0 := (keep hb78 hc41_0)
  replace hc41_1 := (keep hb78 hc41_1)
  replace hc57_0 := (keep hb78 hc57_0)
  replace hc57_1 := (keep hb78 hc57_1)
  replace ho26 := (ho26.kept hb78)
  replace ho76 := (ho76.kept hb78)
  replace ho55 := (ho55.kept hb78)
  replace hB := (bthen hB hb78)
  have hs80 := hb78.size
  replace hc3_l : w.heap.size < w79.heap.size := World.block_lt_of_cell? _ _ hc3_0
  replace hc4_l : w.heap.size + 1 < w79.heap.size := World.block_lt_of_cell? _ _ hc4_0
  replace hc28_l : b23 < w79.heap.size := World.block_lt_of_cell? _ _ hc28_0
  replace hc41_l : w33.heap.size < w79.heap.size := World.block_lt_of_cell? _ _ hc41_0
  replace hc57_l : b52 < w79.heap.size := World.block_lt_of_cell? _ _ hc57_0
  clear hb78
  go_wp2_with fail
  refine (laws_markLayout (lo58) (hi59) (addW d0 x0 p1) a53 c54 (addL d0 x0 p1) 1 _ ho55 (by omega) (by omega) hl50 (by first | omega | (simp only [World.size_alloc]; omega))).mono ?_
  rintro e w82 ⟨rfl, hw83, ho84⟩
  replace hc3_0 := hw83.cell hc3_0 (by dsimp only; omega)
  replace hc3_1 := hw83.cell hc3_1 (by dsimp only; omega)
  replace hc4_0 := hw83.cell hc4_0 (by dsimp only; omega)
  replace hc4_1 := hw83.cell hc4_1 (by dsimp only; omega)
  replace hc4_2 := hw83.cell hc4_2 (by dsimp only; omega)
  replace hc4_3 := hw83.cell hc4_3 (by dsimp only; omega)
  replace hc28_0 := hw83.cell hc28_0 (by dsimp only; omega)
  replace hc28_1 := hw83.cell hc28_1 (by dsimp only; omega)
  replace hc41_0 := hw83.cell hc41_0 (by dsimp only; omega)
  replace hc41_1 := hw83.cell hc41_1 (by dsimp only; omega)
  replace hc57_0 := hw83.cell hc57_0 (by dsimp only; omega)
  replace hc57_1 := hw83.cell hc57_1 (by dsimp only; omega)
  replace ho26 := ho26.within hw83 (by omega)
  replace ho76 := ho76.within hw83 (by omega)
  replace hB := hw83.below hB (by omega) (by first | omega | (simp only [World.size_alloc]; omega))
  have hs85 := hw83.size
  replace hc3_l : w.heap.size < w82.heap.size := World.block_lt_of_cell? _ _ hc3_0
  replace hc4_l : w.heap.size + 1 < w82.heap.size := World.block_lt_of_cell? _ _ hc4_0
  replace hc28_l : b23 < w82.heap.size := World.block_lt_of_cell? _ _ hc28_0
  replace hc41_l : w33.heap.size < w82.heap.size := World.block_lt_of_cell? _ _ hc41_0
  replace hc57_l : b52 < w82.heap.size := World.block_lt_of_cell? _ _ hc57_0
  clear hw83
  clear ho55
  go_wp2_with fail
  refine (laws_heldLayout (addW d0 x0 p1) a53 c54 (addL d0 x0 p1).length 1 _ (ho84.RT) (by omega) (by omega) (Nat.le_trans (itemsSz_len _) hl50)).mono ?_
  rintro e w87 ⟨rfl, hb86⟩
  replace hc3_0 := (keep hb86 hc3_0)
  replace hc3_1 := (keep hb86 hc3_1)
  replace hc4_0 := (keep hb86 hc4_0)
  replace hc4_1 := (keep hb86 hc4_1)
  replace hc4_2 := (keep hb86 hc4_2)
  replace hc4_3 := (keep hb86 hc4_3)
  replace hc28_0 := (keep hb86 hc28_0)
  replace hc28_1 := (keep hb86 hc28_1)
  replace hc41_0 := (keep hb86 hc41_0)
  replace hc41_1 := (keep hb86 hc41_1)
  replace hc57_0 := (keep hb86 hc57_0)
  replace hc57_1 := (keep hb86 hc57_1)
  replace ho26 := (ho26.kept hb86)
  replace ho76 := (ho76.kept hb86)
  replace ho84 := (ho84.kept hb86)
  replace hB := (bthen hB hb86)
  have hs88 := hb86.size
  replace hc3_l : w.heap.size < w87.heap.size := World.block_lt_of_cell? _ _ hc3_0
  replace hc4_l : w.heap.size + 1 < w87.heap.size := World.block_lt_of_cell? _ _ hc4_0
  replace hc28_l : b23 < w87.heap.size := World.block_lt_of_cell? _ _ hc28_0
  replace hc41_l : w33.heap.size < w87.heap.size := World.block_lt_of_cell? _ _ hc41_0
  replace hc57_l : b52 < w87.heap.size := World.block_lt_of_cell? _ _ hc57_0
  clear hb86
  go_upto_region 27 with (fail)
  go_cut [14, 15] from 84 to 91 (fun s14 s15 wx => ∃ (B : Nat) (a : Option Addr) (c : Nat), s14 = .pointer (some ⟨B, 0, none⟩) ∧ s15 = .int .i64 (addCode d0 x0 p1) ∧ wx.cell? ⟨B, 0, none⟩ = some (.int .i64 (addW d0 x0 p1)) ∧ wx.cell? ⟨B, 1, none⟩ = some (.slice a (addL d0 x0 p1).length c) ∧ OT (w87.heap.size) (wx.heap.size) wx 39 a c ((addL d0 x0 p1)) ∧ w87.heap.size ≤ B ∧ (∀ p, a = some p → ¬ p.block = B) ∧ Below w87.heap.size w87 wx)
  case first =>
    go_region_held3 (fun W => Below w87.heap.size w87 W ∧ W.cell? ⟨w.heap.size, 0, none⟩ = some (.int .i64 d0) ∧ W.cell? ⟨w.heap.size, 1, none⟩ = some (.slice a0 x0.length c0) ∧ W.cell? ⟨w.heap.size + 1, 0, none⟩ = some (.string p1.name) ∧ W.cell? ⟨w.heap.size + 1, 1, none⟩ = some (.int .i64 p1.kind) ∧ W.cell? ⟨w.heap.size + 1, 2, none⟩ = some (.int .i64 p1.fr) ∧ W.cell? ⟨w.heap.size + 1, 3, none⟩ = some (.int .i64 p1.to)) (first | exact held6 (below_drewN (Below.refl _ _) 1) hc3_0 hc3_1 hc4_0 hc4_1 hc4_2 hc4_3 | (rename Below w87.heap.size w87 _ ∧ _ => hH; refine held6 ?_ hc3_0 hc3_1 hc4_0 hc4_1 hc4_2 hc4_3; first | (refine bthen hH.1 ?_; assumption) | exact hH.1.alloc hH.1.size _ | (refine below_realloc hH.1 ?_; omega) | (refine hH.1.setCell ?_ _; dsimp only; omega) | (refine (hH.1.setCell ?_ _).setCell ?_ _ <;> (dsimp only; omega)))) (first | (go_at_call 12; ((with_reducible refine (laws_toLayout d0 a0 c0 x0 _ (hx0.kept (bthen hB (And.left ‹Below w87.heap.size w87 _ ∧ _›))) hn0).mono ?_); rintro e w90 ⟨a91, c92, rfl, ho93, hb89⟩; have hq := bcell hb89; obtain ⟨hqaw90, hqbw90⟩ := hq; have hqsw90 := hb89.size; (try simp only [World.size_alloc, World.size_drew] at hqsw90); (have hb89n : Below w87.heap.size w87 w90 := by (first | exact hb89 | exact bthen (below_alloc _) hb89 | exact bthen (below_drewN (Below.refl _ _) 1) hb89 | exact bthen (below_drewN (below_alloc _) 1) hb89)); (try (have hltw87w90 : w87.heap.size < w90.heap.size := by omega)); (have hlew87w90 : w87.heap.size ≤ w90.heap.size := by omega))) | (go_at_call 13; ((with_reducible refine (laws_toItem p1 _).mono ?_); rintro e w95 ⟨rfl, hb94⟩; have hq := bcell hb94; obtain ⟨hqaw95, hqbw95⟩ := hq; have hqsw95 := hb94.size; (try simp only [World.size_alloc, World.size_drew] at hqsw95); (have hb94n : Below w90.heap.size w90 w95 := by (first | exact hb94 | exact bthen (below_alloc _) hb94 | exact bthen (below_drewN (Below.refl _ _) 1) hb94 | exact bthen (below_drewN (below_alloc _) 1) hb94)); (try (have hltw87w95 : w87.heap.size < w95.heap.size := by omega)); (have hlew87w95 : w87.heap.size ≤ w95.heap.size := by omega); (try (have hltw90w95 : w90.heap.size < w95.heap.size := by omega)); (have hlew90w95 : w90.heap.size ≤ w95.heap.size := by omega))) | (go_at_call 14; ((with_reducible refine (impl_AddItem d0 a91 c92 x0 p1 _ (((((OT.of ho93).RT).kept hb94n).kept0 (by first | exact Below.refl _ _ | exact below_alloc _))) hn0 (OT.capm (OT.of ho93)).1 hn1).mono ?_); rintro e w97 ⟨a98, c99, rfl, ho100, hb96⟩; have hq := bcell hb96; obtain ⟨hqaw97, hqbw97⟩ := hq; have hqsw97 := hb96.size; (try simp only [World.size_alloc, World.size_drew] at hqsw97); (have hb96n : Below w95.heap.size w95 w97 := by (first | exact hb96 | exact bthen (below_alloc _) hb96 | exact bthen (below_drewN (Below.refl _ _) 1) hb96 | exact bthen (below_drewN (below_alloc _) 1) hb96)); (try (have hltw87w97 : w87.heap.size < w97.heap.size := by omega)); (have hlew87w97 : w87.heap.size ≤ w97.heap.size := by omega); (try (have hltw90w97 : w90.heap.size < w97.heap.size := by omega)); (have hlew90w97 : w90.heap.size ≤ w97.heap.size := by omega); (try (have hltw95w97 : w95.heap.size < w97.heap.size := by omega)); (have hlew95w97 : w95.heap.size ≤ w97.heap.size := by omega))))
    all_goals
      go_wp2_with fail
      go_meet
      rename Below w87.heap.size w87 _ ∧ _ => hH
      refine ⟨_, a98, c99, rfl, rfl, by simp [go_sem, *], by simp [go_sem, *], ?_, by first | exact Nat.le_refl _ | omega | (simp only [World.size_alloc]; omega), fun p hp => by (have hq := own_at ho100 hp; first | omega | (simp only [World.size_alloc] at *; omega)), hH.1⟩
      first | (refine cut_alloc_T ho100 _ ?_; first | omega | (simp only [World.size_alloc]; omega)) | (refine cut_set_T ho100 _ ?_ ?_ <;> first | omega | (simp only [World.size_alloc]; omega))
  obtain ⟨b103, a104, c105, rfl, rfl, hc108_0, hc108_1, ho106, hc108_ge, hc108_ne, hb107⟩ := hcut
  rename World => w102
  obtain ⟨lo109, hi110, hc108_lo, hc108_hi, ho106, hc108_ap⟩ := ho106.tight hc108_ne
  replace hc3_0 := (keep hb107 hc3_0)
  replace hc3_1 := (keep hb107 hc3_1)
  replace hc4_0 := (keep hb107 hc4_0)
  replace hc4_1 := (keep hb107 hc4_1)
  replace hc4_2 := (keep hb107 hc4_2)
  replace hc4_3 := (keep hb107 hc4_3)
  replace hc28_0 := (keep hb107 hc28_0)
  replace hc28_1 := (keep hb107 hc28_1)
  replace hc41_0 := (keep hb107 hc41_0)
  replace hc41_1 := (keep hb107 hc41_1)
  replace hc57_0 := (keep hb107 hc57_0)
  replace hc57_1 := (keep hb107 hc57_1)
  replace ho26 := (ho26.kept hb107)
  replace ho76 := (ho76.kept hb107)
  replace ho84 := (ho84.kept hb107)
  replace hB := (bthen hB hb107)
  have hs111 := hb107.size
  replace hc3_l : w.heap.size < w102.heap.size := World.block_lt_of_cell? _ _ hc3_0
  replace hc4_l : w.heap.size + 1 < w102.heap.size := World.block_lt_of_cell? _ _ hc4_0
  replace hc28_l : b23 < w102.heap.size := World.block_lt_of_cell? _ _ hc28_0
  replace hc41_l : w33.heap.size < w102.heap.size := World.block_lt_of_cell? _ _ hc41_0
  replace hc57_l : b52 < w102.heap.size := World.block_lt_of_cell? _ _ hc57_0
  clear hb107
  have hc108_l : b103 < w102.heap.size := World.block_lt_of_cell? _ _ hc108_0
  have hc108_m := hc108_l
  have hl101 := addL_len d0 x0 p1
  go_wp2_with fail
  refine (laws_eqLayout_same (addW d0 x0 p1) a104 a24 c105 c25 (addL d0 x0 p1) _ (ho106.RT) (ho26.RT) hl101).mono ?_
  rintro e w113 ⟨rfl, hb112⟩
  replace hc3_0 := (keep hb112 hc3_0)
  replace hc3_1 := (keep hb112 hc3_1)
  replace hc4_0 := (keep hb112 hc4_0)
  replace hc4_1 := (keep hb112 hc4_1)
  replace hc4_2 := (keep hb112 hc4_2)
  replace hc4_3 := (keep hb112 hc4_3)
  replace hc28_0 := (keep hb112 hc28_0)
  replace hc28_1 := (keep hb112 hc28_1)
  replace hc41_0 := (keep hb112 hc41_0)
  replace hc41_1 := (keep hb112 hc41_1)
  replace hc57_0 := (keep hb112 hc57_0)
  replace hc57_1 := (keep hb112 hc57_1)
  replace hc108_0 := (keep hb112 hc108_0)
  replace hc108_1 := (keep hb112 hc108_1)
  replace ho26 := (ho26.kept hb112)
  replace ho76 := (ho76.kept hb112)
  replace ho84 := (ho84.kept hb112)
  replace ho106 := (ho106.kept hb112)
  replace hB := (bthen hB hb112)
  have hs114 := hb112.size
  replace hc3_l : w.heap.size < w113.heap.size := World.block_lt_of_cell? _ _ hc3_0
  replace hc4_l : w.heap.size + 1 < w113.heap.size := World.block_lt_of_cell? _ _ hc4_0
  replace hc28_l : b23 < w113.heap.size := World.block_lt_of_cell? _ _ hc28_0
  replace hc41_l : w33.heap.size < w113.heap.size := World.block_lt_of_cell? _ _ hc41_0
  replace hc57_l : b52 < w113.heap.size := World.block_lt_of_cell? _ _ hc57_0
  replace hc108_l : b103 < w113.heap.size := World.block_lt_of_cell? _ _ hc108_0
  clear hb112
  go_wp2_with fail
  refine (laws_heldLayout (addW d0 x0 p1) a53 c54 (addL d0 x0 p1).length 1 _ (ho84.RT) (by omega) (by omega) (Nat.le_trans (itemsSz_len _) hl50)).mono ?_
  rintro e w116 ⟨rfl, hb115⟩
  replace hc3_0 := (keep hb115 hc3_0)
  replace hc3_1 := (keep hb115 hc3_1)
  replace hc4_0 := (keep hb115 hc4_0)
  replace hc4_1 := (keep hb115 hc4_1)
  replace hc4_2 := (keep hb115 hc4_2)
  replace hc4_3 := (keep hb115 hc4_3)
  replace hc28_0 := (keep hb115 hc28_0)
  replace hc28_1 := (keep hb115 hc28_1)
  replace hc41_0 := (keep hb115 hc41_0)
  replace hc41_1 := (keep hb115 hc41_1)
  replace hc57_0 := (keep hb115 hc57_0)
  replace hc57_1 := (keep hb115 hc57_1)
  replace hc108_0 := (keep hb115 hc108_0)
  replace hc108_1 := (keep hb115 hc108_1)
  replace ho26 := (ho26.kept hb115)
  replace ho76 := (ho76.kept hb115)
  replace ho84 := (ho84.kept hb115)
  replace ho106 := (ho106.kept hb115)
  replace hB := (bthen hB hb115)
  have hs117 := hb115.size
  replace hc3_l : w.heap.size < w116.heap.size := World.block_lt_of_cell? _ _ hc3_0
  replace hc4_l : w.heap.size + 1 < w116.heap.size := World.block_lt_of_cell? _ _ hc4_0
  replace hc28_l : b23 < w116.heap.size := World.block_lt_of_cell? _ _ hc28_0
  replace hc41_l : w33.heap.size < w116.heap.size := World.block_lt_of_cell? _ _ hc41_0
  replace hc57_l : b52 < w116.heap.size := World.block_lt_of_cell? _ _ hc57_0
  replace hc108_l : b103 < w116.heap.size := World.block_lt_of_cell? _ _ hc108_0
  clear hb115
  go_wp2_with fail
  go_ret
  exact ⟨rfl, hB⟩

theorem lifted (os : Os) (started : os.Started) (H : Type) (enc : TypeId × Value → H) :
    ReturnsInHanded {} Try.checked os 3 .any (Rows.fnExactAddItemSpec.pre6 enc Try.prog Try.f3 Rows.fnExactAddItemRow.domain false) (Rows.fnExactAddItemSpec.post enc Try.prog Try.f3 false true false false) := by
  refine returnsInHanded_of_change (C := Try.checked) own started (by kernel_rfl) Try.func3
    (ChangeSpec.witness6 (enc := enc) (C := Try.checked) false ⟨#[], #[.agg #[.int .i64 0, .slice none 0 0], .agg #[.string ByteArray.empty, .int .i64 0, .int .i64 0, .int .i64 0]], []⟩ 8 (by kernel_rfl) (by kernel_rfl) (by kernel_rfl) (by kernel_rfl)) ?_
  intro W base args ds gs before hval0 hW hcnd _
  have hval : ∀ (j : Nat) t v, Try.f3.params[j]? = some t → args[j]? = some v → Value.okWide Try.prog W .any base t v := hval0
  have hW' := hW
  obtain ⟨p, q, hA0, hV, rfl, hfz, hnd⟩ := hW
  have hA : DataW.TrodAll enc Try.prog W 0 (fun _ => true) true Try.f3.params.toList args.toList ds p := hA0
  rw [Try.params3] at hA hval
  obtain ⟨v0, vs0, d0, ds0, p0, q0, hargs, rfl, rfl, h0, r0⟩ := trodAll_cons hA
  obtain ⟨v1, vs1, d1, ds1, p1, q1, rfl, rfl, rfl, h1, r1⟩ := trodAll_cons r0
  obtain ⟨rfl, rfl, rfl⟩ := trodAll_nil r1
  obtain rfl : args = #[v0, v1] := by cases args; simp_all
  obtain ⟨rfl, rfl⟩ := trodVars_none hV
  have k0 := h0
  have lt0 : ∀ x ∈ p0, x.block < W.heap.size := by obtain ⟨m, hm⟩ := k0; exact DataW.trod_lt m _ _ _ hm
  obtain ⟨d0, a0, c0, x0, rfl, hx0, hm0⟩ := open_layout Try.underlying24 rfl rfl rfl rfl Try.underlying22 Try.underlying28 rfl rfl rfl rfl rfl rfl Try.underlying26 rfl rfl rfl rfl Try.underlying9 Try.underlying2 (by kernel_rfl) (by kernel_rfl) (by kernel_rfl) (by kernel_rfl) (by kernel_rfl) (by kernel_rfl) (hval 0 24 v0 rfl rfl) h0
  have k1 := h1
  have lt1 : ∀ x ∈ p1, x.block < W.heap.size := by obtain ⟨m, hm⟩ := k1; exact DataW.trod_lt m _ _ _ hm
  obtain ⟨y1, rfl, hm1⟩ := open_item Try.underlying28 rfl rfl rfl rfl rfl rfl Try.underlying26 rfl rfl rfl rfl Try.underlying9 Try.underlying2 (by kernel_rfl) (by kernel_rfl) (by kernel_rfl) (by kernel_rfl) (hval 1 28 v1 rfl rfl) h1
  clear hA0 hval0
  refine (walk d0 a0 c0 x0 y1 W hx0 hm0 hm1).mono fun e W' ⟨he, bel⟩ => ?_
  subst he
  exact ⟨_, rfl, _, _, _, [], _, [], hW', trodAll_mk1 (shut_bool Try.underlying4 _), (trodAll_cons_mk (Below.trod laidOut (by kernel_rfl) (of_decide_eq_true (by kernel_rfl)) k0 bel lt0) (trodAll_cons_mk (Below.trod laidOut (by kernel_rfl) (of_decide_eq_true (by kernel_rfl)) k1 bel lt1) trodAll_mk0)), rfl, bel.frame _, fun h => by cases h⟩

theorem over : Rows.fnExactAddItemRow.holds Try.pinned (OpenSpec.ofChange Rows.fnExactAddItemSpec) :=
  OpenClaim.holds_of_wide 3 Try.f3 rfl rfl rfl rfl rfl rfl rfl ⟨rfl, rfl, rfl, rfl, rfl⟩ rfl rfl rfl rfl rfl (by kernel_rfl) Try.func3 (by kernel_rfl)
    (of_decide_eq_true (by kernel_rfl)) (by unfold Func.isWrapper; first | (rw [if_pos (by decide +kernel)]; kernel_rfl) | (rw [if_neg (by decide +kernel)]; exact ⟨rfl, rfl⟩))
    (fun os started H enc _ => lifted os started H enc)

/-- The statement. -/
theorem proved : Rows.FnExactAddItemSaid := over
#print axioms proved
end Go.Proofs.Ytdjggbccdjbcoaa.fnExactAddItem
