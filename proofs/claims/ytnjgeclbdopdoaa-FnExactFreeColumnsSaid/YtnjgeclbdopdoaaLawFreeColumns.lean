/- FnExactFreeColumns: for all arguments the law returns true, and memory that was there is as it was. No condition. -/
import Derived.Test.YtnjgeclbdopdoaaRows
import Derived.Test.YtnjgeclbdopdoaaOpen
import Derived.Deep.RegionHeld3
import Derived.Deep.CutRange
import Derived.ShutString
import Derived.Test.YtnjgeclbdopdoaaMark
import Derived.Test.YtnjgeclbdopdoaaMarkT
import Derived.Test.YtnjgeclbdopdoaaFree
namespace Go.Proofs.Ytnjgeclbdopdoaa.fnExactFreeColumns
open Go.ChangeShapes Go.WideShapes Go.ChangeAt Go.RowKit
open Go.ChangeMaps (open_string shut_string)
set_option linter.unusedVariables false
set_option linter.unusedSimpArgs false
set_option linter.unnecessarySimpa false
set_option maxRecDepth 100000

theorem own : ownKnob Try.prog.godebug = none := by kernel_rfl
theorem laidOut : laidOutB Try.prog = true := by kernel_rfl

set_option maxHeartbeats 4000000 in
/-- The Go text returns true; memory has at most new blocks. -/
theorem walk (d0 : Int) (a0 : Option Addr) (c0 : Nat) (x0 : List Itm) (w : World) (hx0 : RT w a0 x0) (hm0 : x0.length ≤ maxLen ∧ ∀ y ∈ x0, y.name.size ≤ maxLen) :
    Calls Try.prog 11 #[.agg #[.int .i64 d0, .slice a0 x0.length c0]] w fun e w' => e = .returned (.bool true) ∧ Below w.heap.size w w' := by
  go_enter Try.func11, Try.ntmps11
  by_cases hz1 : 1048576 < (itemsSz x0 : Int)
  · go_wp2_with fail
    refine (laws_szLayout_over d0 a0 c0 x0 (1048576) _ (hx0.kept (below_alloc _)) (by omega) (by omega) hm0 hz1).mono ?_
    rintro e wz ⟨rfl, hz⟩
    go_wp2_with fail
    go_ret
    exact ⟨rfl, bthen (below_alloc _) hz⟩
  go_wp2_with fail
  refine (laws_szLayout_ok d0 a0 c0 x0 (1048576) _ (hx0.kept (below_alloc _)) (by omega) (by omega) hm0 (by omega)).mono ?_
  rintro e w1 ⟨rfl, hb2⟩
  have hc3_0 : w1.cell? ⟨w.heap.size, 0, none⟩ = some (.int .i64 d0) := (keep hb2 (by simp [go_sem]))
  have hc3_1 : w1.cell? ⟨w.heap.size, 1, none⟩ = some (.slice a0 x0.length c0) := (keep hb2 (by simp [go_sem]))
  have hB := (bthen (below_alloc _) hb2)
  have hs4 := hb2.size
  simp only [World.size_alloc] at hs4
  have hc3_l : w.heap.size < w1.heap.size := World.block_lt_of_cell? _ _ hc3_0
  clear hb2
  have hn0 : itemsSz x0 ≤ 1048576 := by omega
  go_wp2_with fail
  refine (laws_toLayout d0 a0 c0 x0 _ (hx0.kept hB) hn0).mono ?_
  rintro e w6 ⟨a7, c8, rfl, ho9, hb5⟩
  replace hc3_0 := (keep hb5 hc3_0)
  replace hc3_1 := (keep hb5 hc3_1)
  replace hB := (bthen hB hb5)
  have hs10 := hb5.size
  replace hc3_l : w.heap.size < w6.heap.size := World.block_lt_of_cell? _ _ hc3_0
  clear hb5
  replace ho9 := OT.of (own_mono (B := w1.heap.size) ho9 (by first | exact Nat.le_refl _ | simp))
  go_wp2_with fail
  refine (spec_FreeColumns d0 a7 c8 x0 _ (ho9.RT) hn0 (OT.capm ho9).1).mono ?_
  rintro e w12 ⟨a13, c14, rfl, ho15, hb11⟩
  replace hc3_0 := (keep hb11 hc3_0)
  replace hc3_1 := (keep hb11 hc3_1)
  replace ho9 := (ho9.kept hb11)
  replace hB := (bthen hB hb11)
  have hs17 := hb11.size
  replace hc3_l : w.heap.size < w12.heap.size := World.block_lt_of_cell? _ _ hc3_0
  clear hb11
  replace ho15 := OI.of (own_mono (B := w6.heap.size) ho15 (by first | exact Nat.le_refl _ | simp))
  have hl16 := freeL_len d0 x0
  go_wp2_with fail
  refine (laws_toLayout d0 a0 c0 x0 _ (hx0.kept hB) hn0).mono ?_
  rintro e w19 ⟨a20, c21, rfl, ho22, hb18⟩
  replace hc3_0 := (keep hb18 hc3_0)
  replace hc3_1 := (keep hb18 hc3_1)
  replace ho9 := (ho9.kept hb18)
  replace ho15 := (ho15.kept hb18)
  replace hB := (bthen hB hb18)
  have hs23 := hb18.size
  replace hc3_l : w.heap.size < w19.heap.size := World.block_lt_of_cell? _ _ hc3_0
  clear hb18
  replace ho22 := OT.of (own_mono (B := w12.heap.size) ho22 (by first | exact Nat.le_refl _ | simp))
  go_wp2_with fail
  refine (impl_FreeColumns d0 a20 c21 x0 _ ((ho22.RT).kept (below_alloc _)) hn0 (OT.capm ho22).1).mono ?_
  rintro e w25 ⟨a26, c27, rfl, ho28, hb24⟩
  replace hc3_0 := (keep hb24 (keep (below_alloc _) hc3_0))
  replace hc3_1 := (keep hb24 (keep (below_alloc _) hc3_1))
  have hc30_0 : w25.cell? ⟨w19.heap.size, 0, none⟩ = some (.int .i64 d0) := (keep hb24 (by simp [go_sem]))
  have hc30_1 : w25.cell? ⟨w19.heap.size, 1, none⟩ = some (.slice a20 x0.length c21) := (keep hb24 (by simp [go_sem]))
  replace ho9 := ((ho9.kept (below_alloc _)).kept hb24)
  replace ho15 := ((ho15.kept (below_alloc _)).kept hb24)
  replace ho22 := ((ho22.kept (below_alloc _)).kept hb24)
  replace hB := (bthen (bthen hB (below_alloc _)) hb24)
  have hs31 := hb24.size
  simp only [World.size_alloc] at hs31
  replace hc3_l : w.heap.size < w25.heap.size := World.block_lt_of_cell? _ _ hc3_0
  have hc30_l : w19.heap.size < w25.heap.size := World.block_lt_of_cell? _ _ hc30_0
  clear hb24
  replace ho28 := OI.of (own_mono (B := w19.heap.size + 1) ho28 (by first | exact Nat.le_refl _ | simp))
  have hl29 := freeL_len d0 x0
  go_wp2_with fail
  refine (laws_eqInt64S_same a26 a13 c27 c14 (freeL d0 x0) _ (ho28.RI) (ho15.RI) (small hl29)).mono ?_
  rintro e w33 ⟨rfl, hb32⟩
  replace hc3_0 := (keep hb32 hc3_0)
  replace hc3_1 := (keep hb32 hc3_1)
  replace hc30_0 := (keep hb32 hc30_0)
  replace hc30_1 := (keep hb32 hc30_1)
  replace ho9 := (ho9.kept hb32)
  replace ho15 := (ho15.kept hb32)
  replace ho22 := (ho22.kept hb32)
  replace ho28 := (ho28.kept hb32)
  replace hB := (bthen hB hb32)
  have hs34 := hb32.size
  replace hc3_l : w.heap.size < w33.heap.size := World.block_lt_of_cell? _ _ hc3_0
  replace hc30_l : w19.heap.size < w33.heap.size := World.block_lt_of_cell? _ _ hc30_0
  clear hb32
  go_wp2_with fail
  go_region_held3 (fun W => Below w33.heap.size w33 W ∧ W.cell? ⟨w19.heap.size, 0, none⟩ = some (.int .i64 d0) ∧ W.cell? ⟨w19.heap.size, 1, none⟩ = some (.slice a20 x0.length c21) ∧ W.cell? ⟨w.heap.size, 0, none⟩ = some (.int .i64 d0) ∧ W.cell? ⟨w.heap.size, 1, none⟩ = some (.slice a0 x0.length c0)) (first | exact held4 (below_drewN (Below.refl _ _) 1) hc30_0 hc30_1 hc3_0 hc3_1 | (rename Below w33.heap.size w33 _ ∧ _ => hH; refine held4 ?_ hc30_0 hc30_1 hc3_0 hc3_1; (refine bthen hH.1 ?_; assumption))) (first | (go_at_call 15; ((with_reducible refine (laws_toLayout d0 a0 c0 x0 _ (hx0.kept (bthen hB (And.left ‹Below w33.heap.size w33 _ ∧ _›))) hn0).mono ?_); rintro e w36 ⟨a37, c38, rfl, ho39, hb35⟩)) | (go_at_call 17; ((with_reducible refine (laws_eqLayout_same d0 a20 a37 c21 c38 x0 _ ((ho22.RT).kept (And.left ‹Below w33.heap.size w33 _ ∧ _›)) (((OT.of ho39).RT)) hn0).mono ?_); rintro e w41 ⟨rfl, hb40⟩)))
  replace hc3_0 := (keep hb40 (keep hb35 (keep (below_drewN (Below.refl _ _) 1) hc3_0)))
  replace hc3_1 := (keep hb40 (keep hb35 (keep (below_drewN (Below.refl _ _) 1) hc3_1)))
  replace hc30_0 := (keep hb40 (keep hb35 (keep (below_drewN (Below.refl _ _) 1) hc30_0)))
  replace hc30_1 := (keep hb40 (keep hb35 (keep (below_drewN (Below.refl _ _) 1) hc30_1)))
  replace ho9 := (((ho9.kept (below_drewN (Below.refl _ _) 1)).kept hb35).kept hb40)
  replace ho15 := (((ho15.kept (below_drewN (Below.refl _ _) 1)).kept hb35).kept hb40)
  replace ho22 := (((ho22.kept (below_drewN (Below.refl _ _) 1)).kept hb35).kept hb40)
  replace ho28 := (((ho28.kept (below_drewN (Below.refl _ _) 1)).kept hb35).kept hb40)
  replace hB := (bthen (bthen (bthen hB (below_drewN (Below.refl _ _) 1)) hb35) hb40)
  have hs42 := hb35.size
  simp only [World.size_drew] at hs42
  have hs43 := hb40.size
  replace hc3_l : w.heap.size < w41.heap.size := World.block_lt_of_cell? _ _ hc3_0
  replace hc30_l : w19.heap.size < w41.heap.size := World.block_lt_of_cell? _ _ hc30_0
  clear ho39
  clear hb35 hb40
  go_wp2_with fail
  refine (laws_markLayout (w12.heap.size) (w19.heap.size) d0 a20 c21 x0 1 _ ho22 (by omega) (by omega) hn0 (by first | omega | (simp only [World.size_alloc]; omega))).mono ?_
  rintro e w45 ⟨rfl, hw46, ho47⟩
  replace hc3_0 := hw46.cell hc3_0 (by dsimp only; omega)
  replace hc3_1 := hw46.cell hc3_1 (by dsimp only; omega)
  replace hc30_0 := hw46.cell hc30_0 (by dsimp only; omega)
  replace hc30_1 := hw46.cell hc30_1 (by dsimp only; omega)
  replace ho9 := ho9.within hw46 (by omega)
  replace ho15 := ho15.within hw46 (by omega)
  replace ho28 := ho28.within hw46 (by omega)
  replace hB := hw46.below hB (by omega) (by first | omega | (simp only [World.size_alloc]; omega))
  have hs48 := hw46.size
  replace hc3_l : w.heap.size < w45.heap.size := World.block_lt_of_cell? _ _ hc3_0
  replace hc30_l : w19.heap.size < w45.heap.size := World.block_lt_of_cell? _ _ hc30_0
  clear hw46
  clear ho22
  go_wp2_with fail
  refine (laws_eqInt64S_same a26 a13 c27 c14 (freeL d0 x0) _ (ho28.RI) (ho15.RI) (small hl29)).mono ?_
  rintro e w50 ⟨rfl, hb49⟩
  replace hc3_0 := (keep hb49 hc3_0)
  replace hc3_1 := (keep hb49 hc3_1)
  replace hc30_0 := (keep hb49 hc30_0)
  replace hc30_1 := (keep hb49 hc30_1)
  replace ho9 := (ho9.kept hb49)
  replace ho15 := (ho15.kept hb49)
  replace ho47 := (ho47.kept hb49)
  replace ho28 := (ho28.kept hb49)
  replace hB := (bthen hB hb49)
  have hs51 := hb49.size
  replace hc3_l : w.heap.size < w50.heap.size := World.block_lt_of_cell? _ _ hc3_0
  replace hc30_l : w19.heap.size < w50.heap.size := World.block_lt_of_cell? _ _ hc30_0
  clear hb49
  go_wp2_with fail
  refine (laws_markInt64S (w19.heap.size + 1) (w25.heap.size) a26 c27 (freeL d0 x0) 1 _ ho28 (by omega) (by omega) hl29 (by first | omega | (simp only [World.size_alloc]; omega))).mono ?_
  rintro e w53 ⟨rfl, hw54, ho55⟩
  replace hc3_0 := hw54.cell hc3_0 (by dsimp only; omega)
  replace hc3_1 := hw54.cell hc3_1 (by dsimp only; omega)
  replace hc30_0 := hw54.cell hc30_0 (by dsimp only; omega)
  replace hc30_1 := hw54.cell hc30_1 (by dsimp only; omega)
  replace ho9 := ho9.within hw54 (by omega)
  replace ho15 := ho15.within hw54 (by omega)
  replace ho47 := ho47.within hw54 (by omega)
  replace hB := hw54.below hB (by omega) (by first | omega | (simp only [World.size_alloc]; omega))
  have hs56 := hw54.size
  replace hc3_l : w.heap.size < w53.heap.size := World.block_lt_of_cell? _ _ hc3_0
  replace hc30_l : w19.heap.size < w53.heap.size := World.block_lt_of_cell? _ _ hc30_0
  clear hw54
  clear ho28
  go_wp2_with fail
  refine (laws_heldInt64S a26 c27 (freeL d0 x0).length 1 _ (ho55.RI) (by omega) (by omega) hl29).mono ?_
  rintro e w58 ⟨rfl, hb57⟩
  replace hc3_0 := (keep hb57 hc3_0)
  replace hc3_1 := (keep hb57 hc3_1)
  replace hc30_0 := (keep hb57 hc30_0)
  replace hc30_1 := (keep hb57 hc30_1)
  replace ho9 := (ho9.kept hb57)
  replace ho15 := (ho15.kept hb57)
  replace ho47 := (ho47.kept hb57)
  replace ho55 := (ho55.kept hb57)
  replace hB := (bthen hB hb57)
  have hs59 := hb57.size
  replace hc3_l : w.heap.size < w58.heap.size := World.block_lt_of_cell? _ _ hc3_0
  replace hc30_l : w19.heap.size < w58.heap.size := World.block_lt_of_cell? _ _ hc30_0
  clear hb57
  go_wp2_with fail
  refine (laws_toLayout d0 a0 c0 x0 _ (hx0.kept hB) hn0).mono ?_
  rintro e w61 ⟨a62, c63, rfl, ho64, hb60⟩
  replace hc3_0 := (keep hb60 hc3_0)
  replace hc3_1 := (keep hb60 hc3_1)
  replace hc30_0 := (keep hb60 hc30_0)
  replace hc30_1 := (keep hb60 hc30_1)
  replace ho9 := (ho9.kept hb60)
  replace ho15 := (ho15.kept hb60)
  replace ho47 := (ho47.kept hb60)
  replace ho55 := (ho55.kept hb60)
  replace hB := (bthen hB hb60)
  have hs65 := hb60.size
  replace hc3_l : w.heap.size < w61.heap.size := World.block_lt_of_cell? _ _ hc3_0
  replace hc30_l : w19.heap.size < w61.heap.size := World.block_lt_of_cell? _ _ hc30_0
  clear hb60
  replace ho64 := OT.of (own_mono (B := w58.heap.size) ho64 (by first | exact Nat.le_refl _ | simp))
  go_wp2_with fail
  refine (impl_FreeColumns d0 a62 c63 x0 _ (ho64.RT) hn0 (OT.capm ho64).1).mono ?_
  rintro e w67 ⟨a68, c69, rfl, ho70, hb66⟩
  replace hc3_0 := (keep hb66 hc3_0)
  replace hc3_1 := (keep hb66 hc3_1)
  replace hc30_0 := (keep hb66 hc30_0)
  replace hc30_1 := (keep hb66 hc30_1)
  replace ho9 := (ho9.kept hb66)
  replace ho15 := (ho15.kept hb66)
  replace ho47 := (ho47.kept hb66)
  replace ho55 := (ho55.kept hb66)
  replace ho64 := (ho64.kept hb66)
  replace hB := (bthen hB hb66)
  have hs72 := hb66.size
  replace hc3_l : w.heap.size < w67.heap.size := World.block_lt_of_cell? _ _ hc3_0
  replace hc30_l : w19.heap.size < w67.heap.size := World.block_lt_of_cell? _ _ hc30_0
  clear hb66
  replace ho70 := OI.of (own_mono (B := w61.heap.size) ho70 (by first | exact Nat.le_refl _ | simp))
  have hl71 := freeL_len d0 x0
  go_wp2_with fail
  refine (laws_eqInt64S_same a68 a13 c69 c14 (freeL d0 x0) _ (ho70.RI) (ho15.RI) (small hl71)).mono ?_
  rintro e w74 ⟨rfl, hb73⟩
  replace hc3_0 := (keep hb73 hc3_0)
  replace hc3_1 := (keep hb73 hc3_1)
  replace hc30_0 := (keep hb73 hc30_0)
  replace hc30_1 := (keep hb73 hc30_1)
  replace ho9 := (ho9.kept hb73)
  replace ho15 := (ho15.kept hb73)
  replace ho47 := (ho47.kept hb73)
  replace ho55 := (ho55.kept hb73)
  replace ho64 := (ho64.kept hb73)
  replace ho70 := (ho70.kept hb73)
  replace hB := (bthen hB hb73)
  have hs75 := hb73.size
  replace hc3_l : w.heap.size < w74.heap.size := World.block_lt_of_cell? _ _ hc3_0
  replace hc30_l : w19.heap.size < w74.heap.size := World.block_lt_of_cell? _ _ hc30_0
  clear hb73
  go_wp2_with fail
  refine (laws_heldInt64S a26 c27 (freeL d0 x0).length 1 _ (ho55.RI) (by omega) (by omega) hl29).mono ?_
  rintro e w77 ⟨rfl, hb76⟩
  replace hc3_0 := (keep hb76 hc3_0)
  replace hc3_1 := (keep hb76 hc3_1)
  replace hc30_0 := (keep hb76 hc30_0)
  replace hc30_1 := (keep hb76 hc30_1)
  replace ho9 := (ho9.kept hb76)
  replace ho15 := (ho15.kept hb76)
  replace ho47 := (ho47.kept hb76)
  replace ho55 := (ho55.kept hb76)
  replace ho64 := (ho64.kept hb76)
  replace ho70 := (ho70.kept hb76)
  replace hB := (bthen hB hb76)
  have hs78 := hb76.size
  replace hc3_l : w.heap.size < w77.heap.size := World.block_lt_of_cell? _ _ hc3_0
  replace hc30_l : w19.heap.size < w77.heap.size := World.block_lt_of_cell? _ _ hc30_0
  clear hb76
  go_wp2_with fail
  go_ret
  exact ⟨rfl, hB⟩

theorem lifted (os : Os) (started : os.Started) (H : Type) (enc : TypeId × Value → H) :
    ReturnsInHanded {} Try.checked os 11 .any (Rows.fnExactFreeColumnsSpec.pre6 enc Try.prog Try.f11 Rows.fnExactFreeColumnsRow.domain false) (Rows.fnExactFreeColumnsSpec.post enc Try.prog Try.f11 false true false false) := by
  refine returnsInHanded_of_change (C := Try.checked) own started (by kernel_rfl) Try.func11
    (ChangeSpec.witness6 (enc := enc) (C := Try.checked) false ⟨#[], #[.agg #[.int .i64 0, .slice none 0 0]], []⟩ 8 (by kernel_rfl) (by kernel_rfl) (by kernel_rfl) (by kernel_rfl)) ?_
  intro W base args ds gs before hval0 hW hcnd _
  have hval : ∀ (j : Nat) t v, Try.f11.params[j]? = some t → args[j]? = some v → Value.okWide Try.prog W .any base t v := hval0
  have hW' := hW
  obtain ⟨p, q, hA0, hV, rfl, hfz, hnd⟩ := hW
  have hA : DataW.TrodAll enc Try.prog W 0 (fun _ => true) true Try.f11.params.toList args.toList ds p := hA0
  rw [Try.params11] at hA hval
  obtain ⟨v0, vs0, d0, ds0, p0, q0, hargs, rfl, rfl, h0, r0⟩ := trodAll_cons hA
  obtain ⟨rfl, rfl, rfl⟩ := trodAll_nil r0
  obtain rfl : args = #[v0] := by cases args; simp_all
  obtain ⟨rfl, rfl⟩ := trodVars_none hV
  have k0 := h0
  have lt0 : ∀ x ∈ p0, x.block < W.heap.size := by obtain ⟨m, hm⟩ := k0; exact DataW.trod_lt m _ _ _ hm
  obtain ⟨d0, a0, c0, x0, rfl, hx0, hm0⟩ := open_layout Try.underlying24 rfl rfl rfl rfl Try.underlying22 Try.underlying66 rfl rfl rfl rfl rfl rfl Try.underlying53 rfl rfl rfl rfl Try.underlying9 Try.underlying2 (by kernel_rfl) (by kernel_rfl) (by kernel_rfl) (by kernel_rfl) (by kernel_rfl) (by kernel_rfl) (hval 0 24 v0 rfl rfl) h0
  clear hA0 hval0
  refine (walk d0 a0 c0 x0 W hx0 hm0).mono fun e W' ⟨he, bel⟩ => ?_
  subst he
  exact ⟨_, rfl, _, _, _, [], _, [], hW', trodAll_mk1 (shut_bool Try.underlying4 _), (trodAll_cons_mk (Below.trod laidOut (by kernel_rfl) (of_decide_eq_true (by kernel_rfl)) k0 bel lt0) trodAll_mk0), rfl, bel.frame _, fun h => by cases h⟩

theorem over : Rows.fnExactFreeColumnsRow.holds Try.pinned (OpenSpec.ofChange Rows.fnExactFreeColumnsSpec) :=
  OpenClaim.holds_of_wide 11 Try.f11 rfl rfl rfl rfl rfl rfl rfl ⟨rfl, rfl, rfl, rfl, rfl⟩ rfl rfl rfl rfl rfl (by kernel_rfl) Try.func11 (by kernel_rfl)
    (of_decide_eq_true (by kernel_rfl)) (by unfold Func.isWrapper; first | (rw [if_pos (by decide +kernel)]; kernel_rfl) | (rw [if_neg (by decide +kernel)]; exact ⟨rfl, rfl⟩))
    (fun os started H enc _ => lifted os started H enc)

/-- The statement. -/
theorem proved : Rows.FnExactFreeColumnsSaid := over
#print axioms proved
end Go.Proofs.Ytnjgeclbdopdoaa.fnExactFreeColumns
