/- FnExactNumberIn: for all arguments the law returns true, and memory that was there is as it was. No condition. -/
import Derived.Test.YtnjgeclbdopdoaaRows
import Derived.Test.YtnjgeclbdopdoaaOpen
import Derived.Deep.RegionHeld3
import Derived.Deep.CutRange
import Derived.ShutString
import Derived.Test.YtnjgeclbdopdoaaNumIn
namespace Go.Proofs.Ytnjgeclbdopdoaa.fnExactNumberIn
open Go.ChangeShapes Go.WideShapes Go.ChangeAt Go.RowKit
open Go.ChangeMaps (open_string shut_string)
set_option linter.unusedVariables false
set_option linter.unusedSimpArgs false
set_option linter.unnecessarySimpa false
set_option maxRecDepth 100000

theorem own : ownKnob Try.prog.godebug = none := by kernel_rfl
theorem laidOut : laidOutB Try.prog = true := by kernel_rfl

set_option maxHeartbeats 4000000 in
/-- The Go text returns true; memory has at most new blocks. -/
theorem walk (a0 : Option Addr) (c0 : Nat) (x0 : List Int) (i1 j1 : Int) (w : World) (hx0 : RI w a0 x0) (hm0 : x0.length ≤ maxLen) :
    Calls Try.prog 9 #[.agg #[.slice a0 x0.length c0], .agg #[.int .i64 i1, .int .i64 j1]] w fun e w' => e = .returned (.bool true) ∧ Below w.heap.size w w' := by
  go_enter Try.func9, Try.ntmps9
  by_cases hz1 : 1048576 < (x0.length : Int)
  · go_wp2_with fail
    refine (laws_szCard_over a0 c0 x0 (1048576) _ (hx0.kept (below_alloc2 _ _ _)) (by omega) (by omega) hm0 hz1).mono ?_
    rintro e wz ⟨rfl, hz⟩
    go_wp2_with fail
    go_ret
    exact ⟨rfl, bthen (below_alloc2 _ _ _) hz⟩
  go_wp2_with fail
  refine (laws_szCard_ok a0 c0 x0 (1048576) _ (hx0.kept (below_alloc2 _ _ _)) (by omega) (by omega) hm0 (by omega)).mono ?_
  rintro e w1 ⟨rfl, hb2⟩
  have hc3_0 : w1.cell? ⟨w.heap.size, 0, none⟩ = some (.slice a0 x0.length c0) := (keep hb2 (by simp [go_sem]))
  have hc4_0 : w1.cell? ⟨w.heap.size + 1, 0, none⟩ = some (.int .i64 i1) := (keep hb2 (by simp [go_sem]))
  have hc4_1 : w1.cell? ⟨w.heap.size + 1, 1, none⟩ = some (.int .i64 j1) := (keep hb2 (by simp [go_sem]))
  have hB := (bthen (below_alloc2 _ _ _) hb2)
  have hs5 := hb2.size
  simp only [World.size_alloc] at hs5
  have hc3_l : w.heap.size < w1.heap.size := World.block_lt_of_cell? _ _ hc3_0
  have hc4_l : w.heap.size + 1 < w1.heap.size := World.block_lt_of_cell? _ _ hc4_0
  clear hb2
  have hn0 : x0.length ≤ 1048576 := by omega
  go_wp2_with fail
  go_region_held3 (fun W => Below w1.heap.size w1 W ∧ W.cell? ⟨w.heap.size, 0, none⟩ = some (.slice a0 x0.length c0) ∧ W.cell? ⟨w.heap.size + 1, 0, none⟩ = some (.int .i64 i1) ∧ W.cell? ⟨w.heap.size + 1, 1, none⟩ = some (.int .i64 j1)) (first | exact held3 (below_drewN (Below.refl _ _) 1) hc3_0 hc4_0 hc4_1 | (rename Below w1.heap.size w1 _ ∧ _ => hH; refine held3 ?_ hc3_0 hc4_0 hc4_1; (refine bthen hH.1 ?_; assumption))) (first | (go_at_call 26; ((with_reducible refine (laws_toCard a0 c0 x0 _ (hx0.kept (bthen hB (And.left ‹Below w1.heap.size w1 _ ∧ _›))) hn0).mono ?_); rintro e w7 ⟨a8, c9, rfl, ho10, hb6⟩)) | (go_at_call 34; ((with_reducible refine (laws_toField i1 j1 _).mono ?_); rintro e w12 ⟨rfl, hb11⟩)) | (go_at_call 33; ((with_reducible refine (spec_NumberIn a8 c9 x0 i1 j1 _ ((((OI.of ho10).RI).kept hb11)) hn0 (OI.cap0 (OI.of ho10))).mono ?_); rintro e w14 ⟨rfl, hb13⟩)))
  replace hc3_0 := (keep hb13 (keep hb11 (keep hb6 (keep (below_drewN (Below.refl _ _) 1) hc3_0))))
  replace hc4_0 := (keep hb13 (keep hb11 (keep hb6 (keep (below_drewN (Below.refl _ _) 1) hc4_0))))
  replace hc4_1 := (keep hb13 (keep hb11 (keep hb6 (keep (below_drewN (Below.refl _ _) 1) hc4_1))))
  replace hB := (bthen (bthen (bthen (bthen hB (below_drewN (Below.refl _ _) 1)) hb6) hb11) hb13)
  have hs15 := hb6.size
  simp only [World.size_drew] at hs15
  have hs16 := hb11.size
  have hs17 := hb13.size
  replace hc3_l : w.heap.size < w14.heap.size := World.block_lt_of_cell? _ _ hc3_0
  replace hc4_l : w.heap.size + 1 < w14.heap.size := World.block_lt_of_cell? _ _ hc4_0
  clear ho10
  clear hb6 hb11 hb13
  go_wp2_with fail
  refine (laws_toCard a0 c0 x0 _ (hx0.kept hB) hn0).mono ?_
  rintro e w19 ⟨a20, c21, rfl, ho22, hb18⟩
  replace hc3_0 := (keep hb18 hc3_0)
  replace hc4_0 := (keep hb18 hc4_0)
  replace hc4_1 := (keep hb18 hc4_1)
  replace hB := (bthen hB hb18)
  have hs23 := hb18.size
  replace hc3_l : w.heap.size < w19.heap.size := World.block_lt_of_cell? _ _ hc3_0
  replace hc4_l : w.heap.size + 1 < w19.heap.size := World.block_lt_of_cell? _ _ hc4_0
  clear hb18
  replace ho22 := OI.of (own_mono (B := w14.heap.size) ho22 (by first | exact Nat.le_refl _ | simp))
  go_wp2_with fail
  generalize hWW : (w19.alloc (.cells #[.slice a20 x0.length c21] 43)) = w24
  have hb25 : Below w19.heap.size w19 w24 := by rw [← hWW]; exact (below_alloc _)
  have hs26 : w19.heap.size + 1 ≤ w24.heap.size := by rw [← hWW]; simp
  have hc27_0 : w24.cell? ⟨w19.heap.size, 0, none⟩ = some (.slice a20 x0.length c21) := by rw [← hWW]; simp [go_sem]
  have hc27_l : w19.heap.size < w24.heap.size := World.block_lt_of_cell? _ _ hc27_0
  clear hWW
  replace hc3_0 := (keep hb25 hc3_0)
  replace hc4_0 := (keep hb25 hc4_0)
  replace hc4_1 := (keep hb25 hc4_1)
  replace ho22 := (ho22.kept hb25)
  replace hB := (bthen hB hb25)
  have hs28 := hb25.size
  replace hc3_l : w.heap.size < w24.heap.size := World.block_lt_of_cell? _ _ hc3_0
  replace hc4_l : w.heap.size + 1 < w24.heap.size := World.block_lt_of_cell? _ _ hc4_0
  clear hb25
  go_wp2_with fail
  go_region_held3 (fun W => Below w24.heap.size w24 W ∧ W.cell? ⟨w19.heap.size, 0, none⟩ = some (.slice a20 x0.length c21) ∧ W.cell? ⟨w.heap.size + 1, 0, none⟩ = some (.int .i64 i1) ∧ W.cell? ⟨w.heap.size + 1, 1, none⟩ = some (.int .i64 j1)) (first | exact held3 (below_drewN (Below.refl _ _) 1) hc27_0 hc4_0 hc4_1 | (rename Below w24.heap.size w24 _ ∧ _ => hH; refine held3 ?_ hc27_0 hc4_0 hc4_1; (refine bthen hH.1 ?_; assumption))) (first | (go_at_call 34; ((with_reducible refine (laws_toField i1 j1 _).mono ?_); rintro e w30 ⟨rfl, hb29⟩)) | (go_at_call 35; ((with_reducible refine (impl_NumberIn a20 c21 x0 i1 j1 _ ((ho22.RI).kept (And.left ‹Below w24.heap.size w24 _ ∧ _›)) hn0 (OI.cap0 ho22)).mono ?_); rintro e w32 ⟨rfl, hb31⟩)))
  replace hc3_0 := (keep hb31 (keep hb29 (keep (below_drewN (Below.refl _ _) 1) hc3_0)))
  replace hc4_0 := (keep hb31 (keep hb29 (keep (below_drewN (Below.refl _ _) 1) hc4_0)))
  replace hc4_1 := (keep hb31 (keep hb29 (keep (below_drewN (Below.refl _ _) 1) hc4_1)))
  replace hc27_0 := (keep hb31 (keep hb29 (keep (below_drewN (Below.refl _ _) 1) hc27_0)))
  replace ho22 := (((ho22.kept (below_drewN (Below.refl _ _) 1)).kept hb29).kept hb31)
  replace hB := (bthen (bthen (bthen hB (below_drewN (Below.refl _ _) 1)) hb29) hb31)
  have hs33 := hb29.size
  simp only [World.size_drew] at hs33
  have hs34 := hb31.size
  replace hc3_l : w.heap.size < w32.heap.size := World.block_lt_of_cell? _ _ hc3_0
  replace hc4_l : w.heap.size + 1 < w32.heap.size := World.block_lt_of_cell? _ _ hc4_0
  replace hc27_l : w19.heap.size < w32.heap.size := World.block_lt_of_cell? _ _ hc27_0
  clear hb29 hb31
  go_wp2_with fail
  go_region_held3 (fun W => Below w32.heap.size w32 W ∧ W.cell? ⟨w19.heap.size, 0, none⟩ = some (.slice a20 x0.length c21) ∧ W.cell? ⟨w.heap.size, 0, none⟩ = some (.slice a0 x0.length c0)) (first | exact held2 (below_drewN (Below.refl _ _) 1) hc27_0 hc3_0 | (rename Below w32.heap.size w32 _ ∧ _ => hH; refine held2 ?_ hc27_0 hc3_0; (refine bthen hH.1 ?_; assumption))) (first | (go_at_call 26; ((with_reducible refine (laws_toCard a0 c0 x0 _ (hx0.kept (bthen hB (And.left ‹Below w32.heap.size w32 _ ∧ _›))) hn0).mono ?_); rintro e w36 ⟨a37, c38, rfl, ho39, hb35⟩)) | (go_at_call 28; ((with_reducible refine (laws_eqCard_same a20 a37 c21 c38 x0 _ ((ho22.RI).kept (And.left ‹Below w32.heap.size w32 _ ∧ _›)) (((OI.of ho39).RI)) (small hn0)).mono ?_); rintro e w41 ⟨rfl, hb40⟩)))
  replace hc3_0 := (keep hb40 (keep hb35 (keep (below_drewN (Below.refl _ _) 1) hc3_0)))
  replace hc4_0 := (keep hb40 (keep hb35 (keep (below_drewN (Below.refl _ _) 1) hc4_0)))
  replace hc4_1 := (keep hb40 (keep hb35 (keep (below_drewN (Below.refl _ _) 1) hc4_1)))
  replace hc27_0 := (keep hb40 (keep hb35 (keep (below_drewN (Below.refl _ _) 1) hc27_0)))
  replace ho22 := (((ho22.kept (below_drewN (Below.refl _ _) 1)).kept hb35).kept hb40)
  replace hB := (bthen (bthen (bthen hB (below_drewN (Below.refl _ _) 1)) hb35) hb40)
  have hs42 := hb35.size
  simp only [World.size_drew] at hs42
  have hs43 := hb40.size
  replace hc3_l : w.heap.size < w41.heap.size := World.block_lt_of_cell? _ _ hc3_0
  replace hc4_l : w.heap.size + 1 < w41.heap.size := World.block_lt_of_cell? _ _ hc4_0
  replace hc27_l : w19.heap.size < w41.heap.size := World.block_lt_of_cell? _ _ hc27_0
  clear ho39
  clear hb35 hb40
  go_wp2_with fail
  go_ret
  exact ⟨rfl, hB⟩

theorem lifted (os : Os) (started : os.Started) (H : Type) (enc : TypeId × Value → H) :
    ReturnsInHanded {} Try.checked os 9 .any (Rows.fnExactNumberInSpec.pre6 enc Try.prog Try.f9 Rows.fnExactNumberInRow.domain false) (Rows.fnExactNumberInSpec.post enc Try.prog Try.f9 false true false false) := by
  refine returnsInHanded_of_change (C := Try.checked) own started (by kernel_rfl) Try.func9
    (ChangeSpec.witness6 (enc := enc) (C := Try.checked) false ⟨#[], #[.agg #[.slice none 0 0], .agg #[.int .i64 0, .int .i64 0]], []⟩ 8 (by kernel_rfl) (by kernel_rfl) (by kernel_rfl) (by kernel_rfl)) ?_
  intro W base args ds gs before hval0 hW hcnd _
  have hval : ∀ (j : Nat) t v, Try.f9.params[j]? = some t → args[j]? = some v → Value.okWide Try.prog W .any base t v := hval0
  have hW' := hW
  obtain ⟨p, q, hA0, hV, rfl, hfz, hnd⟩ := hW
  have hA : DataW.TrodAll enc Try.prog W 0 (fun _ => true) true Try.f9.params.toList args.toList ds p := hA0
  rw [Try.params9] at hA hval
  obtain ⟨v0, vs0, d0, ds0, p0, q0, hargs, rfl, rfl, h0, r0⟩ := trodAll_cons hA
  obtain ⟨v1, vs1, d1, ds1, p1, q1, rfl, rfl, rfl, h1, r1⟩ := trodAll_cons r0
  obtain ⟨rfl, rfl, rfl⟩ := trodAll_nil r1
  obtain rfl : args = #[v0, v1] := by cases args; simp_all
  obtain ⟨rfl, rfl⟩ := trodVars_none hV
  have k0 := h0
  have lt0 : ∀ x ∈ p0, x.block < W.heap.size := by obtain ⟨m, hm⟩ := k0; exact DataW.trod_lt m _ _ _ hm
  obtain ⟨a0, c0, x0, rfl, hx0, hm0⟩ := open_card Try.underlying41 rfl rfl Try.underlying39 Try.underlying2 (by kernel_rfl) (by kernel_rfl) (by kernel_rfl) (hval 0 41 v0 rfl rfl) h0
  have k1 := h1
  have lt1 : ∀ x ∈ p1, x.block < W.heap.size := by obtain ⟨m, hm⟩ := k1; exact DataW.trod_lt m _ _ _ hm
  obtain ⟨i1, j1, rfl, zi1, zj1⟩ := open_field Try.underlying53 rfl rfl rfl rfl Try.underlying2 (by kernel_rfl) (by kernel_rfl) (hval 1 53 v1 rfl rfl) h1
  clear hA0 hval0
  refine (walk a0 c0 x0 i1 j1 W hx0 hm0).mono fun e W' ⟨he, bel⟩ => ?_
  subst he
  exact ⟨_, rfl, _, _, _, [], _, [], hW', trodAll_mk1 (shut_bool Try.underlying4 _), (trodAll_cons_mk (Below.trod laidOut (by kernel_rfl) (of_decide_eq_true (by kernel_rfl)) k0 bel lt0) (trodAll_cons_mk (Below.trod laidOut (by kernel_rfl) (of_decide_eq_true (by kernel_rfl)) k1 bel lt1) trodAll_mk0)), rfl, bel.frame _, fun h => by cases h⟩

theorem over : Rows.fnExactNumberInRow.holds Try.pinned (OpenSpec.ofChange Rows.fnExactNumberInSpec) :=
  OpenClaim.holds_of_wide 9 Try.f9 rfl rfl rfl rfl rfl rfl rfl ⟨rfl, rfl, rfl, rfl, rfl⟩ rfl rfl rfl rfl rfl (by kernel_rfl) Try.func9 (by kernel_rfl)
    (of_decide_eq_true (by kernel_rfl)) (by unfold Func.isWrapper; first | (rw [if_pos (by decide +kernel)]; kernel_rfl) | (rw [if_neg (by decide +kernel)]; exact ⟨rfl, rfl⟩))
    (fun os started H enc _ => lifted os started H enc)

/-- The statement. -/
theorem proved : Rows.FnExactNumberInSaid := over
#print axioms proved
end Go.Proofs.Ytnjgeclbdopdoaa.fnExactNumberIn
