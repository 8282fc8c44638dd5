/- FnExactItemNamed: for all arguments the law returns true, and memory that was there is as it was. No condition. -/
import Derived.Test.YtnjgeclbdopdoaaRows
import Derived.Test.YtnjgeclbdopdoaaOpen
import Derived.Deep.RegionHeld3
import Derived.Deep.CutRange
import Derived.ShutString
import Derived.Test.YtnjgeclbdopdoaaFind
namespace Go.Proofs.Ytnjgeclbdopdoaa.fnExactItemNamed
open Go.ChangeShapes Go.WideShapes Go.ChangeAt Go.RowKit
open Go.ChangeMaps (open_string shut_string)
set_option linter.unusedVariables false
set_option linter.unusedSimpArgs false
set_option linter.unnecessarySimpa false
set_option maxRecDepth 100000

theorem own : ownKnob Try.prog.godebug = none := by kernel_rfl
theorem laidOut : laidOutB Try.prog = true := by kernel_rfl

set_option maxHeartbeats 4000000 in
/-- The Go text returns true; memory has at most new blocks. -/
theorem walk (d0 : Int) (a0 : Option Addr) (c0 : Nat) (x0 : List Itm) (s1 : ByteArray) (w : World) (hx0 : RT w a0 x0) (hm0 : x0.length ≤ maxLen ∧ ∀ y ∈ x0, y.name.size ≤ maxLen) (hm1 : s1.size ≤ maxLen) :
    Calls Try.prog 8 #[.agg #[.int .i64 d0, .slice a0 x0.length c0], .string s1] w fun e w' => e = .returned (.bool true) ∧ Below w.heap.size w w' := by
  by_cases hn1 : 1048576 < s1.size
  · go_enter Try.func8, Try.ntmps8
    go_wp2_with fail
    go_ret
    exact ⟨rfl, by repeat (first | exact Below.refl _ _ | exact below_alloc _ | exact below_alloc2 _ _ _ | exact below_alloc3 _ _ _ _)⟩
  replace hn1 : s1.size ≤ 1048576 := by omega
  go_enter Try.func8, Try.ntmps8
  by_cases hz1 : 1048576 < (itemsSz x0 : Int)
  · go_wp2_with fail
    refine (laws_szLayout_over d0 a0 c0 x0 (1048576) _ (hx0.kept (below_alloc _)) (by omega) (by omega) hm0 hz1).mono ?_
    rintro e wz ⟨rfl, hz⟩
    go_wp2_with fail
    go_ret
    exact ⟨rfl, bthen (below_alloc _) hz⟩
  go_wp2_with fail
  refine (laws_szLayout_ok d0 a0 c0 x0 (1048576) _ (hx0.kept (below_alloc _)) (by omega) (by omega) hm0 (by omega)).mono ?_
  rintro e w1 ⟨rfl, hb2⟩
  have hc3_0 : w1.cell? ⟨w.heap.size, 0, none⟩ = some (.int .i64 d0) := (keep hb2 (by simp [go_sem]))
  have hc3_1 : w1.cell? ⟨w.heap.size, 1, none⟩ = some (.slice a0 x0.length c0) := (keep hb2 (by simp [go_sem]))
  have hB := (bthen (below_alloc _) hb2)
  have hs4 := hb2.size
  simp only [World.size_alloc] at hs4
  have hc3_l : w.heap.size < w1.heap.size := World.block_lt_of_cell? _ _ hc3_0
  clear hb2
  have hn0 : itemsSz x0 ≤ 1048576 := by omega
  go_wp2_with fail
  refine (laws_toLayout d0 a0 c0 x0 _ (hx0.kept hB) hn0).mono ?_
  rintro e w6 ⟨a7, c8, rfl, ho9, hb5⟩
  replace hc3_0 := (keep hb5 hc3_0)
  replace hc3_1 := (keep hb5 hc3_1)
  replace hB := (bthen hB hb5)
  have hs10 := hb5.size
  replace hc3_l : w.heap.size < w6.heap.size := World.block_lt_of_cell? _ _ hc3_0
  clear hb5
  replace ho9 := OT.of (own_mono (B := w1.heap.size) ho9 (by first | exact Nat.le_refl _ | simp))
  go_wp2_with fail
  refine (spec_ItemNamed d0 a7 c8 x0 s1 _ (ho9.RT) hn0 (OT.capm ho9).1 hn1).mono ?_
  rintro e w12 ⟨rfl, hb11⟩
  replace hc3_0 := (keep hb11 hc3_0)
  replace hc3_1 := (keep hb11 hc3_1)
  replace ho9 := (ho9.kept hb11)
  replace hB := (bthen hB hb11)
  have hs13 := hb11.size
  replace hc3_l : w.heap.size < w12.heap.size := World.block_lt_of_cell? _ _ hc3_0
  clear hb11
  go_wp2_with fail
  refine (laws_toLayout d0 a0 c0 x0 _ (hx0.kept hB) hn0).mono ?_
  rintro e w15 ⟨a16, c17, rfl, ho18, hb14⟩
  replace hc3_0 := (keep hb14 hc3_0)
  replace hc3_1 := (keep hb14 hc3_1)
  replace ho9 := (ho9.kept hb14)
  replace hB := (bthen hB hb14)
  have hs19 := hb14.size
  replace hc3_l : w.heap.size < w15.heap.size := World.block_lt_of_cell? _ _ hc3_0
  clear hb14
  replace ho18 := OT.of (own_mono (B := w12.heap.size) ho18 (by first | exact Nat.le_refl _ | simp))
  go_wp2_with fail
  refine (impl_ItemNamed d0 a16 c17 x0 s1 _ ((ho18.RT).kept (below_alloc _)) hn0 (OT.capm ho18).1 hn1).mono ?_
  rintro e w21 ⟨rfl, hb20⟩
  replace hc3_0 := (keep hb20 (keep (below_alloc _) hc3_0))
  replace hc3_1 := (keep hb20 (keep (below_alloc _) hc3_1))
  have hc22_0 : w21.cell? ⟨w15.heap.size, 0, none⟩ = some (.int .i64 d0) := (keep hb20 (by simp [go_sem]))
  have hc22_1 : w21.cell? ⟨w15.heap.size, 1, none⟩ = some (.slice a16 x0.length c17) := (keep hb20 (by simp [go_sem]))
  replace ho9 := ((ho9.kept (below_alloc _)).kept hb20)
  replace ho18 := ((ho18.kept (below_alloc _)).kept hb20)
  replace hB := (bthen (bthen hB (below_alloc _)) hb20)
  have hs23 := hb20.size
  simp only [World.size_alloc] at hs23
  replace hc3_l : w.heap.size < w21.heap.size := World.block_lt_of_cell? _ _ hc3_0
  have hc22_l : w15.heap.size < w21.heap.size := World.block_lt_of_cell? _ _ hc22_0
  clear hb20
  go_wp2_with fail
  go_region_held3 (fun W => Below w21.heap.size w21 W ∧ W.cell? ⟨w15.heap.size, 0, none⟩ = some (.int .i64 d0) ∧ W.cell? ⟨w15.heap.size, 1, none⟩ = some (.slice a16 x0.length c17) ∧ W.cell? ⟨w.heap.size, 0, none⟩ = some (.int .i64 d0) ∧ W.cell? ⟨w.heap.size, 1, none⟩ = some (.slice a0 x0.length c0)) (first | exact held4 (below_drewN (Below.refl _ _) 1) hc22_0 hc22_1 hc3_0 hc3_1 | (rename Below w21.heap.size w21 _ ∧ _ => hH; refine held4 ?_ hc22_0 hc22_1 hc3_0 hc3_1; (refine bthen hH.1 ?_; assumption))) (first | (go_at_call 15; ((with_reducible refine (laws_toLayout d0 a0 c0 x0 _ (hx0.kept (bthen hB (And.left ‹Below w21.heap.size w21 _ ∧ _›))) hn0).mono ?_); rintro e w25 ⟨a26, c27, rfl, ho28, hb24⟩)) | (go_at_call 17; ((with_reducible refine (laws_eqLayout_same d0 a16 a26 c17 c27 x0 _ ((ho18.RT).kept (And.left ‹Below w21.heap.size w21 _ ∧ _›)) (((OT.of ho28).RT)) hn0).mono ?_); rintro e w30 ⟨rfl, hb29⟩)))
  replace hc3_0 := (keep hb29 (keep hb24 (keep (below_drewN (Below.refl _ _) 1) hc3_0)))
  replace hc3_1 := (keep hb29 (keep hb24 (keep (below_drewN (Below.refl _ _) 1) hc3_1)))
  replace hc22_0 := (keep hb29 (keep hb24 (keep (below_drewN (Below.refl _ _) 1) hc22_0)))
  replace hc22_1 := (keep hb29 (keep hb24 (keep (below_drewN (Below.refl _ _) 1) hc22_1)))
  replace ho9 := (((ho9.kept (below_drewN (Below.refl _ _) 1)).kept hb24).kept hb29)
  replace ho18 := (((ho18.kept (below_drewN (Below.refl _ _) 1)).kept hb24).kept hb29)
  replace hB := (bthen (bthen (bthen hB (below_drewN (Below.refl _ _) 1)) hb24) hb29)
  have hs31 := hb24.size
  simp only [World.size_drew] at hs31
  have hs32 := hb29.size
  replace hc3_l : w.heap.size < w30.heap.size := World.block_lt_of_cell? _ _ hc3_0
  replace hc22_l : w15.heap.size < w30.heap.size := World.block_lt_of_cell? _ _ hc22_0
  clear ho28
  clear hb24 hb29
  go_wp2_with fail
  go_ret
  exact ⟨rfl, hB⟩

theorem lifted (os : Os) (started : os.Started) (H : Type) (enc : TypeId × Value → H) :
    ReturnsInHanded {} Try.checked os 8 .any (Rows.fnExactItemNamedSpec.pre6 enc Try.prog Try.f8 Rows.fnExactItemNamedRow.domain false) (Rows.fnExactItemNamedSpec.post enc Try.prog Try.f8 false true false false) := by
  refine returnsInHanded_of_change (C := Try.checked) own started (by kernel_rfl) Try.func8
    (ChangeSpec.witness6 (enc := enc) (C := Try.checked) false ⟨#[], #[.agg #[.int .i64 0, .slice none 0 0], .string ByteArray.empty], []⟩ 8 (by kernel_rfl) (by kernel_rfl) (by kernel_rfl) (by kernel_rfl)) ?_
  intro W base args ds gs before hval0 hW hcnd _
  have hval : ∀ (j : Nat) t v, Try.f8.params[j]? = some t → args[j]? = some v → Value.okWide Try.prog W .any base t v := hval0
  have hW' := hW
  obtain ⟨p, q, hA0, hV, rfl, hfz, hnd⟩ := hW
  have hA : DataW.TrodAll enc Try.prog W 0 (fun _ => true) true Try.f8.params.toList args.toList ds p := hA0
  rw [Try.params8] at hA hval
  obtain ⟨v0, vs0, d0, ds0, p0, q0, hargs, rfl, rfl, h0, r0⟩ := trodAll_cons hA
  obtain ⟨v1, vs1, d1, ds1, p1, q1, rfl, rfl, rfl, h1, r1⟩ := trodAll_cons r0
  obtain ⟨rfl, rfl, rfl⟩ := trodAll_nil r1
  obtain rfl : args = #[v0, v1] := by cases args; simp_all
  obtain ⟨rfl, rfl⟩ := trodVars_none hV
  have k0 := h0
  have lt0 : ∀ x ∈ p0, x.block < W.heap.size := by obtain ⟨m, hm⟩ := k0; exact DataW.trod_lt m _ _ _ hm
  obtain ⟨d0, a0, c0, x0, rfl, hx0, hm0⟩ := open_layout Try.underlying24 rfl rfl rfl rfl Try.underlying22 Try.underlying66 rfl rfl rfl rfl rfl rfl Try.underlying53 rfl rfl rfl rfl Try.underlying9 Try.underlying2 (by kernel_rfl) (by kernel_rfl) (by kernel_rfl) (by kernel_rfl) (by kernel_rfl) (by kernel_rfl) (hval 0 24 v0 rfl rfl) h0
  obtain ⟨s1, rfl, rfl, rfl, z1⟩ := open_string Try.underlying9 (hval 1 9 v1 rfl rfl) h1
  clear hA0 hval0
  refine (walk d0 a0 c0 x0 s1 W hx0 hm0 z1).mono fun e W' ⟨he, bel⟩ => ?_
  subst he
  exact ⟨_, rfl, _, _, _, [], _, [], hW', trodAll_mk1 (shut_bool Try.underlying4 _), (trodAll_cons_mk (Below.trod laidOut (by kernel_rfl) (of_decide_eq_true (by kernel_rfl)) k0 bel lt0) (trodAll_cons_mk (shut_string Try.underlying9 z1) trodAll_mk0)), rfl, bel.frame _, fun h => by cases h⟩

theorem over : Rows.fnExactItemNamedRow.holds Try.pinned (OpenSpec.ofChange Rows.fnExactItemNamedSpec) :=
  OpenClaim.holds_of_wide 8 Try.f8 rfl rfl rfl rfl rfl rfl rfl ⟨rfl, rfl, rfl, rfl, rfl⟩ rfl rfl rfl rfl rfl (by kernel_rfl) Try.func8 (by kernel_rfl)
    (of_decide_eq_true (by kernel_rfl)) (by unfold Func.isWrapper; first | (rw [if_pos (by decide +kernel)]; kernel_rfl) | (rw [if_neg (by decide +kernel)]; exact ⟨rfl, rfl⟩))
    (fun os started H enc _ => lifted os started H enc)

/-- The statement. -/
theorem proved : Rows.FnExactItemNamedSaid := over
#print axioms proved
end Go.Proofs.Ytnjgeclbdopdoaa.fnExactItemNamed
