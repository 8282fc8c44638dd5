/- FnExactPunchText: for all arguments the law returns true, and memory that was there is as it was. No condition. -/
import Derived.Test.YtfegimjikmonhaaRows
import Derived.Test.YtfegimjikmonhaaOpen
import Derived.Deep.RegionHeld3
import Derived.Deep.CutRange
import Derived.ShutString
import Derived.Test.YtfegimjikmonhaaMark
import Derived.Test.YtfegimjikmonhaaPunch
namespace Go.Proofs.Ytfegimjikmonhaa.fnExactPunchText
open Go.ChangeShapes Go.WideShapes Go.ChangeAt Go.RowKit
open Go.ChangeMaps (open_string shut_string)
set_option linter.unusedVariables false
set_option linter.unusedSimpArgs false
set_option linter.unnecessarySimpa false
set_option maxRecDepth 100000

theorem own : ownKnob Try.prog.godebug = none := by kernel_rfl
theorem laidOut : laidOutB Try.prog = true := by kernel_rfl

set_option maxHeartbeats 4000000 in
/-- The Go text returns true; memory has at most new blocks. -/
theorem walk (s0 : ByteArray) (i1 : Int) (w : World) (hm0 : s0.size ≤ maxLen) :
    Calls Try.prog 12 #[.string s0, .int .i64 i1] w fun e w' => e = .returned (.bool true) ∧ Below w.heap.size w w' := by
  by_cases hn0 : 1048576 < s0.size
  · go_enter Try.func12, Try.ntmps12
    go_wp2_with fail
    go_ret
    exact ⟨rfl, by repeat (first | exact Below.refl _ _ | exact below_alloc _ | exact below_alloc2 _ _ _ | exact below_alloc3 _ _ _ _)⟩
  replace hn0 : s0.size ≤ 1048576 := by omega
  go_enter Try.func12, Try.ntmps12
  go_wp2_with fail
  refine (spec_PunchText s0 i1 _ hn0).mono ?_
  rintro e w2 ⟨a3, c4, rfl, ho5, hb1⟩
  have hB := (bthen (Below.refl _ _) hb1)
  have hs7 := hb1.size
  clear hb1
  replace ho5 := OI.of (own_mono (B := w.heap.size) ho5 (by first | exact Nat.le_refl _ | simp))
  have hl6 := punchTextL_len s0 i1
  go_wp2_with fail
  refine (impl_PunchText s0 i1 _ hn0).mono ?_
  rintro e w9 ⟨a10, c11, rfl, ho12, hb8⟩
  have hc14_0 : w9.cell? ⟨w2.heap.size, 0, none⟩ = some (.slice a3 (punchTextL s0 i1).length c4) := (keep hb8 (by simp [go_sem]))
  replace ho5 := ((ho5.kept (below_alloc _)).kept hb8)
  replace hB := (bthen (bthen hB (below_alloc _)) hb8)
  have hs15 := hb8.size
  simp only [World.size_alloc] at hs15
  have hc14_l : w2.heap.size < w9.heap.size := World.block_lt_of_cell? _ _ hc14_0
  clear hb8
  replace ho12 := OI.of (own_mono (B := w2.heap.size + 1) ho12 (by first | exact Nat.le_refl _ | simp))
  have hl13 := punchTextL_len s0 i1
  go_wp2_with fail
  refine (laws_eqCard_same a10 a3 c11 c4 (punchTextL s0 i1) _ ((ho12.RI).kept (below_alloc _)) ((ho5.RI).kept (below_alloc _)) (small hl13)).mono ?_
  rintro e w17 ⟨rfl, hb16⟩
  replace hc14_0 := (keep hb16 (keep (below_alloc _) hc14_0))
  have hc18_0 : w17.cell? ⟨w9.heap.size, 0, none⟩ = some (.slice a10 (punchTextL s0 i1).length c11) := (keep hb16 (by simp [go_sem]))
  replace ho5 := ((ho5.kept (below_alloc _)).kept hb16)
  replace ho12 := ((ho12.kept (below_alloc _)).kept hb16)
  replace hB := (bthen (bthen hB (below_alloc _)) hb16)
  have hs19 := hb16.size
  simp only [World.size_alloc] at hs19
  replace hc14_l : w2.heap.size < w17.heap.size := World.block_lt_of_cell? _ _ hc14_0
  have hc18_l : w9.heap.size < w17.heap.size := World.block_lt_of_cell? _ _ hc18_0
  clear hb16
  go_wp2_with fail
  refine (laws_markCard (w2.heap.size + 1) (w9.heap.size) a10 c11 (punchTextL s0 i1) 1 _ ho12 (by omega) (by omega) hl13 (by first | omega | (simp only [World.size_alloc]; omega))).mono ?_
  rintro e w21 ⟨rfl, hw22, ho23⟩
  replace hc14_0 := hw22.cell hc14_0 (by dsimp only; omega)
  replace hc18_0 := hw22.cell hc18_0 (by dsimp only; omega)
  replace ho5 := ho5.within hw22 (by omega)
  replace hB := hw22.below hB (by omega) (by first | omega | (simp only [World.size_alloc]; omega))
  have hs24 := hw22.size
  replace hc14_l : w2.heap.size < w21.heap.size := World.block_lt_of_cell? _ _ hc14_0
  replace hc18_l : w9.heap.size < w21.heap.size := World.block_lt_of_cell? _ _ hc18_0
  clear hw22
  clear ho12
  go_wp2_with fail
  refine (laws_heldCard a10 c11 (punchTextL s0 i1).length 1 _ (ho23.RI) (by omega) (by omega) hl13).mono ?_
  rintro e w26 ⟨rfl, hb25⟩
  replace hc14_0 := (keep hb25 hc14_0)
  replace hc18_0 := (keep hb25 hc18_0)
  replace ho5 := (ho5.kept hb25)
  replace ho23 := (ho23.kept hb25)
  replace hB := (bthen hB hb25)
  have hs27 := hb25.size
  replace hc14_l : w2.heap.size < w26.heap.size := World.block_lt_of_cell? _ _ hc14_0
  replace hc18_l : w9.heap.size < w26.heap.size := World.block_lt_of_cell? _ _ hc18_0
  clear hb25
  go_wp2_with fail
  refine (impl_PunchText s0 i1 _ hn0).mono ?_
  rintro e w29 ⟨a30, c31, rfl, ho32, hb28⟩
  replace hc14_0 := (keep hb28 hc14_0)
  replace hc18_0 := (keep hb28 hc18_0)
  replace ho5 := (ho5.kept hb28)
  replace ho23 := (ho23.kept hb28)
  replace hB := (bthen hB hb28)
  have hs34 := hb28.size
  replace hc14_l : w2.heap.size < w29.heap.size := World.block_lt_of_cell? _ _ hc14_0
  replace hc18_l : w9.heap.size < w29.heap.size := World.block_lt_of_cell? _ _ hc18_0
  clear hb28
  replace ho32 := OI.of (own_mono (B := w26.heap.size) ho32 (by first | exact Nat.le_refl _ | simp))
  have hl33 := punchTextL_len s0 i1
  go_wp2_with fail
  refine (laws_eqCard_same a30 a3 c31 c4 (punchTextL s0 i1) _ ((ho32.RI).kept (below_alloc _)) ((ho5.RI).kept (below_alloc _)) (small hl33)).mono ?_
  rintro e w36 ⟨rfl, hb35⟩
  replace hc14_0 := (keep hb35 (keep (below_alloc _) hc14_0))
  replace hc18_0 := (keep hb35 (keep (below_alloc _) hc18_0))
  have hc37_0 : w36.cell? ⟨w29.heap.size, 0, none⟩ = some (.slice a30 (punchTextL s0 i1).length c31) := (keep hb35 (by simp [go_sem]))
  replace ho5 := ((ho5.kept (below_alloc _)).kept hb35)
  replace ho23 := ((ho23.kept (below_alloc _)).kept hb35)
  replace ho32 := ((ho32.kept (below_alloc _)).kept hb35)
  replace hB := (bthen (bthen hB (below_alloc _)) hb35)
  have hs38 := hb35.size
  simp only [World.size_alloc] at hs38
  replace hc14_l : w2.heap.size < w36.heap.size := World.block_lt_of_cell? _ _ hc14_0
  replace hc18_l : w9.heap.size < w36.heap.size := World.block_lt_of_cell? _ _ hc18_0
  have hc37_l : w29.heap.size < w36.heap.size := World.block_lt_of_cell? _ _ hc37_0
  clear hb35
  go_wp2_with fail
  refine (laws_heldCard a10 c11 (punchTextL s0 i1).length 1 _ (ho23.RI) (by omega) (by omega) hl13).mono ?_
  rintro e w40 ⟨rfl, hb39⟩
  replace hc14_0 := (keep hb39 hc14_0)
  replace hc18_0 := (keep hb39 hc18_0)
  replace hc37_0 := (keep hb39 hc37_0)
  replace ho5 := (ho5.kept hb39)
  replace ho23 := (ho23.kept hb39)
  replace ho32 := (ho32.kept hb39)
  replace hB := (bthen hB hb39)
  have hs41 := hb39.size
  replace hc14_l : w2.heap.size < w40.heap.size := World.block_lt_of_cell? _ _ hc14_0
  replace hc18_l : w9.heap.size < w40.heap.size := World.block_lt_of_cell? _ _ hc18_0
  replace hc37_l : w29.heap.size < w40.heap.size := World.block_lt_of_cell? _ _ hc37_0
  clear hb39
  go_wp2_with fail
  go_ret
  exact ⟨rfl, hB⟩

theorem lifted (os : Os) (started : os.Started) (H : Type) (enc : TypeId × Value → H) :
    ReturnsInHanded {} Try.checked os 12 .any (Rows.fnExactPunchTextSpec.pre6 enc Try.prog Try.f12 Rows.fnExactPunchTextRow.domain false) (Rows.fnExactPunchTextSpec.post enc Try.prog Try.f12 false true false false) := by
  refine returnsInHanded_of_change (C := Try.checked) own started (by kernel_rfl) Try.func12
    (ChangeSpec.witness6 (enc := enc) (C := Try.checked) false ⟨#[], #[.string ByteArray.empty, .int .i64 0], []⟩ 8 (by kernel_rfl) (by kernel_rfl) (by kernel_rfl) (by kernel_rfl)) ?_
  intro W base args ds gs before hval0 hW hcnd _
  have hval : ∀ (j : Nat) t v, Try.f12.params[j]? = some t → args[j]? = some v → Value.okWide Try.prog W .any base t v := hval0
  have hW' := hW
  obtain ⟨p, q, hA0, hV, rfl, hfz, hnd⟩ := hW
  have hA : DataW.TrodAll enc Try.prog W 0 (fun _ => true) true Try.f12.params.toList args.toList ds p := hA0
  rw [Try.params12] at hA hval
  obtain ⟨v0, vs0, d0, ds0, p0, q0, hargs, rfl, rfl, h0, r0⟩ := trodAll_cons hA
  obtain ⟨v1, vs1, d1, ds1, p1, q1, rfl, rfl, rfl, h1, r1⟩ := trodAll_cons r0
  obtain ⟨rfl, rfl, rfl⟩ := trodAll_nil r1
  obtain rfl : args = #[v0, v1] := by cases args; simp_all
  obtain ⟨rfl, rfl⟩ := trodVars_none hV
  obtain ⟨s0, rfl, rfl, rfl, z0⟩ := open_string Try.underlying9 (hval 0 9 v0 rfl rfl) h0
  obtain ⟨i1, rfl, rfl, rfl, z1⟩ := open_int Try.underlying2 (hval 1 2 v1 rfl rfl) h1
  clear hA0 hval0
  refine (walk s0 i1 W z0).mono fun e W' ⟨he, bel⟩ => ?_
  subst he
  exact ⟨_, rfl, _, _, _, [], _, [], hW', trodAll_mk1 (shut_bool Try.underlying4 _), (trodAll_cons_mk (shut_string Try.underlying9 z0) (trodAll_cons_mk (shut_int Try.underlying2 z1) trodAll_mk0)), rfl, bel.frame _, fun h => by cases h⟩

theorem over : Rows.fnExactPunchTextRow.holds Try.pinned (OpenSpec.ofChange Rows.fnExactPunchTextSpec) :=
  OpenClaim.holds_of_wide 12 Try.f12 rfl rfl rfl rfl rfl rfl rfl ⟨rfl, rfl, rfl, rfl, rfl⟩ rfl rfl rfl rfl rfl (by kernel_rfl) Try.func12 (by kernel_rfl)
    (of_decide_eq_true (by kernel_rfl)) (by unfold Func.isWrapper; first | (rw [if_pos (by decide +kernel)]; kernel_rfl) | (rw [if_neg (by decide +kernel)]; exact ⟨rfl, rfl⟩))
    (fun os started H enc _ => lifted os started H enc)

/-- The statement. -/
theorem proved : Rows.FnExactPunchTextSaid := over
#print axioms proved
end Go.Proofs.Ytfegimjikmonhaa.fnExactPunchText
