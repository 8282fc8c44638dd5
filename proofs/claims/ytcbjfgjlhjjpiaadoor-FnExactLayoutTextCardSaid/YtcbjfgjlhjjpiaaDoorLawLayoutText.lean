/- FnExactLayoutText: for all arguments the law returns true, and memory that was there is as it was. No condition. -/
import Derived.Test.YtcbjfgjlhjjpiaaDoorRows
import Derived.Test.YtcbjfgjlhjjpiaaDoorCards
import Derived.Deep.DeepWitnessRowRef
import Derived.LaidMore
import Derived.Test.YtcbjfgjlhjjpiaaDoorTie
import Derived.Deep.DeepHandedRow
import Derived.Lib.LaidTab
import Derived.Stop.LaidErr
import Derived.OpenVars
import Derived.Test.YtcbjfgjlhjjpiaaDoorTabs
import Derived.Test.YtcbjfgjlhjjpiaaDoorOpen
import Derived.Deep.RegionHeld3
import Derived.Deep.CutRange
import Derived.ShutString
import Derived.Test.YtcbjfgjlhjjpiaaDoorLTx
namespace Go.Proofs.YtcbjfgjlhjjpiaaDoor.fnExactLayoutText
open Go.ChangeShapes Go.WideShapes Go.ChangeAt Go.RowKit
open Go.ChangeMaps (open_string shut_string)
set_option linter.unusedVariables false
set_option linter.unusedSimpArgs false
set_option linter.unnecessarySimpa false
set_option maxRecDepth 100000

theorem own : ownKnob Tryd.prog.godebug = none := by kernel_rfl
theorem laidOut : laidOutB Tryd.prog = true := by kernel_rfl

set_option maxHeartbeats 4000000 in
/-- The Go text returns true; memory has at most new blocks. -/
theorem walk (d0 : Int) (a0 : Option Addr) (c0 : Nat) (x0 : List Itm) (w : World) (hx0 : RT w a0 x0) (hm0 : x0.length ≤ maxLen ∧ ∀ y ∈ x0, y.name.size ≤ maxLen) (ht : Pow10 w) (hK : Kinds w) :
    Calls Tryd.prog 5 #[.agg #[.int .i64 d0, .slice a0 x0.length c0]] w fun e w' => e = .returned (.bool true) ∧ Below w.heap.size w w' := by
  go_enter Tryd.func5, Tryd.ntmps5
  by_cases hz1 : 1048576 < (itemsSz x0 : Int)
  · go_wp2_with fail
    refine (laws_szLayout_over d0 a0 c0 x0 (1048576) _ (hx0.kept (below_alloc _)) (by omega) (by omega) hm0 hz1).mono ?_
    rintro e wz ⟨rfl, hz⟩
    go_wp2_with fail
    go_ret
    exact ⟨rfl, bthen (below_alloc _) hz⟩
  go_wp2_with fail
  refine (laws_szLayout_ok d0 a0 c0 x0 (1048576) _ (hx0.kept (below_alloc _)) (by omega) (by omega) hm0 (by omega)).mono ?_
  rintro e w1 ⟨rfl, hb2⟩
  have hc3_0 : w1.cell? ⟨w.heap.size, 0, none⟩ = some (.int .i64 d0) := (keep hb2 (by simp [go_sem]))
  have hc3_1 : w1.cell? ⟨w.heap.size, 1, none⟩ = some (.slice a0 x0.length c0) := (keep hb2 (by simp [go_sem]))
  have hB := (bthen (below_alloc _) hb2)
  have hs4 := hb2.size
  simp only [World.size_alloc] at hs4
  have hc3_l : w.heap.size < w1.heap.size := World.block_lt_of_cell? _ _ hc3_0
  clear hb2
  have hn0 : itemsSz x0 ≤ 1048576 := by omega
  go_wp2_with fail
  refine (laws_toLayout d0 a0 c0 x0 _ (hx0.kept hB) hn0).mono ?_
  rintro e w6 ⟨a7, c8, rfl, ho9, hb5⟩
  replace hc3_0 := (keep hb5 hc3_0)
  replace hc3_1 := (keep hb5 hc3_1)
  replace hB := (bthen hB hb5)
  have hs10 := hb5.size
  replace hc3_l : w.heap.size < w6.heap.size := World.block_lt_of_cell? _ _ hc3_0
  clear hb5
  replace ho9 := OT.of (own_mono (B := w1.heap.size) ho9 (by first | exact Nat.le_refl _ | simp))
  go_wp2_with fail
  refine (spec_LayoutText d0 a7 c8 x0 _ (ho9.RT) hn0 (OT.capm ho9).1 ).mono ?_
  rintro e w12 ⟨rfl, hb11⟩
  replace hc3_0 := (keep hb11 hc3_0)
  replace hc3_1 := (keep hb11 hc3_1)
  replace ho9 := (ho9.kept hb11)
  replace hB := (bthen hB hb11)
  have hs13 := hb11.size
  replace hc3_l : w.heap.size < w12.heap.size := World.block_lt_of_cell? _ _ hc3_0
  clear hb11
  go_wp2_with fail
  refine (laws_toLayout d0 a0 c0 x0 _ (hx0.kept hB) hn0).mono ?_
  rintro e w15 ⟨a16, c17, rfl, ho18, hb14⟩
  replace hc3_0 := (keep hb14 hc3_0)
  replace hc3_1 := (keep hb14 hc3_1)
  replace ho9 := (ho9.kept hb14)
  replace hB := (bthen hB hb14)
  have hs19 := hb14.size
  replace hc3_l : w.heap.size < w15.heap.size := World.block_lt_of_cell? _ _ hc3_0
  clear hb14
  replace ho18 := OT.of (own_mono (B := w12.heap.size) ho18 (by first | exact Nat.le_refl _ | simp))
  go_wp2_with fail
  refine (impl_LayoutText d0 a16 c17 x0 _ ((ho18.RT).kept (below_alloc _)) hn0 (OT.capm ho18).1 (powT_kept ht (bthen hB (below_alloc _))) (Kinds.kept hK (bthen hB (below_alloc _)))).mono ?_
  rintro e w21 ⟨rfl, hb20⟩
  replace hc3_0 := (keep hb20 (keep (below_alloc _) hc3_0))
  replace hc3_1 := (keep hb20 (keep (below_alloc _) hc3_1))
  have hc22_0 : w21.cell? ⟨w15.heap.size, 0, none⟩ = some (.int .i64 d0) := (keep hb20 (by simp [go_sem]))
  have hc22_1 : w21.cell? ⟨w15.heap.size, 1, none⟩ = some (.slice a16 x0.length c17) := (keep hb20 (by simp [go_sem]))
  replace ho9 := ((ho9.kept (below_alloc _)).kept hb20)
  replace ho18 := ((ho18.kept (below_alloc _)).kept hb20)
  replace hB := (bthen (bthen hB (below_alloc _)) hb20)
  have hs23 := hb20.size
  simp only [World.size_alloc] at hs23
  replace hc3_l : w.heap.size < w21.heap.size := World.block_lt_of_cell? _ _ hc3_0
  have hc22_l : w15.heap.size < w21.heap.size := World.block_lt_of_cell? _ _ hc22_0
  clear hb20
  go_wp2_with fail
  go_region_held3 (fun W => Below w21.heap.size w21 W ∧ W.cell? ⟨w15.heap.size, 0, none⟩ = some (.int .i64 d0) ∧ W.cell? ⟨w15.heap.size, 1, none⟩ = some (.slice a16 x0.length c17) ∧ W.cell? ⟨w.heap.size, 0, none⟩ = some (.int .i64 d0) ∧ W.cell? ⟨w.heap.size, 1, none⟩ = some (.slice a0 x0.length c0)) (first | exact held4 (below_drewN (Below.refl _ _) 1) hc22_0 hc22_1 hc3_0 hc3_1 | (rename Below w21.heap.size w21 _ ∧ _ => hH; refine held4 ?_ hc22_0 hc22_1 hc3_0 hc3_1; (refine bthen hH.1 ?_; assumption))) (first | (go_at_call 19; ((with_reducible refine (laws_toLayout d0 a0 c0 x0 _ (hx0.kept (bthen hB (And.left ‹Below w21.heap.size w21 _ ∧ _›))) hn0).mono ?_); rintro e w25 ⟨a26, c27, rfl, ho28, hb24⟩)) | (go_at_call 21; ((with_reducible refine (laws_eqLayout_same d0 a16 a26 c17 c27 x0 _ ((ho18.RT).kept (And.left ‹Below w21.heap.size w21 _ ∧ _›)) (((OT.of ho28).RT)) hn0).mono ?_); rintro e w30 ⟨rfl, hb29⟩)))
  replace hc3_0 := (keep hb29 (keep hb24 (keep (below_drewN (Below.refl _ _) 1) hc3_0)))
  replace hc3_1 := (keep hb29 (keep hb24 (keep (below_drewN (Below.refl _ _) 1) hc3_1)))
  replace hc22_0 := (keep hb29 (keep hb24 (keep (below_drewN (Below.refl _ _) 1) hc22_0)))
  replace hc22_1 := (keep hb29 (keep hb24 (keep (below_drewN (Below.refl _ _) 1) hc22_1)))
  replace ho9 := (((ho9.kept (below_drewN (Below.refl _ _) 1)).kept hb24).kept hb29)
  replace ho18 := (((ho18.kept (below_drewN (Below.refl _ _) 1)).kept hb24).kept hb29)
  replace hB := (bthen (bthen (bthen hB (below_drewN (Below.refl _ _) 1)) hb24) hb29)
  have hs31 := hb24.size
  simp only [World.size_drew] at hs31
  have hs32 := hb29.size
  replace hc3_l : w.heap.size < w30.heap.size := World.block_lt_of_cell? _ _ hc3_0
  replace hc22_l : w15.heap.size < w30.heap.size := World.block_lt_of_cell? _ _ hc22_0
  clear ho28
  clear hb24 hb29
  go_wp2_with fail
  go_ret
  exact ⟨rfl, hB⟩

/-- What the walk gives, for every argument and every world that holds the tables. -/
theorem contract (H : Type) (enc : TypeId × Value → H) (W : World) (base : Nat) (args : Array Value) (ds gs : List (DataW H)) (before : List MemPlace)
    (hval0 : ∀ (j : Nat) t v, Tryd.f5.params[j]? = some t → args[j]? = some v → Value.okWide Tryd.prog W .any base t v)
    (hW : DataW.Whole enc Tryd.prog Tryd.f5.params.toList Rows.fnExactLayoutTextSpec.vars false W args.toList ds gs before) (hL : laidMetH Tryd.prog Rows.fnExactLayoutTextRow.laid W) (hS : W.ShapedOpen Tryd.prog) :
    Calls Tryd.prog 5 args W fun e W' => ∃ v, e = .returned v ∧ Rows.fnExactLayoutTextSpec.post enc Tryd.prog Tryd.f5 false true false false W args v W' := by
  have hval : ∀ (j : Nat) t v, Tryd.f5.params[j]? = some t → args[j]? = some v → Value.okWide Tryd.prog W .any base t v := hval0
  have hW' := hW
  obtain ⟨p, q, hA0, hV, rfl, hfz, hnd⟩ := hW
  have hA : DataW.TrodAll enc Tryd.prog W 0 (fun _ => true) true Tryd.f5.params.toList args.toList ds p := hA0
  rw [Tryd.params5] at hA hval
  obtain ⟨v0, vs0, d0, ds0, p0, q0, hargs, rfl, rfl, h0, r0⟩ := trodAll_cons hA
  obtain ⟨rfl, rfl, rfl⟩ := trodAll_nil r0
  obtain rfl : args = #[v0] := by cases args; simp_all
  have hV2 := hV
  obtain ⟨_, _, _, _, g1, _, rfl, _⟩ := trodVars_one hV
  have k0 := h0
  have lt0 : ∀ x ∈ p0, x.block < W.heap.size := by obtain ⟨m, hm⟩ := k0; exact DataW.trod_lt m _ _ _ hm
  obtain ⟨d0, a0, c0, x0, rfl, hx0, hm0⟩ := open_layout Tryd.underlying42 rfl rfl rfl rfl Tryd.underlying40 Tryd.underlying115 rfl rfl rfl rfl rfl rfl Tryd.underlying113 rfl rfl rfl rfl Tryd.underlying9 Tryd.underlying2 (by kernel_rfl) (by kernel_rfl) (by kernel_rfl) (by kernel_rfl) (by kernel_rfl) (by kernel_rfl) (hval 0 42 v0 rfl rfl) h0
  clear hA0 hval0
  refine (walk d0 a0 c0 x0 W hx0 hm0 (pow10_of (l := Rows.fnExactLayoutTextRow.laid) hL (by simp [Rows.fnExactLayoutTextRow])) (kinds_of (l := Rows.fnExactLayoutTextRow.laid) hL (by simp [Rows.fnExactLayoutTextRow]))).mono fun e W' ⟨he, bel⟩ => ?_
  subst he
  exact ⟨_, rfl, _, _, _, [], _, _, hW', trodAll_mk1 (shut_bool Tryd.underlying4 _), (trodAll_cons_mk (Below.trod laidOut (by kernel_rfl) (of_decide_eq_true (by kernel_rfl)) k0 bel lt0) trodAll_mk0), Below.trodVars laidOut bel (by kernel_rfl) hV2, bel.frame _, fun h => by cases h⟩

/-- A world for the witness: the settled one, the listed tables laid. -/
noncomputable def laidWorld (os : Os) : World := { World.holding Tryd.prog os ⟨#[], #[], []⟩ with heap := layAt (layAt (layAt (layAt ((World.holding Tryd.prog os ⟨#[], #[], []⟩).heap) 7 (Rows.laid_math_bits_deBruijn32tab)) 8 (Rows.laid_math_bits_deBruijn64tab)) 4 (Rows.laid_internal_strconv_uint64pow10)) 0 (Rows.laid_loop_example_g01012_impl_kindWords) }
theorem laid_met (os : Os) : laidMet Tryd.prog Rows.fnExactLayoutTextRow.laid ((laidWorld os).forCall (fun _ _ => 0) ⟨#[], #[.agg #[.int .i64 0, .slice none 0 0]], []⟩).memory :=
  laidMet_of_run' 8 (by kernel_rfl) (by kernel_rfl)
theorem reads (os : Os) {H : Type} (enc : TypeId × Value → H) : ∃ x : List (DataW H) × List (DataW H) × List MemPlace, DataW.whole enc Tryd.prog ((laidWorld os).forCall (fun _ _ => 0) ⟨#[], #[.agg #[.int .i64 0, .slice none 0 0]], []⟩).memory Tryd.f5.params.toList Rows.fnExactLayoutTextSpec.vars false #[.agg #[.int .i64 0, .slice none 0 0]].toList 8 = some x :=
  Option.isSome_iff_exists.1 (by kernel_rfl)

set_option maxRecDepth 100000 in
theorem lifted (os : Os) (started : os.Started) (H : Type) (enc : TypeId × Value → H) (F : Stop.Interp) :
    ReturnsInHanded {} Tryd.checked os 5 .any ((OpenSpec.ofChange Rows.fnExactLayoutTextSpec).preRow enc Tryd.prog Tryd.f5 Rows.fnExactLayoutTextRow.domain false Rows.fnExactLayoutTextRow.laid) (((OpenSpec.ofChange Rows.fnExactLayoutTextSpec).at F).post enc Tryd.prog Tryd.f5 false true false false) := by
  obtain ⟨x, hx⟩ := reads os enc
  refine returnsInHanded_of_row (C := Tryd.checked) (s := OpenSpec.ofChange Rows.fnExactLayoutTextSpec) own started (by kernel_rfl) Tryd.func5
    (witness_row_at (enc := enc) (C := Tryd.checked) false (laidWorld os) #[.agg #[.int .i64 0, .slice none 0 0]] rfl (by kernel_rfl) (by kernel_rfl) (by kernel_rfl)
      (OpenSpec.preRow_of_cond 8 hx (by kernel_rfl) (fun k hk => by cases hk) (by kernel_rfl) (laid_met os))) ?_
  intro W base args ds gs before hval hW _ _ _ hL hS _
  exact contract H enc W base args ds gs before hval hW hL hS

theorem said : Rows.FnExactLayoutTextSaid :=
  OpenClaim.holds_of_cond 5 Tryd.f5 rfl rfl rfl rfl rfl rfl rfl ⟨rfl, rfl, rfl, rfl, rfl⟩ rfl rfl rfl rfl rfl (by kernel_rfl) Tryd.func5 (by kernel_rfl)
    (of_decide_eq_true (by kernel_rfl)) (by unfold Func.isWrapper; first | (rw [if_pos (by decide +kernel)]; kernel_rfl) | (rw [if_neg (by decide +kernel)]; exact ⟨rfl, rfl⟩))
    (fun os started H enc _ F => by rw [OpenClaim.pre_eq_preRow]; exact lifted os started H enc F)

theorem noStand : (Tryd.f5.params.toList.all fun t => !Tryd.prog.wantsStandIn t) = true := by kernel_rfl
/-- No parameter wants a stand-in; the program's own looks are off. -/
theorem plain (g : FuncId) (fn : Func) (hf : Tryd.pinned.checked.prog.funcNamed "loop.example/g01012/laws.FnExactLayoutText" = some g) (hfn : Tryd.pinned.checked.prog.funcs[g]? = some fn) :
    true = Tryd.pinned.checked.prog.looks [] ∧ ∀ (j : Nat) t, fn.params[j]? = some t → Tryd.pinned.checked.prog.wantsStandIn t = false := by
  obtain rfl : g = 5 := Option.some.inj ((show Tryd.prog.funcNamed "loop.example/g01012/laws.FnExactLayoutText" = some 5 by kernel_rfl).symm.trans hf) |>.symm
  obtain rfl : fn = Tryd.f5 := (Option.some.inj (Tryd.func5.symm.trans hfn)).symm
  refine ⟨by kernel_rfl, fun j t ht => ?_⟩
  have h1 := List.all_eq_true.1 noStand t (by have := Array.mem_of_getElem? ht; simpa using this)
  have h2 : Tryd.prog.wantsStandIn t = false := by simpa using h1
  exact h2

/-- The card. -/
theorem proved : Rows.FnExactLayoutTextCardSaid :=
  Claim7.holds_tied_plain_at .later [] _ _ _ _ said (fun _ h => by cases h) (by kernel_rfl) (fun _ h => by cases h) fnExactLayoutText_row_tie rfl ⟨rfl, rfl⟩ (by kernel_rfl) rfl plain (by kernel_rfl)
#print axioms proved
end Go.Proofs.YtcbjfgjlhjjpiaaDoor.fnExactLayoutText
