/- FnExactReadLayout: for all arguments the law returns true, and memory that was there is as it was. No condition. -/
import Derived.Test.YtcbjfgjlhjjpiaaDoorRows
import Derived.Test.YtcbjfgjlhjjpiaaDoorCards
import Derived.Deep.DeepWitnessRowRef
import Derived.LaidMore
import Derived.Test.YtcbjfgjlhjjpiaaDoorTie
import Derived.Deep.DeepHandedRow
import Derived.Lib.LaidTab
import Derived.Stop.LaidErr
import Derived.OpenVars
import Derived.Test.YtcbjfgjlhjjpiaaDoorTabs
import Derived.Test.YtcbjfgjlhjjpiaaDoorOpen
import Derived.Deep.RegionHeld3
import Derived.Deep.CutRange
import Derived.ShutString
import Derived.Test.YtcbjfgjlhjjpiaaDoorMark
import Derived.Test.YtcbjfgjlhjjpiaaDoorMarkT
import Derived.Test.YtcbjfgjlhjjpiaaDoorRlI
import Derived.Test.YtcbjfgjlhjjpiaaDoorRlN
import Derived.Test.YtcbjfgjlhjjpiaaDoorErrs
namespace Go.Proofs.YtcbjfgjlhjjpiaaDoor.fnExactReadLayout
open Go.ChangeShapes Go.WideShapes Go.ChangeAt Go.RowKit
open Go.ChangeMaps (open_string shut_string)
set_option linter.unusedVariables false
set_option linter.unusedSimpArgs false
set_option linter.unnecessarySimpa false
set_option maxRecDepth 100000

theorem own : ownKnob Tryd.prog.godebug = none := by kernel_rfl
theorem laidOut : laidOutB Tryd.prog = true := by kernel_rfl

set_option maxHeartbeats 4000000 in
/-- The Go text returns true; memory has at most new blocks. -/
theorem walk (s0 : ByteArray) (w : World) (hm0 : s0.size ≤ maxLen) (ht : Pow10 w) (hE : Errs w) (hK : Kinds w) (hM : ∃ m, w.cell? ⟨3, 0, none⟩ = some (.int .i64 m)) :
    Calls Tryd.prog 7 #[.string s0] w fun e w' => e = .returned (.bool true) ∧ Below w.heap.size w w' := by
  by_cases hn0 : 1048576 < s0.size
  · go_enter Tryd.func7, Tryd.ntmps7
    go_wp2_with fail
    go_ret
    exact ⟨rfl, by repeat (first | exact Below.refl _ _ | exact below_alloc _ | exact below_alloc2 _ _ _ | exact below_alloc3 _ _ _ _)⟩
  replace hn0 : s0.size ≤ 1048576 := by omega
  go_enter Tryd.func7, Tryd.ntmps7
  go_wp2_with fail
  refine (spec_ReadLayout s0 _ hn0 ).mono ?_
  rintro e w2 ⟨a3, c4, rfl, ho5, hb1⟩
  have hB := (bthen (Below.refl _ _) hb1)
  have hs7 := hb1.size
  clear hb1
  replace ho5 := OT.of (own_mono (B := w.heap.size) ho5 (by first | exact Nat.le_refl _ | simp))
  have hl6 := layX_len s0 hn0
  go_wp2_with fail
  refine (impl_ReadLayout s0 _ hn0 (powT_kept ht (bthen hB (below_alloc _))) (Errs.kept hE (bthen hB (below_alloc _))) (Kinds.kept hK (bthen hB (below_alloc _))) (cell_kept hM (bthen hB (below_alloc _)))).mono ?_
  rintro e w9 ⟨a10, c11, rfl, ho12, hb8⟩
  have hc14_0 : w9.cell? ⟨w2.heap.size, 0, none⟩ = some (.int .i64 (layW s0.data.toList)) := (keep hb8 (by simp [go_sem]))
  have hc14_1 : w9.cell? ⟨w2.heap.size, 1, none⟩ = some (.slice a3 (layX s0.data.toList).length c4) := (keep hb8 (by simp [go_sem]))
  replace ho5 := ((ho5.kept (below_alloc _)).kept hb8)
  replace hB := (bthen (bthen hB (below_alloc _)) hb8)
  have hs15 := hb8.size
  simp only [World.size_alloc] at hs15
  have hc14_l : w2.heap.size < w9.heap.size := World.block_lt_of_cell? _ _ hc14_0
  clear hb8
  replace ho12 := OT.of (own_mono (B := w2.heap.size + 1) ho12 (by first | exact Nat.le_refl _ | simp))
  have hl13 := layX_len s0 hn0
  go_wp2_with fail
  refine (laws_eqLayout_same (layW s0.data.toList) a10 a3 c11 c4 (layX s0.data.toList) _ ((ho12.RT).kept (below_alloc _)) ((ho5.RT).kept (below_alloc _)) hl13).mono ?_
  rintro e w17 ⟨rfl, hb16⟩
  replace hc14_0 := (keep hb16 (keep (below_alloc _) hc14_0))
  replace hc14_1 := (keep hb16 (keep (below_alloc _) hc14_1))
  have hc18_0 : w17.cell? ⟨w9.heap.size, 0, none⟩ = some (.int .i64 (layW s0.data.toList)) := (keep hb16 (by simp [go_sem]))
  have hc18_1 : w17.cell? ⟨w9.heap.size, 1, none⟩ = some (.slice a10 (layX s0.data.toList).length c11) := (keep hb16 (by simp [go_sem]))
  replace ho5 := ((ho5.kept (below_alloc _)).kept hb16)
  replace ho12 := ((ho12.kept (below_alloc _)).kept hb16)
  replace hB := (bthen (bthen hB (below_alloc _)) hb16)
  have hs19 := hb16.size
  simp only [World.size_alloc] at hs19
  replace hc14_l : w2.heap.size < w17.heap.size := World.block_lt_of_cell? _ _ hc14_0
  have hc18_l : w9.heap.size < w17.heap.size := World.block_lt_of_cell? _ _ hc18_0
  clear hb16
  go_wp2_with fail
  refine (laws_markLayout (w2.heap.size + 1) (w9.heap.size) (layW s0.data.toList) a10 c11 (layX s0.data.toList) 1 _ ho12 (by omega) (by omega) hl13 (by first | omega | (simp only [World.size_alloc]; omega))).mono ?_
  rintro e w21 ⟨rfl, hw22, ho23⟩
  replace hc14_0 := hw22.cell hc14_0 (by dsimp only; omega)
  replace hc14_1 := hw22.cell hc14_1 (by dsimp only; omega)
  replace hc18_0 := hw22.cell hc18_0 (by dsimp only; omega)
  replace hc18_1 := hw22.cell hc18_1 (by dsimp only; omega)
  replace ho5 := ho5.within hw22 (by omega)
  replace hB := hw22.below hB (by omega) (by first | omega | (simp only [World.size_alloc]; omega))
  have hs24 := hw22.size
  replace hc14_l : w2.heap.size < w21.heap.size := World.block_lt_of_cell? _ _ hc14_0
  replace hc18_l : w9.heap.size < w21.heap.size := World.block_lt_of_cell? _ _ hc18_0
  clear hw22
  clear ho12
  go_wp2_with fail
  refine (laws_heldLayout (layW s0.data.toList) a10 c11 (layX s0.data.toList).length 1 _ (ho23.RT) (by omega) (by omega) (Nat.le_trans (itemsSz_len _) hl13)).mono ?_
  rintro e w26 ⟨rfl, hb25⟩
  replace hc14_0 := (keep hb25 hc14_0)
  replace hc14_1 := (keep hb25 hc14_1)
  replace hc18_0 := (keep hb25 hc18_0)
  replace hc18_1 := (keep hb25 hc18_1)
  replace ho5 := (ho5.kept hb25)
  replace ho23 := (ho23.kept hb25)
  replace hB := (bthen hB hb25)
  have hs27 := hb25.size
  replace hc14_l : w2.heap.size < w26.heap.size := World.block_lt_of_cell? _ _ hc14_0
  replace hc18_l : w9.heap.size < w26.heap.size := World.block_lt_of_cell? _ _ hc18_0
  clear hb25
  go_wp2_with fail
  refine (impl_ReadLayout s0 _ hn0 (powT_kept ht hB) (Errs.kept hE hB) (Kinds.kept hK hB) (cell_kept hM hB)).mono ?_
  rintro e w29 ⟨a30, c31, rfl, ho32, hb28⟩
  replace hc14_0 := (keep hb28 hc14_0)
  replace hc14_1 := (keep hb28 hc14_1)
  replace hc18_0 := (keep hb28 hc18_0)
  replace hc18_1 := (keep hb28 hc18_1)
  replace ho5 := (ho5.kept hb28)
  replace ho23 := (ho23.kept hb28)
  replace hB := (bthen hB hb28)
  have hs34 := hb28.size
  replace hc14_l : w2.heap.size < w29.heap.size := World.block_lt_of_cell? _ _ hc14_0
  replace hc18_l : w9.heap.size < w29.heap.size := World.block_lt_of_cell? _ _ hc18_0
  clear hb28
  replace ho32 := OT.of (own_mono (B := w26.heap.size) ho32 (by first | exact Nat.le_refl _ | simp))
  have hl33 := layX_len s0 hn0
  go_wp2_with fail
  refine (laws_eqLayout_same (layW s0.data.toList) a30 a3 c31 c4 (layX s0.data.toList) _ ((ho32.RT).kept (below_alloc _)) ((ho5.RT).kept (below_alloc _)) hl33).mono ?_
  rintro e w36 ⟨rfl, hb35⟩
  replace hc14_0 := (keep hb35 (keep (below_alloc _) hc14_0))
  replace hc14_1 := (keep hb35 (keep (below_alloc _) hc14_1))
  replace hc18_0 := (keep hb35 (keep (below_alloc _) hc18_0))
  replace hc18_1 := (keep hb35 (keep (below_alloc _) hc18_1))
  have hc37_0 : w36.cell? ⟨w29.heap.size, 0, none⟩ = some (.int .i64 (layW s0.data.toList)) := (keep hb35 (by simp [go_sem]))
  have hc37_1 : w36.cell? ⟨w29.heap.size, 1, none⟩ = some (.slice a30 (layX s0.data.toList).length c31) := (keep hb35 (by simp [go_sem]))
  replace ho5 := ((ho5.kept (below_alloc _)).kept hb35)
  replace ho23 := ((ho23.kept (below_alloc _)).kept hb35)
  replace ho32 := ((ho32.kept (below_alloc _)).kept hb35)
  replace hB := (bthen (bthen hB (below_alloc _)) hb35)
  have hs38 := hb35.size
  simp only [World.size_alloc] at hs38
  replace hc14_l : w2.heap.size < w36.heap.size := World.block_lt_of_cell? _ _ hc14_0
  replace hc18_l : w9.heap.size < w36.heap.size := World.block_lt_of_cell? _ _ hc18_0
  have hc37_l : w29.heap.size < w36.heap.size := World.block_lt_of_cell? _ _ hc37_0
  clear hb35
  go_wp2_with fail
  refine (laws_heldLayout (layW s0.data.toList) a10 c11 (layX s0.data.toList).length 1 _ (ho23.RT) (by omega) (by omega) (Nat.le_trans (itemsSz_len _) hl13)).mono ?_
  rintro e w40 ⟨rfl, hb39⟩
  replace hc14_0 := (keep hb39 hc14_0)
  replace hc14_1 := (keep hb39 hc14_1)
  replace hc18_0 := (keep hb39 hc18_0)
  replace hc18_1 := (keep hb39 hc18_1)
  replace hc37_0 := (keep hb39 hc37_0)
  replace hc37_1 := (keep hb39 hc37_1)
  replace ho5 := (ho5.kept hb39)
  replace ho23 := (ho23.kept hb39)
  replace ho32 := (ho32.kept hb39)
  replace hB := (bthen hB hb39)
  have hs41 := hb39.size
  replace hc14_l : w2.heap.size < w40.heap.size := World.block_lt_of_cell? _ _ hc14_0
  replace hc18_l : w9.heap.size < w40.heap.size := World.block_lt_of_cell? _ _ hc18_0
  replace hc37_l : w29.heap.size < w40.heap.size := World.block_lt_of_cell? _ _ hc37_0
  clear hb39
  go_wp2_with fail
  go_ret
  exact ⟨rfl, hB⟩

/-- What the walk gives, for every argument and every world that holds the tables. -/
theorem contract (H : Type) (enc : TypeId × Value → H) (W : World) (base : Nat) (args : Array Value) (ds gs : List (DataW H)) (before : List MemPlace)
    (hval0 : ∀ (j : Nat) t v, Tryd.f7.params[j]? = some t → args[j]? = some v → Value.okWide Tryd.prog W .any base t v)
    (hW : DataW.Whole enc Tryd.prog Tryd.f7.params.toList Rows.fnExactReadLayoutSpec.vars false W args.toList ds gs before) (hL : laidMetH Tryd.prog Rows.fnExactReadLayoutRow.laid W) (hS : W.ShapedOpen Tryd.prog) :
    Calls Tryd.prog 7 args W fun e W' => ∃ v, e = .returned v ∧ Rows.fnExactReadLayoutSpec.post enc Tryd.prog Tryd.f7 false true false false W args v W' := by
  have hval : ∀ (j : Nat) t v, Tryd.f7.params[j]? = some t → args[j]? = some v → Value.okWide Tryd.prog W .any base t v := hval0
  have hW' := hW
  obtain ⟨p, q, hA0, hV, rfl, hfz, hnd⟩ := hW
  have hA : DataW.TrodAll enc Tryd.prog W 0 (fun _ => true) true Tryd.f7.params.toList args.toList ds p := hA0
  rw [Tryd.params7] at hA hval
  obtain ⟨v0, vs0, d0, ds0, p0, q0, hargs, rfl, rfl, h0, r0⟩ := trodAll_cons hA
  obtain ⟨rfl, rfl, rfl⟩ := trodAll_nil r0
  obtain rfl : args = #[v0] := by cases args; simp_all
  have hV2 := hV
  obtain ⟨_, _, _, _, g1, _, rfl, _⟩ := trodVars_one hV
  obtain ⟨s0, rfl, rfl, rfl, z0⟩ := open_string Tryd.underlying9 (hval 0 9 v0 rfl rfl) h0
  clear hA0 hval0
  refine (walk s0 W z0 (pow10_of (l := Rows.fnExactReadLayoutRow.laid) hL (by simp [Rows.fnExactReadLayoutRow])) (errs_of (l := Rows.fnExactReadLayoutRow.laid) hL (by simp [Rows.fnExactReadLayoutRow]) (by simp [Rows.fnExactReadLayoutRow])) (kinds_of (l := Rows.fnExactReadLayoutRow.laid) hL (by simp [Rows.fnExactReadLayoutRow])) (maxLen_of hS)).mono fun e W' ⟨he, bel⟩ => ?_
  subst he
  exact ⟨_, rfl, _, _, _, [], _, _, hW', trodAll_mk1 (shut_bool Tryd.underlying4 _), (trodAll_cons_mk (shut_string Tryd.underlying9 z0) trodAll_mk0), Below.trodVars laidOut bel (by kernel_rfl) hV2, bel.frame _, fun h => by cases h⟩

/-- A world for the witness: the settled one, the listed tables laid. -/
noncomputable def laidWorld (os : Os) : World := { World.doorLaid Tryd.prog 77 os with heap := layAt (World.doorLaid Tryd.prog 77 os).heap 5 (Rows.laid_unicode_utf8_first) }
theorem laid_met (os : Os) : laidMet Tryd.prog Rows.fnExactReadLayoutRow.laid ((laidWorld os).forCall (fun _ _ => 0) ⟨#[], #[.string ByteArray.empty], []⟩).memory :=
  laidMet_of_run' 8 (by kernel_rfl) (by kernel_rfl)
theorem reads (os : Os) {H : Type} (enc : TypeId × Value → H) : ∃ x : List (DataW H) × List (DataW H) × List MemPlace, DataW.whole enc Tryd.prog ((laidWorld os).forCall (fun _ _ => 0) ⟨#[], #[.string ByteArray.empty], []⟩).memory Tryd.f7.params.toList Rows.fnExactReadLayoutSpec.vars false #[.string ByteArray.empty].toList 8 = some x :=
  Option.isSome_iff_exists.1 (by kernel_rfl)

set_option maxRecDepth 100000 in
theorem lifted (os : Os) (started : os.Started) (H : Type) (enc : TypeId × Value → H) (F : Stop.Interp) :
    ReturnsInHanded {} Tryd.checked os 7 .any ((OpenSpec.ofChange Rows.fnExactReadLayoutSpec).preRow enc Tryd.prog Tryd.f7 Rows.fnExactReadLayoutRow.domain false Rows.fnExactReadLayoutRow.laid) (((OpenSpec.ofChange Rows.fnExactReadLayoutSpec).at F).post enc Tryd.prog Tryd.f7 false true false false) := by
  obtain ⟨x, hx⟩ := reads os enc
  refine returnsInHanded_of_row (C := Tryd.checked) (s := OpenSpec.ofChange Rows.fnExactReadLayoutSpec) own started (by kernel_rfl) Tryd.func7
    (witness_row_atRef (enc := enc) (C := Tryd.checked) false (laidWorld os) #[.string ByteArray.empty] rfl (by kernel_rfl) (by kernel_rfl) (by kernel_rfl)
      (OpenSpec.preRow_of_cond 8 hx (by kernel_rfl) (fun k hk => by cases hk) (by kernel_rfl) (laid_met os))) ?_
  intro W base args ds gs before hval hW _ _ _ hL hS _
  exact contract H enc W base args ds gs before hval hW hL hS

theorem said : Rows.FnExactReadLayoutSaid :=
  OpenClaim.holds_of_cond 7 Tryd.f7 rfl rfl rfl rfl rfl rfl rfl ⟨rfl, rfl, rfl, rfl, rfl⟩ rfl rfl rfl rfl rfl (by kernel_rfl) Tryd.func7 (by kernel_rfl)
    (of_decide_eq_true (by kernel_rfl)) (by unfold Func.isWrapper; first | (rw [if_pos (by decide +kernel)]; kernel_rfl) | (rw [if_neg (by decide +kernel)]; exact ⟨rfl, rfl⟩))
    (fun os started H enc _ F => by rw [OpenClaim.pre_eq_preRow]; exact lifted os started H enc F)

theorem noStand : (Tryd.f7.params.toList.all fun t => !Tryd.prog.wantsStandIn t) = true := by kernel_rfl
/-- No parameter wants a stand-in; the program's own looks are off. -/
theorem plain (g : FuncId) (fn : Func) (hf : Tryd.pinned.checked.prog.funcNamed "loop.example/g01012/laws.FnExactReadLayout" = some g) (hfn : Tryd.pinned.checked.prog.funcs[g]? = some fn) :
    true = Tryd.pinned.checked.prog.looks [] ∧ ∀ (j : Nat) t, fn.params[j]? = some t → Tryd.pinned.checked.prog.wantsStandIn t = false := by
  obtain rfl : g = 7 := Option.some.inj ((show Tryd.prog.funcNamed "loop.example/g01012/laws.FnExactReadLayout" = some 7 by kernel_rfl).symm.trans hf) |>.symm
  obtain rfl : fn = Tryd.f7 := (Option.some.inj (Tryd.func7.symm.trans hfn)).symm
  refine ⟨by kernel_rfl, fun j t ht => ?_⟩
  have h1 := List.all_eq_true.1 noStand t (by have := Array.mem_of_getElem? ht; simpa using this)
  have h2 : Tryd.prog.wantsStandIn t = false := by simpa using h1
  exact h2

/-- The card. -/
theorem proved : Rows.FnExactReadLayoutCardSaid :=
  Claim7.holds_tied_plain_at .later [] _ _ _ _ said (fun _ h => by cases h) (by kernel_rfl) (fun _ h => by cases h) fnExactReadLayout_row_tie rfl ⟨rfl, rfl⟩ (by kernel_rfl) rfl plain (by kernel_rfl)
#print axioms proved
end Go.Proofs.YtcbjfgjlhjjpiaaDoor.fnExactReadLayout
