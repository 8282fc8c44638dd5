/- FnExactSplitWords: for all arguments the law returns true, and memory that was there is as it was. No condition. -/
import Derived.Test.YtdjggbccdjbcoaaDoorRows
import Derived.Test.YtdjggbccdjbcoaaDoorCards
import Derived.Test.YtdjggbccdjbcoaaDoorTie
import Derived.Deep.DeepHandedRow
import Derived.Lib.LaidTab
import Derived.Stop.LaidErr
import Derived.OpenVars
import Derived.Test.YtdjggbccdjbcoaaDoorTabs
import Derived.Test.YtdjggbccdjbcoaaDoorOpen
import Derived.Deep.RegionHeld3
import Derived.Deep.CutRange
import Derived.ShutString
import Derived.Test.YtdjggbccdjbcoaaDoorSplit
namespace Go.Proofs.YtdjggbccdjbcoaaDoor.fnExactSplitWords
open Go.ChangeShapes Go.WideShapes Go.ChangeAt Go.RowKit
open Go.ChangeMaps (open_string shut_string)
set_option linter.unusedVariables false
set_option linter.unusedSimpArgs false
set_option linter.unnecessarySimpa false
set_option maxRecDepth 100000

theorem own : ownKnob Tryd.prog.godebug = none := by kernel_rfl
theorem laidOut : laidOutB Tryd.prog = true := by kernel_rfl

set_option maxHeartbeats 4000000 in
/-- The Go text returns true; memory has at most new blocks. -/
theorem walk (s0 : ByteArray) (w : World) (hm0 : s0.size ≤ maxLen) (hM : ∃ m, w.cell? ⟨2, 0, none⟩ = some (.int .i64 m)) :
    Calls Tryd.prog 4 #[.string s0] w fun e w' => e = .returned (.bool true) ∧ Below w.heap.size w w' := by
  by_cases hn0 : 1048576 < s0.size
  · go_enter Tryd.func4, Tryd.ntmps4
    go_wp2_with fail
    go_ret
    exact ⟨rfl, by repeat (first | exact Below.refl _ _ | exact below_alloc _ | exact below_alloc2 _ _ _ | exact below_alloc3 _ _ _ _)⟩
  replace hn0 : s0.size ≤ 1048576 := by omega
  go_enter Tryd.func4, Tryd.ntmps4
  go_wp2_with fail
  refine (spec_SplitWords s0 _ hn0 ).mono ?_
  rintro e w2 ⟨a3, c4, rfl, ho5, hb1⟩
  have hB := (bthen (Below.refl _ _) hb1)
  have hs7 := hb1.size
  clear hb1
  replace ho5 := OS.of (own_mono (B := w.heap.size) ho5 (by first | exact Nat.le_refl _ | simp))
  have hl6 := wordsL_len s0 hn0
  go_wp2_with fail
  refine (impl_SplitWords s0 _ hn0 (cell_kept hM hB)).mono ?_
  rintro e w9 ⟨a10, c11, rfl, ho12, hb8⟩
  replace ho5 := (ho5.kept hb8)
  replace hB := (bthen hB hb8)
  have hs14 := hb8.size
  clear hb8
  replace ho12 := OS.of (own_mono (B := w2.heap.size) ho12 (by first | exact Nat.le_refl _ | simp))
  have hl13 := wordsL_len s0 hn0
  go_wp2_with fail
  refine (laws_eqStringS_same a10 a3 c11 c4 (wordsL s0) _ (ho12.RS) (ho5.RS) (small hl13)).mono ?_
  rintro e w16 ⟨rfl, hb15⟩
  replace ho5 := (ho5.kept hb15)
  replace ho12 := (ho12.kept hb15)
  replace hB := (bthen hB hb15)
  have hs17 := hb15.size
  clear hb15
  go_wp2_with fail
  refine (laws_markStringS (w2.heap.size) (w9.heap.size) a10 c11 (wordsL s0) 1 _ ho12 (by omega) (by omega) hl13 (by first | omega | (simp only [World.size_alloc]; omega))).mono ?_
  rintro e w19 ⟨rfl, hw20, ho21⟩
  replace ho5 := ho5.within hw20 (by omega)
  replace hB := hw20.below hB (by omega) (by first | omega | (simp only [World.size_alloc]; omega))
  have hs22 := hw20.size
  clear hw20
  clear ho12
  go_wp2_with fail
  refine (laws_heldStringS a10 c11 (wordsL s0).length 1 _ (ho21.RS) (by omega) (by omega) hl13).mono ?_
  rintro e w24 ⟨rfl, hb23⟩
  replace ho5 := (ho5.kept hb23)
  replace ho21 := (ho21.kept hb23)
  replace hB := (bthen hB hb23)
  have hs25 := hb23.size
  clear hb23
  go_wp2_with fail
  refine (impl_SplitWords s0 _ hn0 (cell_kept hM hB)).mono ?_
  rintro e w27 ⟨a28, c29, rfl, ho30, hb26⟩
  replace ho5 := (ho5.kept hb26)
  replace ho21 := (ho21.kept hb26)
  replace hB := (bthen hB hb26)
  have hs32 := hb26.size
  clear hb26
  replace ho30 := OS.of (own_mono (B := w24.heap.size) ho30 (by first | exact Nat.le_refl _ | simp))
  have hl31 := wordsL_len s0 hn0
  go_wp2_with fail
  refine (laws_eqStringS_same a28 a3 c29 c4 (wordsL s0) _ (ho30.RS) (ho5.RS) (small hl31)).mono ?_
  rintro e w34 ⟨rfl, hb33⟩
  replace ho5 := (ho5.kept hb33)
  replace ho21 := (ho21.kept hb33)
  replace ho30 := (ho30.kept hb33)
  replace hB := (bthen hB hb33)
  have hs35 := hb33.size
  clear hb33
  go_wp2_with fail
  refine (laws_heldStringS a10 c11 (wordsL s0).length 1 _ (ho21.RS) (by omega) (by omega) hl13).mono ?_
  rintro e w37 ⟨rfl, hb36⟩
  replace ho5 := (ho5.kept hb36)
  replace ho21 := (ho21.kept hb36)
  replace ho30 := (ho30.kept hb36)
  replace hB := (bthen hB hb36)
  have hs38 := hb36.size
  clear hb36
  go_wp2_with fail
  go_ret
  exact ⟨rfl, hB⟩

/-- What the walk gives, for every argument and every world that holds the tables. -/
theorem contract (H : Type) (enc : TypeId × Value → H) (W : World) (base : Nat) (args : Array Value) (ds gs : List (DataW H)) (before : List MemPlace)
    (hval0 : ∀ (j : Nat) t v, Tryd.f4.params[j]? = some t → args[j]? = some v → Value.okWide Tryd.prog W .any base t v)
    (hW : DataW.Whole enc Tryd.prog Tryd.f4.params.toList Rows.fnExactSplitWordsSpec.vars false W args.toList ds gs before) (hL : laidMetH Tryd.prog Rows.fnExactSplitWordsRow.laid W) (hS : W.ShapedOpen Tryd.prog) :
    Calls Tryd.prog 4 args W fun e W' => ∃ v, e = .returned v ∧ Rows.fnExactSplitWordsSpec.post enc Tryd.prog Tryd.f4 false true false false W args v W' := by
  have hval : ∀ (j : Nat) t v, Tryd.f4.params[j]? = some t → args[j]? = some v → Value.okWide Tryd.prog W .any base t v := hval0
  have hW' := hW
  obtain ⟨p, q, hA0, hV, rfl, hfz, hnd⟩ := hW
  have hA : DataW.TrodAll enc Tryd.prog W 0 (fun _ => true) true Tryd.f4.params.toList args.toList ds p := hA0
  rw [Tryd.params4] at hA hval
  obtain ⟨v0, vs0, d0, ds0, p0, q0, hargs, rfl, rfl, h0, r0⟩ := trodAll_cons hA
  obtain ⟨rfl, rfl, rfl⟩ := trodAll_nil r0
  obtain rfl : args = #[v0] := by cases args; simp_all
  obtain ⟨rfl, rfl⟩ := trodVars_none hV
  obtain ⟨s0, rfl, rfl, rfl, z0⟩ := open_string Tryd.underlying9 (hval 0 9 v0 rfl rfl) h0
  clear hA0 hval0
  refine (walk s0 W z0 (maxLen_of hS)).mono fun e W' ⟨he, bel⟩ => ?_
  subst he
  exact ⟨_, rfl, _, _, _, [], _, [], hW', trodAll_mk1 (shut_bool Tryd.underlying4 _), (trodAll_cons_mk (shut_string Tryd.underlying9 z0) trodAll_mk0), rfl, bel.frame _, fun h => by cases h⟩

/-- A world for the witness: the settled one, the listed tables laid. -/
noncomputable def laidWorld (os : Os) : World := { World.holding Tryd.prog os ⟨#[], #[], []⟩ with heap := layAt (layAt ((World.holding Tryd.prog os ⟨#[], #[], []⟩).heap) 4 (Rows.laid_unicode_utf8_acceptRanges)) 3 (Rows.laid_unicode_utf8_first) }
theorem laid_met (os : Os) : laidMet Tryd.prog Rows.fnExactSplitWordsRow.laid ((laidWorld os).forCall (fun _ _ => 0) ⟨#[], #[.string ByteArray.empty], []⟩).memory :=
  laidMet_of_run' 8 (by kernel_rfl) (by kernel_rfl)
theorem reads (os : Os) {H : Type} (enc : TypeId × Value → H) : ∃ x : List (DataW H) × List (DataW H) × List MemPlace, DataW.whole enc Tryd.prog ((laidWorld os).forCall (fun _ _ => 0) ⟨#[], #[.string ByteArray.empty], []⟩).memory Tryd.f4.params.toList Rows.fnExactSplitWordsSpec.vars false #[.string ByteArray.empty].toList 8 = some x :=
  Option.isSome_iff_exists.1 (by kernel_rfl)

set_option maxRecDepth 100000 in
theorem lifted (os : Os) (started : os.Started) (H : Type) (enc : TypeId × Value → H) (F : Stop.Interp) :
    ReturnsInHanded {} Tryd.checked os 4 .any ((OpenSpec.ofChange Rows.fnExactSplitWordsSpec).preRow enc Tryd.prog Tryd.f4 Rows.fnExactSplitWordsRow.domain false Rows.fnExactSplitWordsRow.laid) (((OpenSpec.ofChange Rows.fnExactSplitWordsSpec).at F).post enc Tryd.prog Tryd.f4 false true false false) := by
  obtain ⟨x, hx⟩ := reads os enc
  refine returnsInHanded_of_row (C := Tryd.checked) (s := OpenSpec.ofChange Rows.fnExactSplitWordsSpec) own started (by kernel_rfl) Tryd.func4
    (witness_row_at (enc := enc) (C := Tryd.checked) false (laidWorld os) #[.string ByteArray.empty] rfl (by kernel_rfl) (by kernel_rfl) (by kernel_rfl)
      (OpenSpec.preRow_of_cond 8 hx (by kernel_rfl) (fun k hk => by cases hk) (by kernel_rfl) (laid_met os))) ?_
  intro W base args ds gs before hval hW _ _ _ hL hS _
  exact contract H enc W base args ds gs before hval hW hL hS

theorem said : Rows.FnExactSplitWordsSaid :=
  OpenClaim.holds_of_cond 4 Tryd.f4 rfl rfl rfl rfl rfl rfl rfl ⟨rfl, rfl, rfl, rfl, rfl⟩ rfl rfl rfl rfl rfl (by kernel_rfl) Tryd.func4 (by kernel_rfl)
    (of_decide_eq_true (by kernel_rfl)) (by unfold Func.isWrapper; first | (rw [if_pos (by decide +kernel)]; kernel_rfl) | (rw [if_neg (by decide +kernel)]; exact ⟨rfl, rfl⟩))
    (fun os started H enc _ F => by rw [OpenClaim.pre_eq_preRow]; exact lifted os started H enc F)

theorem noStand : (Tryd.f4.params.toList.all fun t => !Tryd.prog.wantsStandIn t) = true := by kernel_rfl
/-- No parameter wants a stand-in; the program's own looks are off. -/
theorem plain (g : FuncId) (fn : Func) (hf : Tryd.pinned.checked.prog.funcNamed "loop.example/g01012/laws.FnExactSplitWords" = some g) (hfn : Tryd.pinned.checked.prog.funcs[g]? = some fn) :
    false = Tryd.pinned.checked.prog.looks [] ∧ ∀ (j : Nat) t, fn.params[j]? = some t → Tryd.pinned.checked.prog.wantsStandIn t = false := by
  obtain rfl : g = 4 := Option.some.inj ((show Tryd.prog.funcNamed "loop.example/g01012/laws.FnExactSplitWords" = some 4 by kernel_rfl).symm.trans hf) |>.symm
  obtain rfl : fn = Tryd.f4 := (Option.some.inj (Tryd.func4.symm.trans hfn)).symm
  refine ⟨by kernel_rfl, fun j t ht => ?_⟩
  have h1 := List.all_eq_true.1 noStand t (by have := Array.mem_of_getElem? ht; simpa using this)
  have h2 : Tryd.prog.wantsStandIn t = false := by simpa using h1
  exact h2

/-- The card. -/
theorem proved : Rows.FnExactSplitWordsCardSaid :=
  Claim7.holds_tied_plain_at .later [] _ _ _ _ said (fun _ h => by cases h) (by kernel_rfl) (fun _ h => by cases h) fnExactSplitWords_row_tie rfl ⟨rfl, rfl⟩ (by kernel_rfl) rfl plain (by kernel_rfl)
#print axioms proved
end Go.Proofs.YtdjggbccdjbcoaaDoor.fnExactSplitWords
