/- FnExactValidDeck: for all arguments the law returns true, and memory that was there is as it was. No condition. -/
import Derived.Test.YtfegimjikmonhaaRows
import Derived.Test.YtfegimjikmonhaaOpen
import Derived.Deep.RegionHeld3
import Derived.Deep.CutRange
import Derived.ShutString
import Derived.Test.YtfegimjikmonhaaDeck
namespace Go.Proofs.Ytfegimjikmonhaa.fnExactValidDeck
open Go.ChangeShapes Go.WideShapes Go.ChangeAt Go.RowKit
open Go.ChangeMaps (open_string shut_string)
set_option linter.unusedVariables false
set_option linter.unusedSimpArgs false
set_option linter.unnecessarySimpa false
set_option maxRecDepth 100000

theorem own : ownKnob Try.prog.godebug = none := by kernel_rfl
theorem laidOut : laidOutB Try.prog = true := by kernel_rfl

set_option maxHeartbeats 4000000 in
/-- The Go text returns true; memory has at most new blocks. -/
theorem walk (a0 : Option Addr) (c0 : Nat) (x0 : List (List Int)) (w : World) (hx0 : RD w a0 x0) (hm0 : x0.length ≤ maxLen) :
    Calls Try.prog 10 #[.slice a0 x0.length c0] w fun e w' => e = .returned (.bool true) ∧ Below w.heap.size w w' := by
  go_enter Try.func10, Try.ntmps10
  by_cases hz1 : 1048576 < (deckSz x0 : Int)
  · go_wp2_with fail
    refine (laws_szCardS_over a0 c0 x0 (1048576) _ (hx0.kept (Below.refl _ _)) (by omega) (by omega) hm0 hz1).mono ?_
    rintro e wz ⟨rfl, hz⟩
    go_wp2_with fail
    go_ret
    exact ⟨rfl, bthen (Below.refl _ _) hz⟩
  go_wp2_with fail
  refine (laws_szCardS_ok a0 c0 x0 (1048576) _ (hx0.kept (Below.refl _ _)) (by omega) (by omega) hm0 (by omega)).mono ?_
  rintro e w1 ⟨rfl, hb2⟩
  have hB := (bthen (Below.refl _ _) hb2)
  have hs3 := hb2.size
  clear hb2
  have hn0 : deckSz x0 ≤ 1048576 := by omega
  go_wp2_with fail
  refine (laws_toCardS a0 c0 x0 _ (hx0.kept hB) hn0).mono ?_
  rintro e w5 ⟨a6, c7, rfl, ho8, hb4⟩
  replace hB := (bthen hB hb4)
  have hs9 := hb4.size
  clear hb4
  replace ho8 := OD.wider (lo' := w1.heap.size) ho8 (by first | exact Nat.le_refl _ | simp) (Nat.le_refl _)
  go_wp2_with fail
  refine (spec_ValidDeck a6 c7 x0 _ (ho8.RD) hn0).mono ?_
  rintro e w11 ⟨rfl, hb10⟩
  replace ho8 := (ho8.kept hb10)
  replace hB := (bthen hB hb10)
  have hs12 := hb10.size
  clear hb10
  go_wp2_with fail
  refine (laws_toCardS a0 c0 x0 _ (hx0.kept hB) hn0).mono ?_
  rintro e w14 ⟨a15, c16, rfl, ho17, hb13⟩
  replace ho8 := (ho8.kept hb13)
  replace hB := (bthen hB hb13)
  have hs18 := hb13.size
  clear hb13
  replace ho17 := OD.wider (lo' := w11.heap.size) ho17 (by first | exact Nat.le_refl _ | simp) (Nat.le_refl _)
  go_wp2_with fail
  refine (impl_ValidDeck a15 c16 x0 _ (ho17.RD) hn0).mono ?_
  rintro e w20 ⟨rfl, hb19⟩
  replace ho8 := (ho8.kept hb19)
  replace ho17 := (ho17.kept hb19)
  replace hB := (bthen hB hb19)
  have hs21 := hb19.size
  clear hb19
  go_wp2_with fail
  refine (laws_toCardS a0 c0 x0 _ (hx0.kept hB) hn0).mono ?_
  rintro e w23 ⟨a24, c25, rfl, ho26, hb22⟩
  replace ho8 := (ho8.kept hb22)
  replace ho17 := (ho17.kept hb22)
  replace hB := (bthen hB hb22)
  have hs27 := hb22.size
  clear hb22
  replace ho26 := OD.wider (lo' := w20.heap.size) ho26 (by first | exact Nat.le_refl _ | simp) (Nat.le_refl _)
  go_wp2_with fail
  refine (laws_eqCardS_same a15 a24 c16 c25 x0 _ (ho17.RD) (ho26.RD) hn0).mono ?_
  rintro e w29 ⟨rfl, hb28⟩
  replace ho8 := (ho8.kept hb28)
  replace ho17 := (ho17.kept hb28)
  replace ho26 := (ho26.kept hb28)
  replace hB := (bthen hB hb28)
  have hs30 := hb28.size
  clear hb28
  go_wp2_with fail
  go_ret
  exact ⟨rfl, hB⟩

theorem lifted (os : Os) (started : os.Started) (H : Type) (enc : TypeId × Value → H) :
    ReturnsInHanded {} Try.checked os 10 .any (Rows.fnExactValidDeckSpec.pre6 enc Try.prog Try.f10 Rows.fnExactValidDeckRow.domain false) (Rows.fnExactValidDeckSpec.post enc Try.prog Try.f10 false true false false) := by
  refine returnsInHanded_of_change (C := Try.checked) own started (by kernel_rfl) Try.func10
    (ChangeSpec.witness6 (enc := enc) (C := Try.checked) false ⟨#[], #[.slice none 0 0], []⟩ 8 (by kernel_rfl) (by kernel_rfl) (by kernel_rfl) (by kernel_rfl)) ?_
  intro W base args ds gs before hval0 hW hcnd _
  have hval : ∀ (j : Nat) t v, Try.f10.params[j]? = some t → args[j]? = some v → Value.okWide Try.prog W .any base t v := hval0
  have hW' := hW
  obtain ⟨p, q, hA0, hV, rfl, hfz, hnd⟩ := hW
  have hA : DataW.TrodAll enc Try.prog W 0 (fun _ => true) true Try.f10.params.toList args.toList ds p := hA0
  rw [Try.params10] at hA hval
  obtain ⟨v0, vs0, d0, ds0, p0, q0, hargs, rfl, rfl, h0, r0⟩ := trodAll_cons hA
  obtain ⟨rfl, rfl, rfl⟩ := trodAll_nil r0
  obtain rfl : args = #[v0] := by cases args; simp_all
  obtain ⟨rfl, rfl⟩ := trodVars_none hV
  have k0 := h0
  have lt0 : ∀ x ∈ p0, x.block < W.heap.size := by obtain ⟨m, hm⟩ := k0; exact DataW.trod_lt m _ _ _ hm
  obtain ⟨a0, c0, x0, rfl, hx0, hm0⟩ := open_deck Try.underlying52 Try.underlying24 rfl rfl Try.underlying22 Try.underlying2 (by kernel_rfl) (by kernel_rfl) (by kernel_rfl) (hval 0 52 v0 rfl rfl) h0
  clear hA0 hval0
  refine (walk a0 c0 x0 W hx0 hm0).mono fun e W' ⟨he, bel⟩ => ?_
  subst he
  exact ⟨_, rfl, _, _, _, [], _, [], hW', trodAll_mk1 (shut_bool Try.underlying4 _), (trodAll_cons_mk (Below.trod laidOut (by kernel_rfl) (of_decide_eq_true (by kernel_rfl)) k0 bel lt0) trodAll_mk0), rfl, bel.frame _, fun h => by cases h⟩

theorem over : Rows.fnExactValidDeckRow.holds Try.pinned (OpenSpec.ofChange Rows.fnExactValidDeckSpec) :=
  OpenClaim.holds_of_wide 10 Try.f10 rfl rfl rfl rfl rfl rfl rfl ⟨rfl, rfl, rfl, rfl, rfl⟩ rfl rfl rfl rfl rfl (by kernel_rfl) Try.func10 (by kernel_rfl)
    (of_decide_eq_true (by kernel_rfl)) (by unfold Func.isWrapper; first | (rw [if_pos (by decide +kernel)]; kernel_rfl) | (rw [if_neg (by decide +kernel)]; exact ⟨rfl, rfl⟩))
    (fun os started H enc _ => lifted os started H enc)

/-- The statement. -/
theorem proved : Rows.FnExactValidDeckSaid := over
#print axioms proved
end Go.Proofs.Ytfegimjikmonhaa.fnExactValidDeck
