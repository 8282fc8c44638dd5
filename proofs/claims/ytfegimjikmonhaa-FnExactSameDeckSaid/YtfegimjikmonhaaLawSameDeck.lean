/- FnExactSameDeck: for all arguments the law returns true, and memory that was there is as it was. No condition. -/
import Derived.Test.YtfegimjikmonhaaRows
import Derived.Test.YtfegimjikmonhaaOpen
import Derived.Deep.RegionHeld3
import Derived.Deep.CutRange
import Derived.ShutString
import Derived.Test.YtfegimjikmonhaaDeck
namespace Go.Proofs.Ytfegimjikmonhaa.fnExactSameDeck
open Go.ChangeShapes Go.WideShapes Go.ChangeAt Go.RowKit
open Go.ChangeMaps (open_string shut_string)
set_option linter.unusedVariables false
set_option linter.unusedSimpArgs false
set_option linter.unnecessarySimpa false
set_option maxRecDepth 100000

theorem own : ownKnob Try.prog.godebug = none := by kernel_rfl
theorem laidOut : laidOutB Try.prog = true := by kernel_rfl

set_option maxHeartbeats 4000000 in
/-- The Go text returns true; memory has at most new blocks. -/
theorem walk (a0 : Option Addr) (c0 : Nat) (x0 : List (List Int)) (a1 : Option Addr) (c1 : Nat) (x1 : List (List Int)) (w : World) (hx0 : RD w a0 x0) (hm0 : x0.length ≤ maxLen) (hx1 : RD w a1 x1) (hm1 : x1.length ≤ maxLen) :
    Calls Try.prog 11 #[.slice a0 x0.length c0, .slice a1 x1.length c1] w fun e w' => e = .returned (.bool true) ∧ Below w.heap.size w w' := by
  go_enter Try.func11, Try.ntmps11
  by_cases hz1 : 1048576 < (deckSz x0 : Int)
  · go_wp2_with fail
    refine (laws_szCardS_over a0 c0 x0 (1048576) _ (hx0.kept (Below.refl _ _)) (by omega) (by omega) hm0 hz1).mono ?_
    rintro e wz ⟨rfl, hz⟩
    go_wp2_with fail
    go_ret
    exact ⟨rfl, bthen (Below.refl _ _) hz⟩
  go_wp2_with fail
  refine (laws_szCardS_ok a0 c0 x0 (1048576) _ (hx0.kept (Below.refl _ _)) (by omega) (by omega) hm0 (by omega)).mono ?_
  rintro e w1 ⟨rfl, hb2⟩
  have hB := (bthen (Below.refl _ _) hb2)
  have hs3 := hb2.size
  clear hb2
  have hn0 : deckSz x0 ≤ 1048576 := by omega
  by_cases hz2 : (1048576 - (deckSz x0 : Int)) < (deckSz x1 : Int)
  · go_wp2_with fail
    refine (laws_szCardS_over a1 c1 x1 ((1048576 - (deckSz x0 : Int))) _ (hx1.kept hB) (by omega) (by omega) hm1 hz2).mono ?_
    rintro e wz ⟨rfl, hz⟩
    go_wp2_with fail
    go_ret
    exact ⟨rfl, bthen hB hz⟩
  go_wp2_with fail
  refine (laws_szCardS_ok a1 c1 x1 ((1048576 - (deckSz x0 : Int))) _ (hx1.kept hB) (by omega) (by omega) hm1 (by omega)).mono ?_
  rintro e w4 ⟨rfl, hb5⟩
  replace hB := (bthen hB hb5)
  have hs6 := hb5.size
  clear hb5
  have hn1 : deckSz x1 ≤ 1048576 := by omega
  go_wp2_with fail
  refine (laws_toCardS a0 c0 x0 _ (hx0.kept hB) hn0).mono ?_
  rintro e w8 ⟨a9, c10, rfl, ho11, hb7⟩
  replace hB := (bthen hB hb7)
  have hs12 := hb7.size
  clear hb7
  replace ho11 := OD.wider (lo' := w4.heap.size) ho11 (by first | exact Nat.le_refl _ | simp) (Nat.le_refl _)
  go_wp2_with fail
  refine (laws_toCardS a1 c1 x1 _ (hx1.kept hB) hn1).mono ?_
  rintro e w14 ⟨a15, c16, rfl, ho17, hb13⟩
  replace ho11 := (ho11.kept hb13)
  replace hB := (bthen hB hb13)
  have hs18 := hb13.size
  clear hb13
  replace ho17 := OD.wider (lo' := w8.heap.size) ho17 (by first | exact Nat.le_refl _ | simp) (Nat.le_refl _)
  go_wp2_with fail
  refine (spec_SameDeck a9 c10 x0 a15 c16 x1 _ (ho11.RD) (ho17.RD) hn0 hn1).mono ?_
  rintro e w20 ⟨rfl, hb19⟩
  replace ho11 := (ho11.kept hb19)
  replace ho17 := (ho17.kept hb19)
  replace hB := (bthen hB hb19)
  have hs21 := hb19.size
  clear hb19
  go_wp2_with fail
  refine (laws_toCardS a0 c0 x0 _ (hx0.kept hB) hn0).mono ?_
  rintro e w23 ⟨a24, c25, rfl, ho26, hb22⟩
  replace ho11 := (ho11.kept hb22)
  replace ho17 := (ho17.kept hb22)
  replace hB := (bthen hB hb22)
  have hs27 := hb22.size
  clear hb22
  replace ho26 := OD.wider (lo' := w20.heap.size) ho26 (by first | exact Nat.le_refl _ | simp) (Nat.le_refl _)
  go_wp2_with fail
  refine (laws_toCardS a1 c1 x1 _ (hx1.kept hB) hn1).mono ?_
  rintro e w29 ⟨a30, c31, rfl, ho32, hb28⟩
  replace ho11 := (ho11.kept hb28)
  replace ho17 := (ho17.kept hb28)
  replace ho26 := (ho26.kept hb28)
  replace hB := (bthen hB hb28)
  have hs33 := hb28.size
  clear hb28
  replace ho32 := OD.wider (lo' := w23.heap.size) ho32 (by first | exact Nat.le_refl _ | simp) (Nat.le_refl _)
  go_wp2_with fail
  refine (impl_SameDeck a24 c25 x0 a30 c31 x1 _ (ho26.RD) (ho32.RD) hn0 hn1).mono ?_
  rintro e w35 ⟨rfl, hb34⟩
  replace ho11 := (ho11.kept hb34)
  replace ho17 := (ho17.kept hb34)
  replace ho26 := (ho26.kept hb34)
  replace ho32 := (ho32.kept hb34)
  replace hB := (bthen hB hb34)
  have hs36 := hb34.size
  clear hb34
  go_wp2_with fail
  refine (laws_toCardS a0 c0 x0 _ (hx0.kept hB) hn0).mono ?_
  rintro e w38 ⟨a39, c40, rfl, ho41, hb37⟩
  replace ho11 := (ho11.kept hb37)
  replace ho17 := (ho17.kept hb37)
  replace ho26 := (ho26.kept hb37)
  replace ho32 := (ho32.kept hb37)
  replace hB := (bthen hB hb37)
  have hs42 := hb37.size
  clear hb37
  replace ho41 := OD.wider (lo' := w35.heap.size) ho41 (by first | exact Nat.le_refl _ | simp) (Nat.le_refl _)
  go_wp2_with fail
  refine (laws_eqCardS_same a24 a39 c25 c40 x0 _ (ho26.RD) (ho41.RD) hn0).mono ?_
  rintro e w44 ⟨rfl, hb43⟩
  replace ho11 := (ho11.kept hb43)
  replace ho17 := (ho17.kept hb43)
  replace ho26 := (ho26.kept hb43)
  replace ho32 := (ho32.kept hb43)
  replace ho41 := (ho41.kept hb43)
  replace hB := (bthen hB hb43)
  have hs45 := hb43.size
  clear hb43
  go_wp2_with fail
  refine (laws_toCardS a1 c1 x1 _ (hx1.kept hB) hn1).mono ?_
  rintro e w47 ⟨a48, c49, rfl, ho50, hb46⟩
  replace ho11 := (ho11.kept hb46)
  replace ho17 := (ho17.kept hb46)
  replace ho26 := (ho26.kept hb46)
  replace ho32 := (ho32.kept hb46)
  replace ho41 := (ho41.kept hb46)
  replace hB := (bthen hB hb46)
  have hs51 := hb46.size
  clear hb46
  replace ho50 := OD.wider (lo' := w44.heap.size) ho50 (by first | exact Nat.le_refl _ | simp) (Nat.le_refl _)
  go_wp2_with fail
  refine (laws_eqCardS_same a30 a48 c31 c49 x1 _ (ho32.RD) (ho50.RD) hn1).mono ?_
  rintro e w53 ⟨rfl, hb52⟩
  replace ho11 := (ho11.kept hb52)
  replace ho17 := (ho17.kept hb52)
  replace ho26 := (ho26.kept hb52)
  replace ho32 := (ho32.kept hb52)
  replace ho41 := (ho41.kept hb52)
  replace ho50 := (ho50.kept hb52)
  replace hB := (bthen hB hb52)
  have hs54 := hb52.size
  clear hb52
  go_wp2_with fail
  go_ret
  exact ⟨rfl, hB⟩

theorem lifted (os : Os) (started : os.Started) (H : Type) (enc : TypeId × Value → H) :
    ReturnsInHanded {} Try.checked os 11 .any (Rows.fnExactSameDeckSpec.pre6 enc Try.prog Try.f11 Rows.fnExactSameDeckRow.domain false) (Rows.fnExactSameDeckSpec.post enc Try.prog Try.f11 false true false false) := by
  refine returnsInHanded_of_change (C := Try.checked) own started (by kernel_rfl) Try.func11
    (ChangeSpec.witness6 (enc := enc) (C := Try.checked) false ⟨#[], #[.slice none 0 0, .slice none 0 0], []⟩ 8 (by kernel_rfl) (by kernel_rfl) (by kernel_rfl) (by kernel_rfl)) ?_
  intro W base args ds gs before hval0 hW hcnd _
  have hval : ∀ (j : Nat) t v, Try.f11.params[j]? = some t → args[j]? = some v → Value.okWide Try.prog W .any base t v := hval0
  have hW' := hW
  obtain ⟨p, q, hA0, hV, rfl, hfz, hnd⟩ := hW
  have hA : DataW.TrodAll enc Try.prog W 0 (fun _ => true) true Try.f11.params.toList args.toList ds p := hA0
  rw [Try.params11] at hA hval
  obtain ⟨v0, vs0, d0, ds0, p0, q0, hargs, rfl, rfl, h0, r0⟩ := trodAll_cons hA
  obtain ⟨v1, vs1, d1, ds1, p1, q1, rfl, rfl, rfl, h1, r1⟩ := trodAll_cons r0
  obtain ⟨rfl, rfl, rfl⟩ := trodAll_nil r1
  obtain rfl : args = #[v0, v1] := by cases args; simp_all
  obtain ⟨rfl, rfl⟩ := trodVars_none hV
  have k0 := h0
  have lt0 : ∀ x ∈ p0, x.block < W.heap.size := by obtain ⟨m, hm⟩ := k0; exact DataW.trod_lt m _ _ _ hm
  obtain ⟨a0, c0, x0, rfl, hx0, hm0⟩ := open_deck Try.underlying52 Try.underlying24 rfl rfl Try.underlying22 Try.underlying2 (by kernel_rfl) (by kernel_rfl) (by kernel_rfl) (hval 0 52 v0 rfl rfl) h0
  have k1 := h1
  have lt1 : ∀ x ∈ p1, x.block < W.heap.size := by obtain ⟨m, hm⟩ := k1; exact DataW.trod_lt m _ _ _ hm
  obtain ⟨a1, c1, x1, rfl, hx1, hm1⟩ := open_deck Try.underlying52 Try.underlying24 rfl rfl Try.underlying22 Try.underlying2 (by kernel_rfl) (by kernel_rfl) (by kernel_rfl) (hval 1 52 v1 rfl rfl) h1
  clear hA0 hval0
  refine (walk a0 c0 x0 a1 c1 x1 W hx0 hm0 hx1 hm1).mono fun e W' ⟨he, bel⟩ => ?_
  subst he
  exact ⟨_, rfl, _, _, _, [], _, [], hW', trodAll_mk1 (shut_bool Try.underlying4 _), (trodAll_cons_mk (Below.trod laidOut (by kernel_rfl) (of_decide_eq_true (by kernel_rfl)) k0 bel lt0) (trodAll_cons_mk (Below.trod laidOut (by kernel_rfl) (of_decide_eq_true (by kernel_rfl)) k1 bel lt1) trodAll_mk0)), rfl, bel.frame _, fun h => by cases h⟩

theorem over : Rows.fnExactSameDeckRow.holds Try.pinned (OpenSpec.ofChange Rows.fnExactSameDeckSpec) :=
  OpenClaim.holds_of_wide 11 Try.f11 rfl rfl rfl rfl rfl rfl rfl ⟨rfl, rfl, rfl, rfl, rfl⟩ rfl rfl rfl rfl rfl (by kernel_rfl) Try.func11 (by kernel_rfl)
    (of_decide_eq_true (by kernel_rfl)) (by unfold Func.isWrapper; first | (rw [if_pos (by decide +kernel)]; kernel_rfl) | (rw [if_neg (by decide +kernel)]; exact ⟨rfl, rfl⟩))
    (fun os started H enc _ => lifted os started H enc)

/-- The statement. -/
theorem proved : Rows.FnExactSameDeckSaid := over
#print axioms proved
end Go.Proofs.Ytfegimjikmonhaa.fnExactSameDeck
