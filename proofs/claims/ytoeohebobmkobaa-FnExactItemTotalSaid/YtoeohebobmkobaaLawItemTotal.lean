/- FnExactItemTotal: for all arguments the law returns true, and memory that was there is as it was. No condition. -/
import Derived.Test.YtoeohebobmkobaaRows
import Derived.Test.YtoeohebobmkobaaOpen
import Derived.Deep.RegionHeld3
import Derived.Deep.CutRange
import Derived.ShutString
import Derived.Test.YtoeohebobmkobaaTotS
namespace Go.Proofs.Ytoeohebobmkobaa.fnExactItemTotal
open Go.ChangeShapes Go.WideShapes Go.ChangeAt Go.RowKit
open Go.ChangeMaps (open_string shut_string)
set_option linter.unusedVariables false
set_option linter.unusedSimpArgs false
set_option linter.unnecessarySimpa false
set_option maxRecDepth 100000

theorem own : ownKnob Try.prog.godebug = none := by kernel_rfl
theorem laidOut : laidOutB Try.prog = true := by kernel_rfl

set_option maxHeartbeats 4000000 in
/-- The Go text returns true; memory has at most new blocks. -/
theorem walk (d0 : Int) (a0 : Option Addr) (c0 : Nat) (x0 : List Itm) (a1 : Option Addr) (c1 : Nat) (x1 : List (List Int)) (s2 : ByteArray) (w : World) (hx0 : RT w a0 x0) (hm0 : x0.length ≤ maxLen ∧ ∀ y ∈ x0, y.name.size ≤ maxLen) (hx1 : RD w a1 x1) (hm1 : x1.length ≤ maxLen) (hm2 : s2.size ≤ maxLen) :
    Calls Try.prog 7 #[.agg #[.int .i64 d0, .slice a0 x0.length c0], .slice a1 x1.length c1, .string s2] w fun e w' => e = .returned (.bool true) ∧ Below w.heap.size w w' := by
  by_cases hn2 : 1048576 < s2.size
  · go_enter Try.func7, Try.ntmps7
    go_wp2_with fail
    go_ret
    exact ⟨rfl, by repeat (first | exact Below.refl _ _ | exact below_alloc _ | exact below_alloc2 _ _ _ | exact below_alloc3 _ _ _ _)⟩
  replace hn2 : s2.size ≤ 1048576 := by omega
  go_enter Try.func7, Try.ntmps7
  by_cases hz1 : 1048576 < (itemsSz x0 : Int)
  · go_wp2_with fail
    refine (laws_szLayout_over d0 a0 c0 x0 (1048576) _ (hx0.kept (below_alloc _)) (by omega) (by omega) hm0 hz1).mono ?_
    rintro e wz ⟨rfl, hz⟩
    go_wp2_with fail
    go_ret
    exact ⟨rfl, bthen (below_alloc _) hz⟩
  go_wp2_with fail
  refine (laws_szLayout_ok d0 a0 c0 x0 (1048576) _ (hx0.kept (below_alloc _)) (by omega) (by omega) hm0 (by omega)).mono ?_
  rintro e w1 ⟨rfl, hb2⟩
  have hc3_0 : w1.cell? ⟨w.heap.size, 0, none⟩ = some (.int .i64 d0) := (keep hb2 (by simp [go_sem]))
  have hc3_1 : w1.cell? ⟨w.heap.size, 1, none⟩ = some (.slice a0 x0.length c0) := (keep hb2 (by simp [go_sem]))
  have hB := (bthen (below_alloc _) hb2)
  have hs4 := hb2.size
  simp only [World.size_alloc] at hs4
  have hc3_l : w.heap.size < w1.heap.size := World.block_lt_of_cell? _ _ hc3_0
  clear hb2
  have hn0 : itemsSz x0 ≤ 1048576 := by omega
  by_cases hz2 : (1048576 - (itemsSz x0 : Int)) < (deckSz x1 : Int)
  · go_wp2_with fail
    refine (laws_szCardS_over a1 c1 x1 ((1048576 - (itemsSz x0 : Int))) _ (hx1.kept hB) (by omega) (by omega) hm1 hz2).mono ?_
    rintro e wz ⟨rfl, hz⟩
    go_wp2_with fail
    go_ret
    exact ⟨rfl, bthen hB hz⟩
  go_wp2_with fail
  refine (laws_szCardS_ok a1 c1 x1 ((1048576 - (itemsSz x0 : Int))) _ (hx1.kept hB) (by omega) (by omega) hm1 (by omega)).mono ?_
  rintro e w5 ⟨rfl, hb6⟩
  replace hc3_0 := (keep hb6 hc3_0)
  replace hc3_1 := (keep hb6 hc3_1)
  replace hB := (bthen hB hb6)
  have hs7 := hb6.size
  replace hc3_l : w.heap.size < w5.heap.size := World.block_lt_of_cell? _ _ hc3_0
  clear hb6
  have hn1 : deckSz x1 ≤ 1048576 := by omega
  go_wp2_with fail
  refine (laws_toLayout d0 a0 c0 x0 _ (hx0.kept hB) hn0).mono ?_
  rintro e w9 ⟨a10, c11, rfl, ho12, hb8⟩
  replace hc3_0 := (keep hb8 hc3_0)
  replace hc3_1 := (keep hb8 hc3_1)
  replace hB := (bthen hB hb8)
  have hs13 := hb8.size
  replace hc3_l : w.heap.size < w9.heap.size := World.block_lt_of_cell? _ _ hc3_0
  clear hb8
  replace ho12 := OT.of (own_mono (B := w5.heap.size) ho12 (by first | exact Nat.le_refl _ | simp))
  go_wp2_with fail
  refine (laws_toCardS a1 c1 x1 _ (hx1.kept hB) hn1).mono ?_
  rintro e w15 ⟨a16, c17, rfl, ho18, hb14⟩
  replace hc3_0 := (keep hb14 hc3_0)
  replace hc3_1 := (keep hb14 hc3_1)
  replace ho12 := (ho12.kept hb14)
  replace hB := (bthen hB hb14)
  have hs19 := hb14.size
  replace hc3_l : w.heap.size < w15.heap.size := World.block_lt_of_cell? _ _ hc3_0
  clear hb14
  replace ho18 := OD.wider (lo' := w9.heap.size) ho18 (by first | exact Nat.le_refl _ | simp) (Nat.le_refl _)
  go_wp2_with fail
  refine (spec_ItemTotal d0 a10 c11 x0 a16 c17 x1 s2 _ (ho12.RT) (ho18.RD) hn0 (OT.capm ho12).1 hn1 hn2).mono ?_
  rintro e w21 ⟨rfl, hb20⟩
  replace hc3_0 := (keep hb20 hc3_0)
  replace hc3_1 := (keep hb20 hc3_1)
  replace ho12 := (ho12.kept hb20)
  replace ho18 := (ho18.kept hb20)
  replace hB := (bthen hB hb20)
  have hs22 := hb20.size
  replace hc3_l : w.heap.size < w21.heap.size := World.block_lt_of_cell? _ _ hc3_0
  clear hb20
  go_wp2_with fail
  refine (laws_toLayout d0 a0 c0 x0 _ (hx0.kept hB) hn0).mono ?_
  rintro e w24 ⟨a25, c26, rfl, ho27, hb23⟩
  replace hc3_0 := (keep hb23 hc3_0)
  replace hc3_1 := (keep hb23 hc3_1)
  replace ho12 := (ho12.kept hb23)
  replace ho18 := (ho18.kept hb23)
  replace hB := (bthen hB hb23)
  have hs28 := hb23.size
  replace hc3_l : w.heap.size < w24.heap.size := World.block_lt_of_cell? _ _ hc3_0
  clear hb23
  replace ho27 := OT.of (own_mono (B := w21.heap.size) ho27 (by first | exact Nat.le_refl _ | simp))
  go_wp2_with fail
  refine (laws_toCardS a1 c1 x1 _ (hx1.kept (bthen hB (below_alloc _))) hn1).mono ?_
  rintro e w30 ⟨a31, c32, rfl, ho33, hb29⟩
  replace hc3_0 := (keep hb29 (keep (below_alloc _) hc3_0))
  replace hc3_1 := (keep hb29 (keep (below_alloc _) hc3_1))
  have hc34_0 : w30.cell? ⟨w24.heap.size, 0, none⟩ = some (.int .i64 d0) := (keep hb29 (by simp [go_sem]))
  have hc34_1 : w30.cell? ⟨w24.heap.size, 1, none⟩ = some (.slice a25 x0.length c26) := (keep hb29 (by simp [go_sem]))
  replace ho12 := ((ho12.kept (below_alloc _)).kept hb29)
  replace ho18 := ((ho18.kept (below_alloc _)).kept hb29)
  replace ho27 := ((ho27.kept (below_alloc _)).kept hb29)
  replace hB := (bthen (bthen hB (below_alloc _)) hb29)
  have hs35 := hb29.size
  simp only [World.size_alloc] at hs35
  replace hc3_l : w.heap.size < w30.heap.size := World.block_lt_of_cell? _ _ hc3_0
  have hc34_l : w24.heap.size < w30.heap.size := World.block_lt_of_cell? _ _ hc34_0
  clear hb29
  replace ho33 := OD.wider (lo' := w24.heap.size + 1) ho33 (by first | exact Nat.le_refl _ | simp) (Nat.le_refl _)
  go_wp2_with fail
  refine (impl_ItemTotal d0 a25 c26 x0 a31 c32 x1 s2 _ (ho27.RT) (ho33.RD) hn0 (OT.capm ho27).1 hn1 hn2).mono ?_
  rintro e w37 ⟨rfl, hb36⟩
  replace hc3_0 := (keep hb36 hc3_0)
  replace hc3_1 := (keep hb36 hc3_1)
  replace hc34_0 := (keep hb36 hc34_0)
  replace hc34_1 := (keep hb36 hc34_1)
  replace ho12 := (ho12.kept hb36)
  replace ho18 := (ho18.kept hb36)
  replace ho27 := (ho27.kept hb36)
  replace ho33 := (ho33.kept hb36)
  replace hB := (bthen hB hb36)
  have hs38 := hb36.size
  replace hc3_l : w.heap.size < w37.heap.size := World.block_lt_of_cell? _ _ hc3_0
  replace hc34_l : w24.heap.size < w37.heap.size := World.block_lt_of_cell? _ _ hc34_0
  clear hb36
  go_wp2_with fail
  go_region_held3 (fun W => Below w37.heap.size w37 W ∧ W.cell? ⟨w24.heap.size, 0, none⟩ = some (.int .i64 d0) ∧ W.cell? ⟨w24.heap.size, 1, none⟩ = some (.slice a25 x0.length c26) ∧ W.cell? ⟨w.heap.size, 0, none⟩ = some (.int .i64 d0) ∧ W.cell? ⟨w.heap.size, 1, none⟩ = some (.slice a0 x0.length c0)) (first | exact held4 (below_drewN (Below.refl _ _) 1) hc34_0 hc34_1 hc3_0 hc3_1 | (rename Below w37.heap.size w37 _ ∧ _ => hH; refine held4 ?_ hc34_0 hc34_1 hc3_0 hc3_1; (refine bthen hH.1 ?_; assumption))) (first | (go_at_call 31; ((with_reducible refine (laws_toLayout d0 a0 c0 x0 _ (hx0.kept (bthen hB (And.left ‹Below w37.heap.size w37 _ ∧ _›))) hn0).mono ?_); rintro e w40 ⟨a41, c42, rfl, ho43, hb39⟩)) | (go_at_call 34; ((with_reducible refine (laws_eqLayout_same d0 a25 a41 c26 c42 x0 _ ((ho27.RT).kept (And.left ‹Below w37.heap.size w37 _ ∧ _›)) (((OT.of ho43).RT)) hn0).mono ?_); rintro e w45 ⟨rfl, hb44⟩)))
  replace hc3_0 := (keep hb44 (keep hb39 (keep (below_drewN (Below.refl _ _) 1) hc3_0)))
  replace hc3_1 := (keep hb44 (keep hb39 (keep (below_drewN (Below.refl _ _) 1) hc3_1)))
  replace hc34_0 := (keep hb44 (keep hb39 (keep (below_drewN (Below.refl _ _) 1) hc34_0)))
  replace hc34_1 := (keep hb44 (keep hb39 (keep (below_drewN (Below.refl _ _) 1) hc34_1)))
  replace ho12 := (((ho12.kept (below_drewN (Below.refl _ _) 1)).kept hb39).kept hb44)
  replace ho18 := (((ho18.kept (below_drewN (Below.refl _ _) 1)).kept hb39).kept hb44)
  replace ho27 := (((ho27.kept (below_drewN (Below.refl _ _) 1)).kept hb39).kept hb44)
  replace ho33 := (((ho33.kept (below_drewN (Below.refl _ _) 1)).kept hb39).kept hb44)
  replace hB := (bthen (bthen (bthen hB (below_drewN (Below.refl _ _) 1)) hb39) hb44)
  have hs46 := hb39.size
  simp only [World.size_drew] at hs46
  have hs47 := hb44.size
  replace hc3_l : w.heap.size < w45.heap.size := World.block_lt_of_cell? _ _ hc3_0
  replace hc34_l : w24.heap.size < w45.heap.size := World.block_lt_of_cell? _ _ hc34_0
  clear ho43
  clear hb39 hb44
  go_wp2_with fail
  refine (laws_toCardS a1 c1 x1 _ (hx1.kept hB) hn1).mono ?_
  rintro e w49 ⟨a50, c51, rfl, ho52, hb48⟩
  replace hc3_0 := (keep hb48 hc3_0)
  replace hc3_1 := (keep hb48 hc3_1)
  replace hc34_0 := (keep hb48 hc34_0)
  replace hc34_1 := (keep hb48 hc34_1)
  replace ho12 := (ho12.kept hb48)
  replace ho18 := (ho18.kept hb48)
  replace ho27 := (ho27.kept hb48)
  replace ho33 := (ho33.kept hb48)
  replace hB := (bthen hB hb48)
  have hs53 := hb48.size
  replace hc3_l : w.heap.size < w49.heap.size := World.block_lt_of_cell? _ _ hc3_0
  replace hc34_l : w24.heap.size < w49.heap.size := World.block_lt_of_cell? _ _ hc34_0
  clear hb48
  replace ho52 := OD.wider (lo' := w45.heap.size) ho52 (by first | exact Nat.le_refl _ | simp) (Nat.le_refl _)
  go_wp2_with fail
  refine (laws_eqCardS_same a31 a50 c32 c51 x1 _ (ho33.RD) (ho52.RD) hn1).mono ?_
  rintro e w55 ⟨rfl, hb54⟩
  replace hc3_0 := (keep hb54 hc3_0)
  replace hc3_1 := (keep hb54 hc3_1)
  replace hc34_0 := (keep hb54 hc34_0)
  replace hc34_1 := (keep hb54 hc34_1)
  replace ho12 := (ho12.kept hb54)
  replace ho18 := (ho18.kept hb54)
  replace ho27 := (ho27.kept hb54)
  replace ho33 := (ho33.kept hb54)
  replace ho52 := (ho52.kept hb54)
  replace hB := (bthen hB hb54)
  have hs56 := hb54.size
  replace hc3_l : w.heap.size < w55.heap.size := World.block_lt_of_cell? _ _ hc3_0
  replace hc34_l : w24.heap.size < w55.heap.size := World.block_lt_of_cell? _ _ hc34_0
  clear hb54
  go_wp2_with fail
  go_ret
  exact ⟨rfl, hB⟩

theorem lifted (os : Os) (started : os.Started) (H : Type) (enc : TypeId × Value → H) :
    ReturnsInHanded {} Try.checked os 7 .any (Rows.fnExactItemTotalSpec.pre6 enc Try.prog Try.f7 Rows.fnExactItemTotalRow.domain false) (Rows.fnExactItemTotalSpec.post enc Try.prog Try.f7 false true false false) := by
  refine returnsInHanded_of_change (C := Try.checked) own started (by kernel_rfl) Try.func7
    (ChangeSpec.witness6 (enc := enc) (C := Try.checked) false ⟨#[], #[.agg #[.int .i64 0, .slice none 0 0], .slice none 0 0, .string ByteArray.empty], []⟩ 8 (by kernel_rfl) (by kernel_rfl) (by kernel_rfl) (by kernel_rfl)) ?_
  intro W base args ds gs before hval0 hW hcnd _
  have hval : ∀ (j : Nat) t v, Try.f7.params[j]? = some t → args[j]? = some v → Value.okWide Try.prog W .any base t v := hval0
  have hW' := hW
  obtain ⟨p, q, hA0, hV, rfl, hfz, hnd⟩ := hW
  have hA : DataW.TrodAll enc Try.prog W 0 (fun _ => true) true Try.f7.params.toList args.toList ds p := hA0
  rw [Try.params7] at hA hval
  obtain ⟨v0, vs0, d0, ds0, p0, q0, hargs, rfl, rfl, h0, r0⟩ := trodAll_cons hA
  obtain ⟨v1, vs1, d1, ds1, p1, q1, rfl, rfl, rfl, h1, r1⟩ := trodAll_cons r0
  obtain ⟨v2, vs2, d2, ds2, p2, q2, rfl, rfl, rfl, h2, r2⟩ := trodAll_cons r1
  obtain ⟨rfl, rfl, rfl⟩ := trodAll_nil r2
  obtain rfl : args = #[v0, v1, v2] := by cases args; simp_all
  obtain ⟨rfl, rfl⟩ := trodVars_none hV
  have k0 := h0
  have lt0 : ∀ x ∈ p0, x.block < W.heap.size := by obtain ⟨m, hm⟩ := k0; exact DataW.trod_lt m _ _ _ hm
  obtain ⟨d0, a0, c0, x0, rfl, hx0, hm0⟩ := open_layout Try.underlying51 rfl rfl rfl rfl Try.underlying49 Try.underlying106 rfl rfl rfl rfl rfl rfl Try.underlying104 rfl rfl rfl rfl Try.underlying9 Try.underlying2 (by kernel_rfl) (by kernel_rfl) (by kernel_rfl) (by kernel_rfl) (by kernel_rfl) (by kernel_rfl) (hval 0 51 v0 rfl rfl) h0
  have k1 := h1
  have lt1 : ∀ x ∈ p1, x.block < W.heap.size := by obtain ⟨m, hm⟩ := k1; exact DataW.trod_lt m _ _ _ hm
  obtain ⟨a1, c1, x1, rfl, hx1, hm1⟩ := open_deck Try.underlying52 Try.underlying24 rfl rfl Try.underlying22 Try.underlying2 (by kernel_rfl) (by kernel_rfl) (by kernel_rfl) (hval 1 52 v1 rfl rfl) h1
  obtain ⟨s2, rfl, rfl, rfl, z2⟩ := open_string Try.underlying9 (hval 2 9 v2 rfl rfl) h2
  clear hA0 hval0
  refine (walk d0 a0 c0 x0 a1 c1 x1 s2 W hx0 hm0 hx1 hm1 z2).mono fun e W' ⟨he, bel⟩ => ?_
  subst he
  exact ⟨_, rfl, _, _, _, [], _, [], hW', trodAll_mk1 (shut_bool Try.underlying4 _), (trodAll_cons_mk (Below.trod laidOut (by kernel_rfl) (of_decide_eq_true (by kernel_rfl)) k0 bel lt0) (trodAll_cons_mk (Below.trod laidOut (by kernel_rfl) (of_decide_eq_true (by kernel_rfl)) k1 bel lt1) (trodAll_cons_mk (shut_string Try.underlying9 z2) trodAll_mk0))), rfl, bel.frame _, fun h => by cases h⟩

theorem over : Rows.fnExactItemTotalRow.holds Try.pinned (OpenSpec.ofChange Rows.fnExactItemTotalSpec) :=
  OpenClaim.holds_of_wide 7 Try.f7 rfl rfl rfl rfl rfl rfl rfl ⟨rfl, rfl, rfl, rfl, rfl⟩ rfl rfl rfl rfl rfl (by kernel_rfl) Try.func7 (by kernel_rfl)
    (of_decide_eq_true (by kernel_rfl)) (by unfold Func.isWrapper; first | (rw [if_pos (by decide +kernel)]; kernel_rfl) | (rw [if_neg (by decide +kernel)]; exact ⟨rfl, rfl⟩))
    (fun os started H enc _ => lifted os started H enc)

/-- The statement. -/
theorem proved : Rows.FnExactItemTotalSaid := over
#print axioms proved
end Go.Proofs.Ytoeohebobmkobaa.fnExactItemTotal
