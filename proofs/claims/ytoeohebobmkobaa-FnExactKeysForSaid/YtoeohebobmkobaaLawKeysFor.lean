/- FnExactKeysFor: for all arguments the law returns true, and memory that was there is as it was. No condition. -/
import Derived.Test.YtoeohebobmkobaaRows
import Derived.Test.YtoeohebobmkobaaOpen
import Derived.Deep.RegionHeld3
import Derived.Deep.CutRange
import Derived.ShutString
import Derived.Test.YtoeohebobmkobaaKf
namespace Go.Proofs.Ytoeohebobmkobaa.fnExactKeysFor
open Go.ChangeShapes Go.WideShapes Go.ChangeAt Go.RowKit
open Go.ChangeMaps (open_string shut_string)
set_option linter.unusedVariables false
set_option linter.unusedSimpArgs false
set_option linter.unnecessarySimpa false
set_option maxRecDepth 100000

theorem own : ownKnob Try.prog.godebug = none := by kernel_rfl
theorem laidOut : laidOutB Try.prog = true := by kernel_rfl

set_option maxHeartbeats 4000000 in
/-- The Go text returns true; memory has at most new blocks. -/
theorem walk (s0 : ByteArray) (a1 : Option Addr) (c1 : Nat) (x1 : List Int) (a2 : Option Addr) (c2 : Nat) (x2 : List Int) (w : World) (hm0 : s0.size ≤ maxLen) (hx1 : RI w a1 x1) (hm1 : x1.length ≤ maxLen) (hx2 : RI w a2 x2) (hm2 : x2.length ≤ maxLen) :
    Calls Try.prog 3 #[.string s0, .agg #[.slice a1 x1.length c1], .agg #[.slice a2 x2.length c2]] w fun e w' => e = .returned (.bool true) ∧ Below w.heap.size w w' := by
  by_cases hn0 : 1048576 < s0.size
  · go_enter Try.func3, Try.ntmps3
    go_wp2_with fail
    go_ret
    exact ⟨rfl, by repeat (first | exact Below.refl _ _ | exact below_alloc _ | exact below_alloc2 _ _ _ | exact below_alloc3 _ _ _ _)⟩
  replace hn0 : s0.size ≤ 1048576 := by omega
  go_enter Try.func3, Try.ntmps3
  by_cases hz1 : 1048576 < (x1.length : Int)
  · go_wp2_with fail
    refine (laws_szCard_over a1 c1 x1 (1048576) _ (hx1.kept (below_alloc2 _ _ _)) (by omega) (by omega) hm1 hz1).mono ?_
    rintro e wz ⟨rfl, hz⟩
    go_wp2_with fail
    go_ret
    exact ⟨rfl, bthen (below_alloc2 _ _ _) hz⟩
  go_wp2_with fail
  refine (laws_szCard_ok a1 c1 x1 (1048576) _ (hx1.kept (below_alloc2 _ _ _)) (by omega) (by omega) hm1 (by omega)).mono ?_
  rintro e w1 ⟨rfl, hb2⟩
  have hc3_0 : w1.cell? ⟨w.heap.size, 0, none⟩ = some (.slice a1 x1.length c1) := (keep hb2 (by simp [go_sem]))
  have hc4_0 : w1.cell? ⟨w.heap.size + 1, 0, none⟩ = some (.slice a2 x2.length c2) := (keep hb2 (by simp [go_sem]))
  have hB := (bthen (below_alloc2 _ _ _) hb2)
  have hs5 := hb2.size
  simp only [World.size_alloc] at hs5
  have hc3_l : w.heap.size < w1.heap.size := World.block_lt_of_cell? _ _ hc3_0
  have hc4_l : w.heap.size + 1 < w1.heap.size := World.block_lt_of_cell? _ _ hc4_0
  clear hb2
  have hn1 : x1.length ≤ 1048576 := by omega
  by_cases hz2 : (1048576 - (x1.length : Int)) < (x2.length : Int)
  · go_wp2_with fail
    refine (laws_szCard_over a2 c2 x2 ((1048576 - (x1.length : Int))) _ (hx2.kept hB) (by omega) (by omega) hm2 hz2).mono ?_
    rintro e wz ⟨rfl, hz⟩
    go_wp2_with fail
    go_ret
    exact ⟨rfl, bthen hB hz⟩
  go_wp2_with fail
  refine (laws_szCard_ok a2 c2 x2 ((1048576 - (x1.length : Int))) _ (hx2.kept hB) (by omega) (by omega) hm2 (by omega)).mono ?_
  rintro e w6 ⟨rfl, hb7⟩
  replace hc3_0 := (keep hb7 hc3_0)
  replace hc4_0 := (keep hb7 hc4_0)
  replace hB := (bthen hB hb7)
  have hs8 := hb7.size
  replace hc3_l : w.heap.size < w6.heap.size := World.block_lt_of_cell? _ _ hc3_0
  replace hc4_l : w.heap.size + 1 < w6.heap.size := World.block_lt_of_cell? _ _ hc4_0
  clear hb7
  have hn2 : x2.length ≤ 1048576 := by omega
  go_wp2_with fail
  go_region_held3 (fun W => Below w6.heap.size w6 W ∧ W.cell? ⟨w.heap.size, 0, none⟩ = some (.slice a1 x1.length c1) ∧ W.cell? ⟨w.heap.size + 1, 0, none⟩ = some (.slice a2 x2.length c2)) (first | exact held2 (below_drewN (Below.refl _ _) 1) hc3_0 hc4_0 | (rename Below w6.heap.size w6 _ ∧ _ => hH; refine held2 ?_ hc3_0 hc4_0; (refine bthen hH.1 ?_; assumption))) (first | (go_at_call 10; ((with_reducible refine (laws_toCard a1 c1 x1 _ (hx1.kept (bthen hB (And.left ‹Below w6.heap.size w6 _ ∧ _›))) hn1).mono ?_); rintro e w10 ⟨a11, c12, rfl, ho13, hb9⟩)) | (go_at_call 10; ((with_reducible refine (laws_toCard a2 c2 x2 _ (hx2.kept (bthen hB (And.left ‹Below w6.heap.size w6 _ ∧ _›))) hn2).mono ?_); rintro e w15 ⟨a16, c17, rfl, ho18, hb14⟩)) | (go_at_call 9; ((with_reducible refine (spec_KeysFor s0 a11 c12 x1 a16 c17 x2 _ ((((OI.of ho13).RI).kept hb14)) (((OI.of ho18).RI)) hn0 hn1 hn2).mono ?_); rintro e w20 ⟨rfl, hb19⟩)))
  replace hc3_0 := (keep hb19 (keep hb14 (keep hb9 (keep (below_drewN (Below.refl _ _) 1) hc3_0))))
  replace hc4_0 := (keep hb19 (keep hb14 (keep hb9 (keep (below_drewN (Below.refl _ _) 1) hc4_0))))
  replace hB := (bthen (bthen (bthen (bthen hB (below_drewN (Below.refl _ _) 1)) hb9) hb14) hb19)
  have hs21 := hb9.size
  simp only [World.size_drew] at hs21
  have hs22 := hb14.size
  have hs23 := hb19.size
  replace hc3_l : w.heap.size < w20.heap.size := World.block_lt_of_cell? _ _ hc3_0
  replace hc4_l : w.heap.size + 1 < w20.heap.size := World.block_lt_of_cell? _ _ hc4_0
  clear ho13
  clear ho18
  clear hb9 hb14 hb19
  go_wp2_with fail
  refine (laws_toCard a1 c1 x1 _ (hx1.kept hB) hn1).mono ?_
  rintro e w25 ⟨a26, c27, rfl, ho28, hb24⟩
  replace hc3_0 := (keep hb24 hc3_0)
  replace hc4_0 := (keep hb24 hc4_0)
  replace hB := (bthen hB hb24)
  have hs29 := hb24.size
  replace hc3_l : w.heap.size < w25.heap.size := World.block_lt_of_cell? _ _ hc3_0
  replace hc4_l : w.heap.size + 1 < w25.heap.size := World.block_lt_of_cell? _ _ hc4_0
  clear hb24
  replace ho28 := OI.of (own_mono (B := w20.heap.size) ho28 (by first | exact Nat.le_refl _ | simp))
  go_wp2_with fail
  refine (laws_toCard a2 c2 x2 _ (hx2.kept (bthen hB (below_alloc _))) hn2).mono ?_
  rintro e w31 ⟨a32, c33, rfl, ho34, hb30⟩
  replace hc3_0 := (keep hb30 (keep (below_alloc _) hc3_0))
  replace hc4_0 := (keep hb30 (keep (below_alloc _) hc4_0))
  have hc35_0 : w31.cell? ⟨w25.heap.size, 0, none⟩ = some (.slice a26 x1.length c27) := (keep hb30 (by simp [go_sem]))
  replace ho28 := ((ho28.kept (below_alloc _)).kept hb30)
  replace hB := (bthen (bthen hB (below_alloc _)) hb30)
  have hs36 := hb30.size
  simp only [World.size_alloc] at hs36
  replace hc3_l : w.heap.size < w31.heap.size := World.block_lt_of_cell? _ _ hc3_0
  replace hc4_l : w.heap.size + 1 < w31.heap.size := World.block_lt_of_cell? _ _ hc4_0
  have hc35_l : w25.heap.size < w31.heap.size := World.block_lt_of_cell? _ _ hc35_0
  clear hb30
  replace ho34 := OI.of (own_mono (B := w25.heap.size + 1) ho34 (by first | exact Nat.le_refl _ | simp))
  go_wp2_with fail
  refine (impl_KeysFor s0 a26 c27 x1 a32 c33 x2 _ ((ho28.RI).kept (below_alloc _)) ((ho34.RI).kept (below_alloc _)) hn0 hn1 hn2).mono ?_
  rintro e w38 ⟨rfl, hb37⟩
  replace hc3_0 := (keep hb37 (keep (below_alloc _) hc3_0))
  replace hc4_0 := (keep hb37 (keep (below_alloc _) hc4_0))
  replace hc35_0 := (keep hb37 (keep (below_alloc _) hc35_0))
  have hc39_0 : w38.cell? ⟨w31.heap.size, 0, none⟩ = some (.slice a32 x2.length c33) := (keep hb37 (by simp [go_sem]))
  replace ho28 := ((ho28.kept (below_alloc _)).kept hb37)
  replace ho34 := ((ho34.kept (below_alloc _)).kept hb37)
  replace hB := (bthen (bthen hB (below_alloc _)) hb37)
  have hs40 := hb37.size
  simp only [World.size_alloc] at hs40
  replace hc3_l : w.heap.size < w38.heap.size := World.block_lt_of_cell? _ _ hc3_0
  replace hc4_l : w.heap.size + 1 < w38.heap.size := World.block_lt_of_cell? _ _ hc4_0
  replace hc35_l : w25.heap.size < w38.heap.size := World.block_lt_of_cell? _ _ hc35_0
  have hc39_l : w31.heap.size < w38.heap.size := World.block_lt_of_cell? _ _ hc39_0
  clear hb37
  go_wp2_with fail
  go_region_held3 (fun W => Below w38.heap.size w38 W ∧ W.cell? ⟨w25.heap.size, 0, none⟩ = some (.slice a26 x1.length c27) ∧ W.cell? ⟨w.heap.size, 0, none⟩ = some (.slice a1 x1.length c1)) (first | exact held2 (below_drewN (Below.refl _ _) 1) hc35_0 hc3_0 | (rename Below w38.heap.size w38 _ ∧ _ => hH; refine held2 ?_ hc35_0 hc3_0; (refine bthen hH.1 ?_; assumption))) (first | (go_at_call 10; ((with_reducible refine (laws_toCard a1 c1 x1 _ (hx1.kept (bthen hB (And.left ‹Below w38.heap.size w38 _ ∧ _›))) hn1).mono ?_); rintro e w42 ⟨a43, c44, rfl, ho45, hb41⟩)) | (go_at_call 12; ((with_reducible refine (laws_eqCard_same a26 a43 c27 c44 x1 _ ((ho28.RI).kept (And.left ‹Below w38.heap.size w38 _ ∧ _›)) (((OI.of ho45).RI)) (small hn1)).mono ?_); rintro e w47 ⟨rfl, hb46⟩)))
  replace hc3_0 := (keep hb46 (keep hb41 (keep (below_drewN (Below.refl _ _) 1) hc3_0)))
  replace hc4_0 := (keep hb46 (keep hb41 (keep (below_drewN (Below.refl _ _) 1) hc4_0)))
  replace hc35_0 := (keep hb46 (keep hb41 (keep (below_drewN (Below.refl _ _) 1) hc35_0)))
  replace hc39_0 := (keep hb46 (keep hb41 (keep (below_drewN (Below.refl _ _) 1) hc39_0)))
  replace ho28 := (((ho28.kept (below_drewN (Below.refl _ _) 1)).kept hb41).kept hb46)
  replace ho34 := (((ho34.kept (below_drewN (Below.refl _ _) 1)).kept hb41).kept hb46)
  replace hB := (bthen (bthen (bthen hB (below_drewN (Below.refl _ _) 1)) hb41) hb46)
  have hs48 := hb41.size
  simp only [World.size_drew] at hs48
  have hs49 := hb46.size
  replace hc3_l : w.heap.size < w47.heap.size := World.block_lt_of_cell? _ _ hc3_0
  replace hc4_l : w.heap.size + 1 < w47.heap.size := World.block_lt_of_cell? _ _ hc4_0
  replace hc35_l : w25.heap.size < w47.heap.size := World.block_lt_of_cell? _ _ hc35_0
  replace hc39_l : w31.heap.size < w47.heap.size := World.block_lt_of_cell? _ _ hc39_0
  clear ho45
  clear hb41 hb46
  go_wp2_with fail
  go_region_held3 (fun W => Below w47.heap.size w47 W ∧ W.cell? ⟨w31.heap.size, 0, none⟩ = some (.slice a32 x2.length c33) ∧ W.cell? ⟨w.heap.size + 1, 0, none⟩ = some (.slice a2 x2.length c2)) (first | exact held2 (below_drewN (Below.refl _ _) 1) hc39_0 hc4_0 | (rename Below w47.heap.size w47 _ ∧ _ => hH; refine held2 ?_ hc39_0 hc4_0; (refine bthen hH.1 ?_; assumption))) (first | (go_at_call 10; ((with_reducible refine (laws_toCard a2 c2 x2 _ (hx2.kept (bthen hB (And.left ‹Below w47.heap.size w47 _ ∧ _›))) hn2).mono ?_); rintro e w51 ⟨a52, c53, rfl, ho54, hb50⟩)) | (go_at_call 12; ((with_reducible refine (laws_eqCard_same a32 a52 c33 c53 x2 _ ((ho34.RI).kept (And.left ‹Below w47.heap.size w47 _ ∧ _›)) (((OI.of ho54).RI)) (small hn2)).mono ?_); rintro e w56 ⟨rfl, hb55⟩)))
  replace hc3_0 := (keep hb55 (keep hb50 (keep (below_drewN (Below.refl _ _) 1) hc3_0)))
  replace hc4_0 := (keep hb55 (keep hb50 (keep (below_drewN (Below.refl _ _) 1) hc4_0)))
  replace hc35_0 := (keep hb55 (keep hb50 (keep (below_drewN (Below.refl _ _) 1) hc35_0)))
  replace hc39_0 := (keep hb55 (keep hb50 (keep (below_drewN (Below.refl _ _) 1) hc39_0)))
  replace ho28 := (((ho28.kept (below_drewN (Below.refl _ _) 1)).kept hb50).kept hb55)
  replace ho34 := (((ho34.kept (below_drewN (Below.refl _ _) 1)).kept hb50).kept hb55)
  replace hB := (bthen (bthen (bthen hB (below_drewN (Below.refl _ _) 1)) hb50) hb55)
  have hs57 := hb50.size
  simp only [World.size_drew] at hs57
  have hs58 := hb55.size
  replace hc3_l : w.heap.size < w56.heap.size := World.block_lt_of_cell? _ _ hc3_0
  replace hc4_l : w.heap.size + 1 < w56.heap.size := World.block_lt_of_cell? _ _ hc4_0
  replace hc35_l : w25.heap.size < w56.heap.size := World.block_lt_of_cell? _ _ hc35_0
  replace hc39_l : w31.heap.size < w56.heap.size := World.block_lt_of_cell? _ _ hc39_0
  clear ho54
  clear hb50 hb55
  go_wp2_with fail
  go_ret
  exact ⟨rfl, hB⟩

theorem lifted (os : Os) (started : os.Started) (H : Type) (enc : TypeId × Value → H) :
    ReturnsInHanded {} Try.checked os 3 .any (Rows.fnExactKeysForSpec.pre6 enc Try.prog Try.f3 Rows.fnExactKeysForRow.domain false) (Rows.fnExactKeysForSpec.post enc Try.prog Try.f3 false true false false) := by
  refine returnsInHanded_of_change (C := Try.checked) own started (by kernel_rfl) Try.func3
    (ChangeSpec.witness6 (enc := enc) (C := Try.checked) false ⟨#[], #[.string ByteArray.empty, .agg #[.slice none 0 0], .agg #[.slice none 0 0]], []⟩ 8 (by kernel_rfl) (by kernel_rfl) (by kernel_rfl) (by kernel_rfl)) ?_
  intro W base args ds gs before hval0 hW hcnd _
  have hval : ∀ (j : Nat) t v, Try.f3.params[j]? = some t → args[j]? = some v → Value.okWide Try.prog W .any base t v := hval0
  have hW' := hW
  obtain ⟨p, q, hA0, hV, rfl, hfz, hnd⟩ := hW
  have hA : DataW.TrodAll enc Try.prog W 0 (fun _ => true) true Try.f3.params.toList args.toList ds p := hA0
  rw [Try.params3] at hA hval
  obtain ⟨v0, vs0, d0, ds0, p0, q0, hargs, rfl, rfl, h0, r0⟩ := trodAll_cons hA
  obtain ⟨v1, vs1, d1, ds1, p1, q1, rfl, rfl, rfl, h1, r1⟩ := trodAll_cons r0
  obtain ⟨v2, vs2, d2, ds2, p2, q2, rfl, rfl, rfl, h2, r2⟩ := trodAll_cons r1
  obtain ⟨rfl, rfl, rfl⟩ := trodAll_nil r2
  obtain rfl : args = #[v0, v1, v2] := by cases args; simp_all
  obtain ⟨rfl, rfl⟩ := trodVars_none hV
  obtain ⟨s0, rfl, rfl, rfl, z0⟩ := open_string Try.underlying9 (hval 0 9 v0 rfl rfl) h0
  have k1 := h1
  have lt1 : ∀ x ∈ p1, x.block < W.heap.size := by obtain ⟨m, hm⟩ := k1; exact DataW.trod_lt m _ _ _ hm
  obtain ⟨a1, c1, x1, rfl, hx1, hm1⟩ := open_card Try.underlying24 rfl rfl Try.underlying22 Try.underlying2 (by kernel_rfl) (by kernel_rfl) (by kernel_rfl) (hval 1 24 v1 rfl rfl) h1
  have k2 := h2
  have lt2 : ∀ x ∈ p2, x.block < W.heap.size := by obtain ⟨m, hm⟩ := k2; exact DataW.trod_lt m _ _ _ hm
  obtain ⟨a2, c2, x2, rfl, hx2, hm2⟩ := open_card Try.underlying24 rfl rfl Try.underlying22 Try.underlying2 (by kernel_rfl) (by kernel_rfl) (by kernel_rfl) (hval 2 24 v2 rfl rfl) h2
  clear hA0 hval0
  refine (walk s0 a1 c1 x1 a2 c2 x2 W z0 hx1 hm1 hx2 hm2).mono fun e W' ⟨he, bel⟩ => ?_
  subst he
  exact ⟨_, rfl, _, _, _, [], _, [], hW', trodAll_mk1 (shut_bool Try.underlying4 _), (trodAll_cons_mk (shut_string Try.underlying9 z0) (trodAll_cons_mk (Below.trod laidOut (by kernel_rfl) (of_decide_eq_true (by kernel_rfl)) k1 bel lt1) (trodAll_cons_mk (Below.trod laidOut (by kernel_rfl) (of_decide_eq_true (by kernel_rfl)) k2 bel lt2) trodAll_mk0))), rfl, bel.frame _, fun h => by cases h⟩

theorem over : Rows.fnExactKeysForRow.holds Try.pinned (OpenSpec.ofChange Rows.fnExactKeysForSpec) :=
  OpenClaim.holds_of_wide 3 Try.f3 rfl rfl rfl rfl rfl rfl rfl ⟨rfl, rfl, rfl, rfl, rfl⟩ rfl rfl rfl rfl rfl (by kernel_rfl) Try.func3 (by kernel_rfl)
    (of_decide_eq_true (by kernel_rfl)) (by unfold Func.isWrapper; first | (rw [if_pos (by decide +kernel)]; kernel_rfl) | (rw [if_neg (by decide +kernel)]; exact ⟨rfl, rfl⟩))
    (fun os started H enc _ => lifted os started H enc)

/-- The statement. -/
theorem proved : Rows.FnExactKeysForSaid := over
#print axioms proved
end Go.Proofs.Ytoeohebobmkobaa.fnExactKeysFor
