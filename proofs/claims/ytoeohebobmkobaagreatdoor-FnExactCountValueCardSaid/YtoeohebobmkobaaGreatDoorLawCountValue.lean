/- FnExactCountValue: for all arguments the law returns true, and memory that was there is as it was. No condition. -/
import Derived.Test.YtoeohebobmkobaaGreatDoorRows
import Derived.Test.YtoeohebobmkobaaGreatDoorCards
import Derived.Test.YtoeohebobmkobaaGreatDoorTie
import Derived.Deep.DeepHandedRow
import Derived.Lib.LaidTab
import Derived.Stop.LaidErr
import Derived.OpenVars
import Derived.Test.YtoeohebobmkobaaGreatDoorTabs
import Derived.Test.YtoeohebobmkobaaGreatDoorOpen
import Derived.Deep.RegionHeld3
import Derived.Deep.CutRange
import Derived.ShutString
import Derived.Test.YtoeohebobmkobaaGreatDoorCv
namespace Go.Proofs.YtoeohebobmkobaaGreatDoor.fnExactCountValue
open Go.ChangeShapes Go.WideShapes Go.ChangeAt Go.RowKit
open Go.ChangeMaps (open_string shut_string)
set_option linter.unusedVariables false
set_option linter.unusedSimpArgs false
set_option linter.unnecessarySimpa false
set_option maxRecDepth 100000

theorem own : ownKnob Tryz.prog.godebug = none := by kernel_rfl
theorem laidOut : laidOutB Tryz.prog = true := by kernel_rfl

set_option maxHeartbeats 4000000 in
/-- The Go text returns true; memory has at most new blocks. -/
theorem walk (d0 : Int) (a0 : Option Addr) (c0 : Nat) (x0 : List Itm) (a1 : Option Addr) (c1 : Nat) (x1 : List (List Int)) (s2 : ByteArray) (s3 : ByteArray) (w : World) (hx0 : RT w a0 x0) (hm0 : x0.length ≤ maxLen ∧ ∀ y ∈ x0, y.name.size ≤ maxLen) (hx1 : RD w a1 x1) (hm1 : x1.length ≤ maxLen) (hm2 : s2.size ≤ maxLen) (hm3 : s3.size ≤ maxLen) (ht : Pow10 w) :
    Calls Tryz.prog 3 #[.agg #[.int .i64 d0, .slice a0 x0.length c0], .slice a1 x1.length c1, .string s2, .string s3] w fun e w' => e = .returned (.bool true) ∧ Below w.heap.size w w' := by
  by_cases hn2 : 1048576 < s2.size
  · go_enter Tryz.func3, Tryz.ntmps3
    go_wp2_with fail
    go_ret
    exact ⟨rfl, by repeat (first | exact Below.refl _ _ | exact below_alloc _ | exact below_alloc2 _ _ _ | exact below_alloc3 _ _ _ _)⟩
  replace hn2 : s2.size ≤ 1048576 := by omega
  by_cases hn3 : 1048576 < s3.size
  · go_enter Tryz.func3, Tryz.ntmps3
    go_wp2_with fail
    go_ret
    exact ⟨rfl, by repeat (first | exact Below.refl _ _ | exact below_alloc _ | exact below_alloc2 _ _ _ | exact below_alloc3 _ _ _ _)⟩
  replace hn3 : s3.size ≤ 1048576 := by omega
  go_enter Tryz.func3, Tryz.ntmps3
  by_cases hz1 : 1048576 < (itemsSz x0 : Int)
  · go_wp2_with fail
    refine (laws_szLayout_over d0 a0 c0 x0 (1048576) _ (hx0.kept (below_alloc _)) (by omega) (by omega) hm0 hz1).mono ?_
    rintro e wz ⟨rfl, hz⟩
    go_wp2_with fail
    go_ret
    exact ⟨rfl, bthen (below_alloc _) hz⟩
  go_wp2_with fail
  refine (laws_szLayout_ok d0 a0 c0 x0 (1048576) _ (hx0.kept (below_alloc _)) (by omega) (by omega) hm0 (by omega)).mono ?_
  rintro e w1 ⟨rfl, hb2⟩
  have hc3_0 : w1.cell? ⟨w.heap.size, 0, none⟩ = some (.int .i64 d0) := (keep hb2 (by simp [go_sem]))
  have hc3_1 : w1.cell? ⟨w.heap.size, 1, none⟩ = some (.slice a0 x0.length c0) := (keep hb2 (by simp [go_sem]))
  have hB := (bthen (below_alloc _) hb2)
  have hs4 := hb2.size
  simp only [World.size_alloc] at hs4
  have hc3_l : w.heap.size < w1.heap.size := World.block_lt_of_cell? _ _ hc3_0
  clear hb2
  have hn0 : itemsSz x0 ≤ 1048576 := by omega
  by_cases hz2 : (1048576 - (itemsSz x0 : Int)) < (deckSz x1 : Int)
  · go_wp2_with fail
    refine (laws_szCardS_over a1 c1 x1 ((1048576 - (itemsSz x0 : Int))) _ (hx1.kept hB) (by omega) (by omega) hm1 hz2).mono ?_
    rintro e wz ⟨rfl, hz⟩
    go_wp2_with fail
    go_ret
    exact ⟨rfl, bthen hB hz⟩
  go_wp2_with fail
  refine (laws_szCardS_ok a1 c1 x1 ((1048576 - (itemsSz x0 : Int))) _ (hx1.kept hB) (by omega) (by omega) hm1 (by omega)).mono ?_
  rintro e w5 ⟨rfl, hb6⟩
  replace hc3_0 := (keep hb6 hc3_0)
  replace hc3_1 := (keep hb6 hc3_1)
  replace hB := (bthen hB hb6)
  have hs7 := hb6.size
  replace hc3_l : w.heap.size < w5.heap.size := World.block_lt_of_cell? _ _ hc3_0
  clear hb6
  have hn1 : deckSz x1 ≤ 1048576 := by omega
  go_wp2_with fail
  refine (laws_toLayout d0 a0 c0 x0 _ (hx0.kept hB) hn0).mono ?_
  rintro e w9 ⟨a10, c11, rfl, ho12, hb8⟩
  replace hc3_0 := (keep hb8 hc3_0)
  replace hc3_1 := (keep hb8 hc3_1)
  replace hB := (bthen hB hb8)
  have hs13 := hb8.size
  replace hc3_l : w.heap.size < w9.heap.size := World.block_lt_of_cell? _ _ hc3_0
  clear hb8
  replace ho12 := OT.of (own_mono (B := w5.heap.size) ho12 (by first | exact Nat.le_refl _ | simp))
  go_wp2_with fail
  refine (laws_toCardS a1 c1 x1 _ (hx1.kept hB) hn1).mono ?_
  rintro e w15 ⟨a16, c17, rfl, ho18, hb14⟩
  replace hc3_0 := (keep hb14 hc3_0)
  replace hc3_1 := (keep hb14 hc3_1)
  replace ho12 := (ho12.kept hb14)
  replace hB := (bthen hB hb14)
  have hs19 := hb14.size
  replace hc3_l : w.heap.size < w15.heap.size := World.block_lt_of_cell? _ _ hc3_0
  clear hb14
  replace ho18 := OD.wider (lo' := w9.heap.size) ho18 (by first | exact Nat.le_refl _ | simp) (Nat.le_refl _)
  go_wp2_with fail
  refine (spec_CountValue d0 a10 c11 x0 a16 c17 x1 s2 s3 _ (ho12.RT) (ho18.RD) hn0 (OT.capm ho12).1 hn1 hn2 hn3 ).mono ?_
  rintro e w21 ⟨rfl, hb20⟩
  replace hc3_0 := (keep hb20 hc3_0)
  replace hc3_1 := (keep hb20 hc3_1)
  replace ho12 := (ho12.kept hb20)
  replace ho18 := (ho18.kept hb20)
  replace hB := (bthen hB hb20)
  have hs22 := hb20.size
  replace hc3_l : w.heap.size < w21.heap.size := World.block_lt_of_cell? _ _ hc3_0
  clear hb20
  go_wp2_with fail
  refine (laws_toLayout d0 a0 c0 x0 _ (hx0.kept hB) hn0).mono ?_
  rintro e w24 ⟨a25, c26, rfl, ho27, hb23⟩
  replace hc3_0 := (keep hb23 hc3_0)
  replace hc3_1 := (keep hb23 hc3_1)
  replace ho12 := (ho12.kept hb23)
  replace ho18 := (ho18.kept hb23)
  replace hB := (bthen hB hb23)
  have hs28 := hb23.size
  replace hc3_l : w.heap.size < w24.heap.size := World.block_lt_of_cell? _ _ hc3_0
  clear hb23
  replace ho27 := OT.of (own_mono (B := w21.heap.size) ho27 (by first | exact Nat.le_refl _ | simp))
  go_wp2_with fail
  refine (laws_toCardS a1 c1 x1 _ (hx1.kept (bthen hB (below_alloc _))) hn1).mono ?_
  rintro e w30 ⟨a31, c32, rfl, ho33, hb29⟩
  replace hc3_0 := (keep hb29 (keep (below_alloc _) hc3_0))
  replace hc3_1 := (keep hb29 (keep (below_alloc _) hc3_1))
  have hc34_0 : w30.cell? ⟨w24.heap.size, 0, none⟩ = some (.int .i64 d0) := (keep hb29 (by simp [go_sem]))
  have hc34_1 : w30.cell? ⟨w24.heap.size, 1, none⟩ = some (.slice a25 x0.length c26) := (keep hb29 (by simp [go_sem]))
  replace ho12 := ((ho12.kept (below_alloc _)).kept hb29)
  replace ho18 := ((ho18.kept (below_alloc _)).kept hb29)
  replace ho27 := ((ho27.kept (below_alloc _)).kept hb29)
  replace hB := (bthen (bthen hB (below_alloc _)) hb29)
  have hs35 := hb29.size
  simp only [World.size_alloc] at hs35
  replace hc3_l : w.heap.size < w30.heap.size := World.block_lt_of_cell? _ _ hc3_0
  have hc34_l : w24.heap.size < w30.heap.size := World.block_lt_of_cell? _ _ hc34_0
  clear hb29
  replace ho33 := OD.wider (lo' := w24.heap.size + 1) ho33 (by first | exact Nat.le_refl _ | simp) (Nat.le_refl _)
  go_wp2_with fail
  refine (impl_CountValue d0 a25 c26 x0 a31 c32 x1 s2 s3 _ (ho27.RT) (ho33.RD) hn0 (OT.capm ho27).1 hn1 hn2 hn3 (TabIs.kept ht hB)).mono ?_
  rintro e w37 ⟨rfl, hb36⟩
  replace hc3_0 := (keep hb36 hc3_0)
  replace hc3_1 := (keep hb36 hc3_1)
  replace hc34_0 := (keep hb36 hc34_0)
  replace hc34_1 := (keep hb36 hc34_1)
  replace ho12 := (ho12.kept hb36)
  replace ho18 := (ho18.kept hb36)
  replace ho27 := (ho27.kept hb36)
  replace ho33 := (ho33.kept hb36)
  replace hB := (bthen hB hb36)
  have hs38 := hb36.size
  replace hc3_l : w.heap.size < w37.heap.size := World.block_lt_of_cell? _ _ hc3_0
  replace hc34_l : w24.heap.size < w37.heap.size := World.block_lt_of_cell? _ _ hc34_0
  clear hb36
  go_wp2_with fail
  go_region_held3 (fun W => Below w37.heap.size w37 W ∧ W.cell? ⟨w24.heap.size, 0, none⟩ = some (.int .i64 d0) ∧ W.cell? ⟨w24.heap.size, 1, none⟩ = some (.slice a25 x0.length c26) ∧ W.cell? ⟨w.heap.size, 0, none⟩ = some (.int .i64 d0) ∧ W.cell? ⟨w.heap.size, 1, none⟩ = some (.slice a0 x0.length c0)) (first | exact held4 (below_drewN (Below.refl _ _) 1) hc34_0 hc34_1 hc3_0 hc3_1 | (rename Below w37.heap.size w37 _ ∧ _ => hH; refine held4 ?_ hc34_0 hc34_1 hc3_0 hc3_1; (refine bthen hH.1 ?_; assumption))) (first | (go_at_call 10; ((with_reducible refine (laws_toLayout d0 a0 c0 x0 _ (hx0.kept (bthen hB (And.left ‹Below w37.heap.size w37 _ ∧ _›))) hn0).mono ?_); rintro e w40 ⟨a41, c42, rfl, ho43, hb39⟩)) | (go_at_call 13; ((with_reducible refine (laws_eqLayout_same d0 a25 a41 c26 c42 x0 _ ((ho27.RT).kept (And.left ‹Below w37.heap.size w37 _ ∧ _›)) (((OT.of ho43).RT)) hn0).mono ?_); rintro e w45 ⟨rfl, hb44⟩)))
  replace hc3_0 := (keep hb44 (keep hb39 (keep (below_drewN (Below.refl _ _) 1) hc3_0)))
  replace hc3_1 := (keep hb44 (keep hb39 (keep (below_drewN (Below.refl _ _) 1) hc3_1)))
  replace hc34_0 := (keep hb44 (keep hb39 (keep (below_drewN (Below.refl _ _) 1) hc34_0)))
  replace hc34_1 := (keep hb44 (keep hb39 (keep (below_drewN (Below.refl _ _) 1) hc34_1)))
  replace ho12 := (((ho12.kept (below_drewN (Below.refl _ _) 1)).kept hb39).kept hb44)
  replace ho18 := (((ho18.kept (below_drewN (Below.refl _ _) 1)).kept hb39).kept hb44)
  replace ho27 := (((ho27.kept (below_drewN (Below.refl _ _) 1)).kept hb39).kept hb44)
  replace ho33 := (((ho33.kept (below_drewN (Below.refl _ _) 1)).kept hb39).kept hb44)
  replace hB := (bthen (bthen (bthen hB (below_drewN (Below.refl _ _) 1)) hb39) hb44)
  have hs46 := hb39.size
  simp only [World.size_drew] at hs46
  have hs47 := hb44.size
  replace hc3_l : w.heap.size < w45.heap.size := World.block_lt_of_cell? _ _ hc3_0
  replace hc34_l : w24.heap.size < w45.heap.size := World.block_lt_of_cell? _ _ hc34_0
  clear ho43
  clear hb39 hb44
  go_wp2_with fail
  refine (laws_toCardS a1 c1 x1 _ (hx1.kept hB) hn1).mono ?_
  rintro e w49 ⟨a50, c51, rfl, ho52, hb48⟩
  replace hc3_0 := (keep hb48 hc3_0)
  replace hc3_1 := (keep hb48 hc3_1)
  replace hc34_0 := (keep hb48 hc34_0)
  replace hc34_1 := (keep hb48 hc34_1)
  replace ho12 := (ho12.kept hb48)
  replace ho18 := (ho18.kept hb48)
  replace ho27 := (ho27.kept hb48)
  replace ho33 := (ho33.kept hb48)
  replace hB := (bthen hB hb48)
  have hs53 := hb48.size
  replace hc3_l : w.heap.size < w49.heap.size := World.block_lt_of_cell? _ _ hc3_0
  replace hc34_l : w24.heap.size < w49.heap.size := World.block_lt_of_cell? _ _ hc34_0
  clear hb48
  replace ho52 := OD.wider (lo' := w45.heap.size) ho52 (by first | exact Nat.le_refl _ | simp) (Nat.le_refl _)
  go_wp2_with fail
  refine (laws_eqCardS_same a31 a50 c32 c51 x1 _ (ho33.RD) (ho52.RD) hn1).mono ?_
  rintro e w55 ⟨rfl, hb54⟩
  replace hc3_0 := (keep hb54 hc3_0)
  replace hc3_1 := (keep hb54 hc3_1)
  replace hc34_0 := (keep hb54 hc34_0)
  replace hc34_1 := (keep hb54 hc34_1)
  replace ho12 := (ho12.kept hb54)
  replace ho18 := (ho18.kept hb54)
  replace ho27 := (ho27.kept hb54)
  replace ho33 := (ho33.kept hb54)
  replace ho52 := (ho52.kept hb54)
  replace hB := (bthen hB hb54)
  have hs56 := hb54.size
  replace hc3_l : w.heap.size < w55.heap.size := World.block_lt_of_cell? _ _ hc3_0
  replace hc34_l : w24.heap.size < w55.heap.size := World.block_lt_of_cell? _ _ hc34_0
  clear hb54
  go_wp2_with fail
  go_ret
  exact ⟨rfl, hB⟩

/-- What the walk gives, for every argument and every world that holds the tables. -/
theorem contract (H : Type) (enc : TypeId × Value → H) (W : World) (base : Nat) (args : Array Value) (ds gs : List (DataW H)) (before : List MemPlace)
    (hval0 : ∀ (j : Nat) t v, Tryz.f3.params[j]? = some t → args[j]? = some v → Value.okWide Tryz.prog W .any base t v)
    (hW : DataW.Whole enc Tryz.prog Tryz.f3.params.toList Rows.fnExactCountValueSpec.vars false W args.toList ds gs before) (hL : laidMetH Tryz.prog Rows.fnExactCountValueRow.laid W) (hS : W.ShapedOpen Tryz.prog) :
    Calls Tryz.prog 3 args W fun e W' => ∃ v, e = .returned v ∧ Rows.fnExactCountValueSpec.post enc Tryz.prog Tryz.f3 false true false false W args v W' := by
  have hval : ∀ (j : Nat) t v, Tryz.f3.params[j]? = some t → args[j]? = some v → Value.okWide Tryz.prog W .any base t v := hval0
  have hW' := hW
  obtain ⟨p, q, hA0, hV, rfl, hfz, hnd⟩ := hW
  have hA : DataW.TrodAll enc Tryz.prog W 0 (fun _ => true) true Tryz.f3.params.toList args.toList ds p := hA0
  rw [Tryz.params3] at hA hval
  obtain ⟨v0, vs0, d0, ds0, p0, q0, hargs, rfl, rfl, h0, r0⟩ := trodAll_cons hA
  obtain ⟨v1, vs1, d1, ds1, p1, q1, rfl, rfl, rfl, h1, r1⟩ := trodAll_cons r0
  obtain ⟨v2, vs2, d2, ds2, p2, q2, rfl, rfl, rfl, h2, r2⟩ := trodAll_cons r1
  obtain ⟨v3, vs3, d3, ds3, p3, q3, rfl, rfl, rfl, h3, r3⟩ := trodAll_cons r2
  obtain ⟨rfl, rfl, rfl⟩ := trodAll_nil r3
  obtain rfl : args = #[v0, v1, v2, v3] := by cases args; simp_all
  obtain ⟨rfl, rfl⟩ := trodVars_none hV
  have k0 := h0
  have lt0 : ∀ x ∈ p0, x.block < W.heap.size := by obtain ⟨m, hm⟩ := k0; exact DataW.trod_lt m _ _ _ hm
  obtain ⟨d0, a0, c0, x0, rfl, hx0, hm0⟩ := open_layout Tryz.underlying24 rfl rfl rfl rfl Tryz.underlying22 Tryz.underlying96 rfl rfl rfl rfl rfl rfl Tryz.underlying94 rfl rfl rfl rfl Tryz.underlying9 Tryz.underlying2 (by kernel_rfl) (by kernel_rfl) (by kernel_rfl) (by kernel_rfl) (by kernel_rfl) (by kernel_rfl) (hval 0 24 v0 rfl rfl) h0
  have k1 := h1
  have lt1 : ∀ x ∈ p1, x.block < W.heap.size := by obtain ⟨m, hm⟩ := k1; exact DataW.trod_lt m _ _ _ hm
  obtain ⟨a1, c1, x1, rfl, hx1, hm1⟩ := open_deck Tryz.underlying25 Tryz.underlying41 rfl rfl Tryz.underlying39 Tryz.underlying2 (by kernel_rfl) (by kernel_rfl) (by kernel_rfl) (hval 1 25 v1 rfl rfl) h1
  obtain ⟨s2, rfl, rfl, rfl, z2⟩ := open_string Tryz.underlying9 (hval 2 9 v2 rfl rfl) h2
  obtain ⟨s3, rfl, rfl, rfl, z3⟩ := open_string Tryz.underlying9 (hval 3 9 v3 rfl rfl) h3
  clear hA0 hval0
  refine (walk d0 a0 c0 x0 a1 c1 x1 s2 s3 W hx0 hm0 hx1 hm1 z2 z3 (pow10_of (l := Rows.fnExactCountValueRow.laid) hL (by simp [Rows.fnExactCountValueRow]))).mono fun e W' ⟨he, bel⟩ => ?_
  subst he
  exact ⟨_, rfl, _, _, _, [], _, [], hW', trodAll_mk1 (shut_bool Tryz.underlying4 _), (trodAll_cons_mk (Below.trod laidOut (by kernel_rfl) (of_decide_eq_true (by kernel_rfl)) k0 bel lt0) (trodAll_cons_mk (Below.trod laidOut (by kernel_rfl) (of_decide_eq_true (by kernel_rfl)) k1 bel lt1) (trodAll_cons_mk (shut_string Tryz.underlying9 z2) (trodAll_cons_mk (shut_string Tryz.underlying9 z3) trodAll_mk0)))), rfl, bel.frame _, fun h => by cases h⟩

/-- A world for the witness: the settled one, the listed tables laid. -/
noncomputable def laidWorld (os : Os) : World := { World.holding Tryz.prog os ⟨#[], #[], []⟩ with heap := layAt (layAt (layAt (layAt (layAt ((World.holding Tryz.prog os ⟨#[], #[], []⟩).heap) 6 (Rows.laid_math_bits_deBruijn32tab)) 7 (Rows.laid_math_bits_deBruijn64tab)) 0 (Rows.laid_internal_strconv_uint64pow10)) 4 (Rows.laid_unicode_utf8_acceptRanges)) 3 (Rows.laid_unicode_utf8_first) }
theorem laid_met (os : Os) : laidMet Tryz.prog Rows.fnExactCountValueRow.laid ((laidWorld os).forCall (fun _ _ => 0) ⟨#[], #[.agg #[.int .i64 0, .slice none 0 0], .slice none 0 0, .string ByteArray.empty, .string ByteArray.empty], []⟩).memory :=
  laidMet_of_run' 8 (by kernel_rfl) (by kernel_rfl)
theorem reads (os : Os) {H : Type} (enc : TypeId × Value → H) : ∃ x : List (DataW H) × List (DataW H) × List MemPlace, DataW.whole enc Tryz.prog ((laidWorld os).forCall (fun _ _ => 0) ⟨#[], #[.agg #[.int .i64 0, .slice none 0 0], .slice none 0 0, .string ByteArray.empty, .string ByteArray.empty], []⟩).memory Tryz.f3.params.toList Rows.fnExactCountValueSpec.vars false #[.agg #[.int .i64 0, .slice none 0 0], .slice none 0 0, .string ByteArray.empty, .string ByteArray.empty].toList 8 = some x :=
  Option.isSome_iff_exists.1 (by kernel_rfl)

set_option maxRecDepth 100000 in
theorem lifted (os : Os) (started : os.Started) (H : Type) (enc : TypeId × Value → H) (F : Stop.Interp) :
    ReturnsInHanded {} Tryz.checked os 3 .any ((OpenSpec.ofChange Rows.fnExactCountValueSpec).preRow enc Tryz.prog Tryz.f3 Rows.fnExactCountValueRow.domain false Rows.fnExactCountValueRow.laid) (((OpenSpec.ofChange Rows.fnExactCountValueSpec).at F).post enc Tryz.prog Tryz.f3 false true false false) := by
  obtain ⟨x, hx⟩ := reads os enc
  refine returnsInHanded_of_row (C := Tryz.checked) (s := OpenSpec.ofChange Rows.fnExactCountValueSpec) own started (by kernel_rfl) Tryz.func3
    (witness_row_at (enc := enc) (C := Tryz.checked) false (laidWorld os) #[.agg #[.int .i64 0, .slice none 0 0], .slice none 0 0, .string ByteArray.empty, .string ByteArray.empty] rfl (by kernel_rfl) (by kernel_rfl) (by kernel_rfl)
      (OpenSpec.preRow_of_cond 8 hx (by kernel_rfl) (fun k hk => by cases hk) (by kernel_rfl) (laid_met os))) ?_
  intro W base args ds gs before hval hW _ _ _ hL hS _
  exact contract H enc W base args ds gs before hval hW hL hS

theorem said : Rows.FnExactCountValueSaid :=
  OpenClaim.holds_of_cond 3 Tryz.f3 rfl rfl rfl rfl rfl rfl rfl ⟨rfl, rfl, rfl, rfl, rfl⟩ rfl rfl rfl rfl rfl (by kernel_rfl) Tryz.func3 (by kernel_rfl)
    (of_decide_eq_true (by kernel_rfl)) (by unfold Func.isWrapper; first | (rw [if_pos (by decide +kernel)]; kernel_rfl) | (rw [if_neg (by decide +kernel)]; exact ⟨rfl, rfl⟩))
    (fun os started H enc _ F => by rw [OpenClaim.pre_eq_preRow]; exact lifted os started H enc F)

theorem noStand : (Tryz.f3.params.toList.all fun t => !Tryz.prog.wantsStandIn t) = true := by kernel_rfl
/-- No parameter wants a stand-in; the program's own looks are off. -/
theorem plain (g : FuncId) (fn : Func) (hf : Tryz.pinned.checked.prog.funcNamed "loop.example/g01012/laws.FnExactCountValue" = some g) (hfn : Tryz.pinned.checked.prog.funcs[g]? = some fn) :
    true = Tryz.pinned.checked.prog.looks [] ∧ ∀ (j : Nat) t, fn.params[j]? = some t → Tryz.pinned.checked.prog.wantsStandIn t = false := by
  obtain rfl : g = 3 := Option.some.inj ((show Tryz.prog.funcNamed "loop.example/g01012/laws.FnExactCountValue" = some 3 by kernel_rfl).symm.trans hf) |>.symm
  obtain rfl : fn = Tryz.f3 := (Option.some.inj (Tryz.func3.symm.trans hfn)).symm
  refine ⟨by kernel_rfl, fun j t ht => ?_⟩
  have h1 := List.all_eq_true.1 noStand t (by have := Array.mem_of_getElem? ht; simpa using this)
  have h2 : Tryz.prog.wantsStandIn t = false := by simpa using h1
  exact h2

/-- The card. -/
theorem proved : Rows.FnExactCountValueCardSaid :=
  Claim7.holds_tied_plain_at .later [] _ _ _ _ said (fun _ h => by cases h) (by kernel_rfl) (fun _ h => by cases h) fnExactCountValue_row_tie rfl ⟨rfl, rfl⟩ (by kernel_rfl) rfl plain (by kernel_rfl)
#print axioms proved
end Go.Proofs.YtoeohebobmkobaaGreatDoor.fnExactCountValue
