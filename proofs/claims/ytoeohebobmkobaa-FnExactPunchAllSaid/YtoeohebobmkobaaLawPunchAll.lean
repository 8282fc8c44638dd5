/- FnExactPunchAll: for all arguments the law returns true, and memory that was there is as it was. No condition. -/
import Derived.Test.YtoeohebobmkobaaRows
import Derived.Test.YtoeohebobmkobaaOpen
import Derived.Deep.RegionHeld3
import Derived.Deep.CutRange
import Derived.ShutString
import Derived.Test.YtoeohebobmkobaaMark
import Derived.Test.YtoeohebobmkobaaMarkD
import Derived.Test.YtoeohebobmkobaaTextsA
import Derived.Test.YtoeohebobmkobaaPAll
namespace Go.Proofs.Ytoeohebobmkobaa.fnExactPunchAll
open Go.ChangeShapes Go.WideShapes Go.ChangeAt Go.RowKit
open Go.ChangeMaps (open_string shut_string)
set_option linter.unusedVariables false
set_option linter.unusedSimpArgs false
set_option linter.unnecessarySimpa false
set_option maxRecDepth 100000

theorem own : ownKnob Try.prog.godebug = none := by kernel_rfl
theorem laidOut : laidOutB Try.prog = true := by kernel_rfl

set_option maxHeartbeats 4000000 in
/-- The Go text returns true; memory has at most new blocks. -/
theorem walk (s0 : ByteArray) (a1 : Option Addr) (c1 : Nat) (x1 : List Int) (a2 : Option Addr) (c2 : Nat) (x2 : List ByteArray) (w : World) (hm0 : s0.size ≤ maxLen) (hx1 : RI w a1 x1) (hm1 : x1.length ≤ maxLen) (hx2 : RS w a2 x2) (hm2 : x2.length ≤ maxLen ∧ ∀ s ∈ x2, s.size ≤ maxLen) :
    Calls Try.prog 6 #[.string s0, .agg #[.slice a1 x1.length c1], .slice a2 x2.length c2] w fun e w' => e = .returned (.bool true) ∧ Below w.heap.size w w' := by
  by_cases hn0 : 1048576 < s0.size
  · go_enter Try.func6, Try.ntmps6
    go_wp2_with fail
    go_ret
    exact ⟨rfl, by repeat (first | exact Below.refl _ _ | exact below_alloc _ | exact below_alloc2 _ _ _ | exact below_alloc3 _ _ _ _)⟩
  replace hn0 : s0.size ≤ 1048576 := by omega
  go_enter Try.func6, Try.ntmps6
  by_cases hz1 : 1048576 < (x1.length : Int)
  · go_wp2_with fail
    refine (laws_szCard_over a1 c1 x1 (1048576) _ (hx1.kept (below_alloc _)) (by omega) (by omega) hm1 hz1).mono ?_
    rintro e wz ⟨rfl, hz⟩
    go_wp2_with fail
    go_ret
    exact ⟨rfl, bthen (below_alloc _) hz⟩
  go_wp2_with fail
  refine (laws_szCard_ok a1 c1 x1 (1048576) _ (hx1.kept (below_alloc _)) (by omega) (by omega) hm1 (by omega)).mono ?_
  rintro e w1 ⟨rfl, hb2⟩
  have hc3_0 : w1.cell? ⟨w.heap.size, 0, none⟩ = some (.slice a1 x1.length c1) := (keep hb2 (by simp [go_sem]))
  have hB := (bthen (below_alloc _) hb2)
  have hs4 := hb2.size
  simp only [World.size_alloc] at hs4
  have hc3_l : w.heap.size < w1.heap.size := World.block_lt_of_cell? _ _ hc3_0
  clear hb2
  have hn1 : x1.length ≤ 1048576 := by omega
  by_cases hz2 : (1048576 - (x1.length : Int)) < (textsSz x2 : Int)
  · go_wp2_with fail
    refine (laws_szStringS_over a2 c2 x2 ((1048576 - (x1.length : Int))) _ (hx2.kept hB) (by omega) (by omega) hm2 hz2).mono ?_
    rintro e wz ⟨rfl, hz⟩
    go_wp2_with fail
    go_ret
    exact ⟨rfl, bthen hB hz⟩
  go_wp2_with fail
  refine (laws_szStringS_ok a2 c2 x2 ((1048576 - (x1.length : Int))) _ (hx2.kept hB) (by omega) (by omega) hm2 (by omega)).mono ?_
  rintro e w5 ⟨rfl, hb6⟩
  replace hc3_0 := (keep hb6 hc3_0)
  replace hB := (bthen hB hb6)
  have hs7 := hb6.size
  replace hc3_l : w.heap.size < w5.heap.size := World.block_lt_of_cell? _ _ hc3_0
  clear hb6
  have hn2 : textsSz x2 ≤ 1048576 := by omega
  go_wp2_with fail
  refine (laws_toCard a1 c1 x1 _ (hx1.kept hB) hn1).mono ?_
  rintro e w9 ⟨a10, c11, rfl, ho12, hb8⟩
  replace hc3_0 := (keep hb8 hc3_0)
  replace hB := (bthen hB hb8)
  have hs13 := hb8.size
  replace hc3_l : w.heap.size < w9.heap.size := World.block_lt_of_cell? _ _ hc3_0
  clear hb8
  replace ho12 := OI.of (own_mono (B := w5.heap.size) ho12 (by first | exact Nat.le_refl _ | simp))
  go_wp2_with fail
  refine (laws_toStringS a2 c2 x2 _ (hx2.kept hB) hn2).mono ?_
  rintro e w15 ⟨a16, c17, rfl, ho18, hb14⟩
  replace hc3_0 := (keep hb14 hc3_0)
  replace ho12 := (ho12.kept hb14)
  replace hB := (bthen hB hb14)
  have hs19 := hb14.size
  replace hc3_l : w.heap.size < w15.heap.size := World.block_lt_of_cell? _ _ hc3_0
  clear hb14
  replace ho18 := OS.of (own_mono (B := w9.heap.size) ho18 (by first | exact Nat.le_refl _ | simp))
  go_wp2_with fail
  refine (spec_PunchAll s0 a10 c11 x1 a16 c17 x2 _ (ho12.RI) (ho18.RS) hn0 hn1 hn2).mono ?_
  rintro e w21 ⟨a22, c23, rfl, ho24, hb20⟩
  replace hc3_0 := (keep hb20 hc3_0)
  replace ho12 := (ho12.kept hb20)
  replace ho18 := (ho18.kept hb20)
  replace hB := (bthen hB hb20)
  have hs26 := hb20.size
  replace hc3_l : w.heap.size < w21.heap.size := World.block_lt_of_cell? _ _ hc3_0
  clear hb20
  replace ho24 := OD.wider (lo' := w15.heap.size) ho24 (by first | exact Nat.le_refl _ | simp) (Nat.le_refl _)
  have hl25 := paL_len s0 x1 x2 hn0
  go_wp2_with fail
  refine (laws_toCard a1 c1 x1 _ (hx1.kept hB) hn1).mono ?_
  rintro e w28 ⟨a29, c30, rfl, ho31, hb27⟩
  replace hc3_0 := (keep hb27 hc3_0)
  replace ho12 := (ho12.kept hb27)
  replace ho18 := (ho18.kept hb27)
  replace ho24 := (ho24.kept hb27)
  replace hB := (bthen hB hb27)
  have hs32 := hb27.size
  replace hc3_l : w.heap.size < w28.heap.size := World.block_lt_of_cell? _ _ hc3_0
  clear hb27
  replace ho31 := OI.of (own_mono (B := w21.heap.size) ho31 (by first | exact Nat.le_refl _ | simp))
  go_wp2_with fail
  refine (laws_toStringS a2 c2 x2 _ (hx2.kept (bthen hB (below_alloc _))) hn2).mono ?_
  rintro e w34 ⟨a35, c36, rfl, ho37, hb33⟩
  replace hc3_0 := (keep hb33 (keep (below_alloc _) hc3_0))
  have hc38_0 : w34.cell? ⟨w28.heap.size, 0, none⟩ = some (.slice a29 x1.length c30) := (keep hb33 (by simp [go_sem]))
  replace ho12 := ((ho12.kept (below_alloc _)).kept hb33)
  replace ho18 := ((ho18.kept (below_alloc _)).kept hb33)
  replace ho24 := ((ho24.kept (below_alloc _)).kept hb33)
  replace ho31 := ((ho31.kept (below_alloc _)).kept hb33)
  replace hB := (bthen (bthen hB (below_alloc _)) hb33)
  have hs39 := hb33.size
  simp only [World.size_alloc] at hs39
  replace hc3_l : w.heap.size < w34.heap.size := World.block_lt_of_cell? _ _ hc3_0
  have hc38_l : w28.heap.size < w34.heap.size := World.block_lt_of_cell? _ _ hc38_0
  clear hb33
  replace ho37 := OS.of (own_mono (B := w28.heap.size + 1) ho37 (by first | exact Nat.le_refl _ | simp))
  go_wp2_with fail
  refine (impl_PunchAll s0 a29 c30 x1 a35 c36 x2 _ (ho31.RI) (ho37.RS) hn0 hn1 hn2).mono ?_
  rintro e w41 ⟨a42, c43, rfl, ho44, hb40⟩
  replace hc3_0 := (keep hb40 hc3_0)
  replace hc38_0 := (keep hb40 hc38_0)
  replace ho12 := (ho12.kept hb40)
  replace ho18 := (ho18.kept hb40)
  replace ho24 := (ho24.kept hb40)
  replace ho31 := (ho31.kept hb40)
  replace ho37 := (ho37.kept hb40)
  replace hB := (bthen hB hb40)
  have hs46 := hb40.size
  replace hc3_l : w.heap.size < w41.heap.size := World.block_lt_of_cell? _ _ hc3_0
  replace hc38_l : w28.heap.size < w41.heap.size := World.block_lt_of_cell? _ _ hc38_0
  clear hb40
  replace ho44 := OD.wider (lo' := w34.heap.size) ho44 (by first | exact Nat.le_refl _ | simp) (Nat.le_refl _)
  have hl45 := paL_len s0 x1 x2 hn0
  go_wp2_with fail
  refine (laws_eqCardS_same a42 a22 c43 c23 (paL s0 x1 x2) _ (ho44.RD) (ho24.RD) hl45).mono ?_
  rintro e w48 ⟨rfl, hb47⟩
  replace hc3_0 := (keep hb47 hc3_0)
  replace hc38_0 := (keep hb47 hc38_0)
  replace ho12 := (ho12.kept hb47)
  replace ho18 := (ho18.kept hb47)
  replace ho24 := (ho24.kept hb47)
  replace ho31 := (ho31.kept hb47)
  replace ho37 := (ho37.kept hb47)
  replace ho44 := (ho44.kept hb47)
  replace hB := (bthen hB hb47)
  have hs49 := hb47.size
  replace hc3_l : w.heap.size < w48.heap.size := World.block_lt_of_cell? _ _ hc3_0
  replace hc38_l : w28.heap.size < w48.heap.size := World.block_lt_of_cell? _ _ hc38_0
  clear hb47
  go_wp2_with fail
  go_region_held3 (fun W => Below w48.heap.size w48 W ∧ W.cell? ⟨w28.heap.size, 0, none⟩ = some (.slice a29 x1.length c30) ∧ W.cell? ⟨w.heap.size, 0, none⟩ = some (.slice a1 x1.length c1)) (first | exact held2 (below_drewN (Below.refl _ _) 1) hc38_0 hc3_0 | (rename Below w48.heap.size w48 _ ∧ _ => hH; refine held2 ?_ hc38_0 hc3_0; (refine bthen hH.1 ?_; assumption))) (first | (go_at_call 10; ((with_reducible refine (laws_toCard a1 c1 x1 _ (hx1.kept (bthen hB (And.left ‹Below w48.heap.size w48 _ ∧ _›))) hn1).mono ?_); rintro e w51 ⟨a52, c53, rfl, ho54, hb50⟩)) | (go_at_call 12; ((with_reducible refine (laws_eqCard_same a29 a52 c30 c53 x1 _ ((ho31.RI).kept (And.left ‹Below w48.heap.size w48 _ ∧ _›)) (((OI.of ho54).RI)) (small hn1)).mono ?_); rintro e w56 ⟨rfl, hb55⟩)))
  replace hc3_0 := (keep hb55 (keep hb50 (keep (below_drewN (Below.refl _ _) 1) hc3_0)))
  replace hc38_0 := (keep hb55 (keep hb50 (keep (below_drewN (Below.refl _ _) 1) hc38_0)))
  replace ho12 := (((ho12.kept (below_drewN (Below.refl _ _) 1)).kept hb50).kept hb55)
  replace ho18 := (((ho18.kept (below_drewN (Below.refl _ _) 1)).kept hb50).kept hb55)
  replace ho24 := (((ho24.kept (below_drewN (Below.refl _ _) 1)).kept hb50).kept hb55)
  replace ho31 := (((ho31.kept (below_drewN (Below.refl _ _) 1)).kept hb50).kept hb55)
  replace ho37 := (((ho37.kept (below_drewN (Below.refl _ _) 1)).kept hb50).kept hb55)
  replace ho44 := (((ho44.kept (below_drewN (Below.refl _ _) 1)).kept hb50).kept hb55)
  replace hB := (bthen (bthen (bthen hB (below_drewN (Below.refl _ _) 1)) hb50) hb55)
  have hs57 := hb50.size
  simp only [World.size_drew] at hs57
  have hs58 := hb55.size
  replace hc3_l : w.heap.size < w56.heap.size := World.block_lt_of_cell? _ _ hc3_0
  replace hc38_l : w28.heap.size < w56.heap.size := World.block_lt_of_cell? _ _ hc38_0
  clear ho54
  clear hb50 hb55
  go_wp2_with fail
  refine (laws_toStringS a2 c2 x2 _ (hx2.kept hB) hn2).mono ?_
  rintro e w60 ⟨a61, c62, rfl, ho63, hb59⟩
  replace hc3_0 := (keep hb59 hc3_0)
  replace hc38_0 := (keep hb59 hc38_0)
  replace ho12 := (ho12.kept hb59)
  replace ho18 := (ho18.kept hb59)
  replace ho24 := (ho24.kept hb59)
  replace ho31 := (ho31.kept hb59)
  replace ho37 := (ho37.kept hb59)
  replace ho44 := (ho44.kept hb59)
  replace hB := (bthen hB hb59)
  have hs64 := hb59.size
  replace hc3_l : w.heap.size < w60.heap.size := World.block_lt_of_cell? _ _ hc3_0
  replace hc38_l : w28.heap.size < w60.heap.size := World.block_lt_of_cell? _ _ hc38_0
  clear hb59
  replace ho63 := OS.of (own_mono (B := w56.heap.size) ho63 (by first | exact Nat.le_refl _ | simp))
  go_wp2_with fail
  refine (laws_eqStringS_same a35 a61 c36 c62 x2 _ (ho37.RS) (ho63.RS) (small (Nat.le_trans (textsSz_len _) hn2))).mono ?_
  rintro e w66 ⟨rfl, hb65⟩
  replace hc3_0 := (keep hb65 hc3_0)
  replace hc38_0 := (keep hb65 hc38_0)
  replace ho12 := (ho12.kept hb65)
  replace ho18 := (ho18.kept hb65)
  replace ho24 := (ho24.kept hb65)
  replace ho31 := (ho31.kept hb65)
  replace ho37 := (ho37.kept hb65)
  replace ho44 := (ho44.kept hb65)
  replace ho63 := (ho63.kept hb65)
  replace hB := (bthen hB hb65)
  have hs67 := hb65.size
  replace hc3_l : w.heap.size < w66.heap.size := World.block_lt_of_cell? _ _ hc3_0
  replace hc38_l : w28.heap.size < w66.heap.size := World.block_lt_of_cell? _ _ hc38_0
  clear hb65
  go_wp2_with fail
  refine (laws_markCard (w21.heap.size) (w28.heap.size) a29 c30 x1 1 _ ho31 (by omega) (by omega) hn1 (by first | omega | (simp only [World.size_alloc]; omega))).mono ?_
  rintro e w69 ⟨rfl, hw70, ho71⟩
  replace hc3_0 := hw70.cell hc3_0 (by dsimp only; omega)
  replace hc38_0 := hw70.cell hc38_0 (by dsimp only; omega)
  replace ho12 := ho12.within hw70 (by omega)
  replace ho18 := ho18.within hw70 (by omega)
  replace ho24 := ho24.within hw70 (by omega)
  replace ho37 := ho37.within hw70 (by omega)
  replace ho44 := ho44.within hw70 (by omega)
  replace ho63 := ho63.within hw70 (by omega)
  replace hB := hw70.below hB (by omega) (by first | omega | (simp only [World.size_alloc]; omega))
  have hs72 := hw70.size
  replace hc3_l : w.heap.size < w69.heap.size := World.block_lt_of_cell? _ _ hc3_0
  replace hc38_l : w28.heap.size < w69.heap.size := World.block_lt_of_cell? _ _ hc38_0
  clear hw70
  clear ho31
  go_wp2_with fail
  refine (laws_markStringS (w28.heap.size + 1) (w34.heap.size) a35 c36 x2 (1 + (x1.length : Int)) _ ho37 (by omega) (by omega) (Nat.le_trans (textsSz_len _) hn2) (by first | omega | (simp only [World.size_alloc]; omega))).mono ?_
  rintro e w74 ⟨rfl, hw75, ho76⟩
  replace hc3_0 := hw75.cell hc3_0 (by dsimp only; omega)
  replace hc38_0 := hw75.cell hc38_0 (by dsimp only; omega)
  replace ho12 := ho12.within hw75 (by omega)
  replace ho18 := ho18.within hw75 (by omega)
  replace ho24 := ho24.within hw75 (by omega)
  replace ho71 := ho71.within hw75 (by omega)
  replace ho44 := ho44.within hw75 (by omega)
  replace ho63 := ho63.within hw75 (by omega)
  replace hB := hw75.below hB (by omega) (by first | omega | (simp only [World.size_alloc]; omega))
  have hs77 := hw75.size
  replace hc3_l : w.heap.size < w74.heap.size := World.block_lt_of_cell? _ _ hc3_0
  replace hc38_l : w28.heap.size < w74.heap.size := World.block_lt_of_cell? _ _ hc38_0
  clear hw75
  clear ho37
  go_wp2_with fail
  refine (laws_eqCardS_same a42 a22 c43 c23 (paL s0 x1 x2) _ (ho44.RD) (ho24.RD) hl45).mono ?_
  rintro e w79 ⟨rfl, hb78⟩
  replace hc3_0 := (keep hb78 hc3_0)
  replace hc38_0 := (keep hb78 hc38_0)
  replace ho12 := (ho12.kept hb78)
  replace ho18 := (ho18.kept hb78)
  replace ho24 := (ho24.kept hb78)
  replace ho71 := (ho71.kept hb78)
  replace ho76 := (ho76.kept hb78)
  replace ho44 := (ho44.kept hb78)
  replace ho63 := (ho63.kept hb78)
  replace hB := (bthen hB hb78)
  have hs80 := hb78.size
  replace hc3_l : w.heap.size < w79.heap.size := World.block_lt_of_cell? _ _ hc3_0
  replace hc38_l : w28.heap.size < w79.heap.size := World.block_lt_of_cell? _ _ hc38_0
  clear hb78
  go_wp2_with fail
  refine (laws_markCardS (w34.heap.size) (w41.heap.size) a42 c43 (paL s0 x1 x2) 1 _ ho44 (by omega) (by omega) hl45 (by first | omega | (simp only [World.size_alloc]; omega))).mono ?_
  rintro e w82 ⟨rfl, hw83, ho84⟩
  replace hc3_0 := hw83.cell hc3_0 (by dsimp only; omega)
  replace hc38_0 := hw83.cell hc38_0 (by dsimp only; omega)
  replace ho12 := ho12.within hw83 (by omega)
  replace ho18 := ho18.within hw83 (by omega)
  replace ho24 := ho24.within hw83 (by omega)
  replace ho71 := ho71.within hw83 (by omega)
  replace ho76 := ho76.within hw83 (by omega)
  replace ho63 := ho63.within hw83 (by omega)
  replace hB := hw83.below hB (by omega) (by first | omega | (simp only [World.size_alloc]; omega))
  have hs85 := hw83.size
  replace hc3_l : w.heap.size < w82.heap.size := World.block_lt_of_cell? _ _ hc3_0
  replace hc38_l : w28.heap.size < w82.heap.size := World.block_lt_of_cell? _ _ hc38_0
  clear hw83
  clear ho44
  go_wp2_with fail
  refine (laws_heldCardS a42 c43 (paL s0 x1 x2) 1 _ (ho84.RD) (by omega) (by omega) hl45).mono ?_
  rintro e w87 ⟨rfl, hb86⟩
  replace hc3_0 := (keep hb86 hc3_0)
  replace hc38_0 := (keep hb86 hc38_0)
  replace ho12 := (ho12.kept hb86)
  replace ho18 := (ho18.kept hb86)
  replace ho24 := (ho24.kept hb86)
  replace ho71 := (ho71.kept hb86)
  replace ho76 := (ho76.kept hb86)
  replace ho84 := (ho84.kept hb86)
  replace ho63 := (ho63.kept hb86)
  replace hB := (bthen hB hb86)
  have hs88 := hb86.size
  replace hc3_l : w.heap.size < w87.heap.size := World.block_lt_of_cell? _ _ hc3_0
  replace hc38_l : w28.heap.size < w87.heap.size := World.block_lt_of_cell? _ _ hc38_0
  clear hb86
  go_wp2_with fail
  refine (laws_toCard a1 c1 x1 _ (hx1.kept hB) hn1).mono ?_
  rintro e w90 ⟨a91, c92, rfl, ho93, hb89⟩
  replace hc3_0 := (keep hb89 hc3_0)
  replace hc38_0 := (keep hb89 hc38_0)
  replace ho12 := (ho12.kept hb89)
  replace ho18 := (ho18.kept hb89)
  replace ho24 := (ho24.kept hb89)
  replace ho71 := (ho71.kept hb89)
  replace ho76 := (ho76.kept hb89)
  replace ho84 := (ho84.kept hb89)
  replace ho63 := (ho63.kept hb89)
  replace hB := (bthen hB hb89)
  have hs94 := hb89.size
  replace hc3_l : w.heap.size < w90.heap.size := World.block_lt_of_cell? _ _ hc3_0
  replace hc38_l : w28.heap.size < w90.heap.size := World.block_lt_of_cell? _ _ hc38_0
  clear hb89
  replace ho93 := OI.of (own_mono (B := w87.heap.size) ho93 (by first | exact Nat.le_refl _ | simp))
  go_wp2_with fail
  refine (laws_toStringS a2 c2 x2 _ (hx2.kept hB) hn2).mono ?_
  rintro e w96 ⟨a97, c98, rfl, ho99, hb95⟩
  replace hc3_0 := (keep hb95 hc3_0)
  replace hc38_0 := (keep hb95 hc38_0)
  replace ho12 := (ho12.kept hb95)
  replace ho18 := (ho18.kept hb95)
  replace ho24 := (ho24.kept hb95)
  replace ho71 := (ho71.kept hb95)
  replace ho76 := (ho76.kept hb95)
  replace ho84 := (ho84.kept hb95)
  replace ho63 := (ho63.kept hb95)
  replace ho93 := (ho93.kept hb95)
  replace hB := (bthen hB hb95)
  have hs100 := hb95.size
  replace hc3_l : w.heap.size < w96.heap.size := World.block_lt_of_cell? _ _ hc3_0
  replace hc38_l : w28.heap.size < w96.heap.size := World.block_lt_of_cell? _ _ hc38_0
  clear hb95
  replace ho99 := OS.of (own_mono (B := w90.heap.size) ho99 (by first | exact Nat.le_refl _ | simp))
  go_wp2_with fail
  refine (impl_PunchAll s0 a91 c92 x1 a97 c98 x2 _ (ho93.RI) (ho99.RS) hn0 hn1 hn2).mono ?_
  rintro e w102 ⟨a103, c104, rfl, ho105, hb101⟩
  replace hc3_0 := (keep hb101 hc3_0)
  replace hc38_0 := (keep hb101 hc38_0)
  replace ho12 := (ho12.kept hb101)
  replace ho18 := (ho18.kept hb101)
  replace ho24 := (ho24.kept hb101)
  replace ho71 := (ho71.kept hb101)
  replace ho76 := (ho76.kept hb101)
  replace ho84 := (ho84.kept hb101)
  replace ho63 := (ho63.kept hb101)
  replace ho93 := (ho93.kept hb101)
  replace ho99 := (ho99.kept hb101)
  replace hB := (bthen hB hb101)
  have hs107 := hb101.size
  replace hc3_l : w.heap.size < w102.heap.size := World.block_lt_of_cell? _ _ hc3_0
  replace hc38_l : w28.heap.size < w102.heap.size := World.block_lt_of_cell? _ _ hc38_0
  clear hb101
  replace ho105 := OD.wider (lo' := w96.heap.size) ho105 (by first | exact Nat.le_refl _ | simp) (Nat.le_refl _)
  have hl106 := paL_len s0 x1 x2 hn0
  go_wp2_with fail
  refine (laws_eqCardS_same a103 a22 c104 c23 (paL s0 x1 x2) _ (ho105.RD) (ho24.RD) hl106).mono ?_
  rintro e w109 ⟨rfl, hb108⟩
  replace hc3_0 := (keep hb108 hc3_0)
  replace hc38_0 := (keep hb108 hc38_0)
  replace ho12 := (ho12.kept hb108)
  replace ho18 := (ho18.kept hb108)
  replace ho24 := (ho24.kept hb108)
  replace ho71 := (ho71.kept hb108)
  replace ho76 := (ho76.kept hb108)
  replace ho84 := (ho84.kept hb108)
  replace ho63 := (ho63.kept hb108)
  replace ho93 := (ho93.kept hb108)
  replace ho99 := (ho99.kept hb108)
  replace ho105 := (ho105.kept hb108)
  replace hB := (bthen hB hb108)
  have hs110 := hb108.size
  replace hc3_l : w.heap.size < w109.heap.size := World.block_lt_of_cell? _ _ hc3_0
  replace hc38_l : w28.heap.size < w109.heap.size := World.block_lt_of_cell? _ _ hc38_0
  clear hb108
  go_wp2_with fail
  refine (laws_heldCardS a42 c43 (paL s0 x1 x2) 1 _ (ho84.RD) (by omega) (by omega) hl45).mono ?_
  rintro e w112 ⟨rfl, hb111⟩
  replace hc3_0 := (keep hb111 hc3_0)
  replace hc38_0 := (keep hb111 hc38_0)
  replace ho12 := (ho12.kept hb111)
  replace ho18 := (ho18.kept hb111)
  replace ho24 := (ho24.kept hb111)
  replace ho71 := (ho71.kept hb111)
  replace ho76 := (ho76.kept hb111)
  replace ho84 := (ho84.kept hb111)
  replace ho63 := (ho63.kept hb111)
  replace ho93 := (ho93.kept hb111)
  replace ho99 := (ho99.kept hb111)
  replace ho105 := (ho105.kept hb111)
  replace hB := (bthen hB hb111)
  have hs113 := hb111.size
  replace hc3_l : w.heap.size < w112.heap.size := World.block_lt_of_cell? _ _ hc3_0
  replace hc38_l : w28.heap.size < w112.heap.size := World.block_lt_of_cell? _ _ hc38_0
  clear hb111
  go_wp2_with fail
  go_ret
  exact ⟨rfl, hB⟩

theorem lifted (os : Os) (started : os.Started) (H : Type) (enc : TypeId × Value → H) :
    ReturnsInHanded {} Try.checked os 6 .any (Rows.fnExactPunchAllSpec.pre6 enc Try.prog Try.f6 Rows.fnExactPunchAllRow.domain false) (Rows.fnExactPunchAllSpec.post enc Try.prog Try.f6 false true false false) := by
  refine returnsInHanded_of_change (C := Try.checked) own started (by kernel_rfl) Try.func6
    (ChangeSpec.witness6 (enc := enc) (C := Try.checked) false ⟨#[], #[.string ByteArray.empty, .agg #[.slice none 0 0], .slice none 0 0], []⟩ 8 (by kernel_rfl) (by kernel_rfl) (by kernel_rfl) (by kernel_rfl)) ?_
  intro W base args ds gs before hval0 hW hcnd _
  have hval : ∀ (j : Nat) t v, Try.f6.params[j]? = some t → args[j]? = some v → Value.okWide Try.prog W .any base t v := hval0
  have hW' := hW
  obtain ⟨p, q, hA0, hV, rfl, hfz, hnd⟩ := hW
  have hA : DataW.TrodAll enc Try.prog W 0 (fun _ => true) true Try.f6.params.toList args.toList ds p := hA0
  rw [Try.params6] at hA hval
  obtain ⟨v0, vs0, d0, ds0, p0, q0, hargs, rfl, rfl, h0, r0⟩ := trodAll_cons hA
  obtain ⟨v1, vs1, d1, ds1, p1, q1, rfl, rfl, rfl, h1, r1⟩ := trodAll_cons r0
  obtain ⟨v2, vs2, d2, ds2, p2, q2, rfl, rfl, rfl, h2, r2⟩ := trodAll_cons r1
  obtain ⟨rfl, rfl, rfl⟩ := trodAll_nil r2
  obtain rfl : args = #[v0, v1, v2] := by cases args; simp_all
  obtain ⟨rfl, rfl⟩ := trodVars_none hV
  obtain ⟨s0, rfl, rfl, rfl, z0⟩ := open_string Try.underlying9 (hval 0 9 v0 rfl rfl) h0
  have k1 := h1
  have lt1 : ∀ x ∈ p1, x.block < W.heap.size := by obtain ⟨m, hm⟩ := k1; exact DataW.trod_lt m _ _ _ hm
  obtain ⟨a1, c1, x1, rfl, hx1, hm1⟩ := open_card Try.underlying24 rfl rfl Try.underlying22 Try.underlying2 (by kernel_rfl) (by kernel_rfl) (by kernel_rfl) (hval 1 24 v1 rfl rfl) h1
  have k2 := h2
  have lt2 : ∀ x ∈ p2, x.block < W.heap.size := by obtain ⟨m, hm⟩ := k2; exact DataW.trod_lt m _ _ _ hm
  obtain ⟨a2, c2, x2, rfl, hx2, hm2⟩ := open_texts Try.underlying39 Try.underlying9 (by kernel_rfl) (hval 2 39 v2 rfl rfl) h2
  clear hA0 hval0
  refine (walk s0 a1 c1 x1 a2 c2 x2 W z0 hx1 hm1 hx2 hm2).mono fun e W' ⟨he, bel⟩ => ?_
  subst he
  exact ⟨_, rfl, _, _, _, [], _, [], hW', trodAll_mk1 (shut_bool Try.underlying4 _), (trodAll_cons_mk (shut_string Try.underlying9 z0) (trodAll_cons_mk (Below.trod laidOut (by kernel_rfl) (of_decide_eq_true (by kernel_rfl)) k1 bel lt1) (trodAll_cons_mk (Below.trod laidOut (by kernel_rfl) (of_decide_eq_true (by kernel_rfl)) k2 bel lt2) trodAll_mk0))), rfl, bel.frame _, fun h => by cases h⟩

theorem over : Rows.fnExactPunchAllRow.holds Try.pinned (OpenSpec.ofChange Rows.fnExactPunchAllSpec) :=
  OpenClaim.holds_of_wide 6 Try.f6 rfl rfl rfl rfl rfl rfl rfl ⟨rfl, rfl, rfl, rfl, rfl⟩ rfl rfl rfl rfl rfl (by kernel_rfl) Try.func6 (by kernel_rfl)
    (of_decide_eq_true (by kernel_rfl)) (by unfold Func.isWrapper; first | (rw [if_pos (by decide +kernel)]; kernel_rfl) | (rw [if_neg (by decide +kernel)]; exact ⟨rfl, rfl⟩))
    (fun os started H enc _ => lifted os started H enc)

/-- The statement. -/
theorem proved : Rows.FnExactPunchAllSaid := over
#print axioms proved
end Go.Proofs.Ytoeohebobmkobaa.fnExactPunchAll
