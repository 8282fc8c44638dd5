/- FnExactPunchByProgram: for all arguments the law returns true, and memory that was there is as it was. No condition. -/
import Derived.Test.YtoeohebobmkobaaRows
import Derived.Test.YtoeohebobmkobaaOpen
import Derived.Deep.RegionHeld3
import Derived.Deep.CutRange
import Derived.ShutString
import Derived.Test.YtoeohebobmkobaaMark
import Derived.Test.YtoeohebobmkobaaPbp
namespace Go.Proofs.Ytoeohebobmkobaa.fnExactPunchByProgram
open Go.ChangeShapes Go.WideShapes Go.ChangeAt Go.RowKit
open Go.ChangeMaps (open_string shut_string)
set_option linter.unusedVariables false
set_option linter.unusedSimpArgs false
set_option linter.unnecessarySimpa false
set_option maxRecDepth 100000

theorem own : ownKnob Try.prog.godebug = none := by kernel_rfl
theorem laidOut : laidOutB Try.prog = true := by kernel_rfl

set_option maxHeartbeats 4000000 in
/-- The Go text returns true; memory has at most new blocks. -/
theorem walk (s0 : ByteArray) (a1 : Option Addr) (c1 : Nat) (x1 : List Int) (s2 : ByteArray) (w : World) (hm0 : s0.size ≤ maxLen) (hx1 : RI w a1 x1) (hm1 : x1.length ≤ maxLen) (hm2 : s2.size ≤ maxLen) :
    Calls Try.prog 5 #[.string s0, .agg #[.slice a1 x1.length c1], .string s2] w fun e w' => e = .returned (.bool true) ∧ Below w.heap.size w w' := by
  by_cases hn0 : 1048576 < s0.size
  · go_enter Try.func5, Try.ntmps5
    go_wp2_with fail
    go_ret
    exact ⟨rfl, by repeat (first | exact Below.refl _ _ | exact below_alloc _ | exact below_alloc2 _ _ _ | exact below_alloc3 _ _ _ _)⟩
  replace hn0 : s0.size ≤ 1048576 := by omega
  by_cases hn2 : 1048576 < s2.size
  · go_enter Try.func5, Try.ntmps5
    go_wp2_with fail
    go_ret
    exact ⟨rfl, by repeat (first | exact Below.refl _ _ | exact below_alloc _ | exact below_alloc2 _ _ _ | exact below_alloc3 _ _ _ _)⟩
  replace hn2 : s2.size ≤ 1048576 := by omega
  go_enter Try.func5, Try.ntmps5
  by_cases hz1 : 1048576 < (x1.length : Int)
  · go_wp2_with fail
    refine (laws_szCard_over a1 c1 x1 (1048576) _ (hx1.kept (below_alloc _)) (by omega) (by omega) hm1 hz1).mono ?_
    rintro e wz ⟨rfl, hz⟩
    go_wp2_with fail
    go_ret
    exact ⟨rfl, bthen (below_alloc _) hz⟩
  go_wp2_with fail
  refine (laws_szCard_ok a1 c1 x1 (1048576) _ (hx1.kept (below_alloc _)) (by omega) (by omega) hm1 (by omega)).mono ?_
  rintro e w1 ⟨rfl, hb2⟩
  have hc3_0 : w1.cell? ⟨w.heap.size, 0, none⟩ = some (.slice a1 x1.length c1) := (keep hb2 (by simp [go_sem]))
  have hB := (bthen (below_alloc _) hb2)
  have hs4 := hb2.size
  simp only [World.size_alloc] at hs4
  have hc3_l : w.heap.size < w1.heap.size := World.block_lt_of_cell? _ _ hc3_0
  clear hb2
  have hn1 : x1.length ≤ 1048576 := by omega
  go_wp2_with fail
  refine (laws_toCard a1 c1 x1 _ (hx1.kept hB) hn1).mono ?_
  rintro e w6 ⟨a7, c8, rfl, ho9, hb5⟩
  replace hc3_0 := (keep hb5 hc3_0)
  replace hB := (bthen hB hb5)
  have hs10 := hb5.size
  replace hc3_l : w.heap.size < w6.heap.size := World.block_lt_of_cell? _ _ hc3_0
  clear hb5
  replace ho9 := OI.of (own_mono (B := w1.heap.size) ho9 (by first | exact Nat.le_refl _ | simp))
  go_wp2_with fail
  refine (spec_PunchByProgram s0 a7 c8 x1 s2 _ (ho9.RI) hn0 hn1 hn2).mono ?_
  rintro e w12 ⟨a13, c14, rfl, ho15, hb11⟩
  replace hc3_0 := (keep hb11 hc3_0)
  replace ho9 := (ho9.kept hb11)
  replace hB := (bthen hB hb11)
  have hs17 := hb11.size
  replace hc3_l : w.heap.size < w12.heap.size := World.block_lt_of_cell? _ _ hc3_0
  clear hb11
  replace ho15 := OI.of (own_mono (B := w6.heap.size) ho15 (by first | exact Nat.le_refl _ | simp))
  have hl16 := pbpL_len s0 s2 x1 hn0
  go_wp2_with fail
  refine (laws_toCard a1 c1 x1 _ (hx1.kept (bthen hB (below_alloc _))) hn1).mono ?_
  rintro e w19 ⟨a20, c21, rfl, ho22, hb18⟩
  replace hc3_0 := (keep hb18 (keep (below_alloc _) hc3_0))
  have hc23_0 : w19.cell? ⟨w12.heap.size, 0, none⟩ = some (.slice a13 (pbpL s0 s2 x1).length c14) := (keep hb18 (by simp [go_sem]))
  replace ho9 := ((ho9.kept (below_alloc _)).kept hb18)
  replace ho15 := ((ho15.kept (below_alloc _)).kept hb18)
  replace hB := (bthen (bthen hB (below_alloc _)) hb18)
  have hs24 := hb18.size
  simp only [World.size_alloc] at hs24
  replace hc3_l : w.heap.size < w19.heap.size := World.block_lt_of_cell? _ _ hc3_0
  have hc23_l : w12.heap.size < w19.heap.size := World.block_lt_of_cell? _ _ hc23_0
  clear hb18
  replace ho22 := OI.of (own_mono (B := w12.heap.size + 1) ho22 (by first | exact Nat.le_refl _ | simp))
  go_wp2_with fail
  refine (impl_PunchByProgram s0 a20 c21 x1 s2 _ ((ho22.RI).kept (below_alloc _)) hn0 hn1 hn2).mono ?_
  rintro e w26 ⟨a27, c28, rfl, ho29, hb25⟩
  replace hc3_0 := (keep hb25 (keep (below_alloc _) hc3_0))
  replace hc23_0 := (keep hb25 (keep (below_alloc _) hc23_0))
  have hc31_0 : w26.cell? ⟨w19.heap.size, 0, none⟩ = some (.slice a20 x1.length c21) := (keep hb25 (by simp [go_sem]))
  replace ho9 := ((ho9.kept (below_alloc _)).kept hb25)
  replace ho15 := ((ho15.kept (below_alloc _)).kept hb25)
  replace ho22 := ((ho22.kept (below_alloc _)).kept hb25)
  replace hB := (bthen (bthen hB (below_alloc _)) hb25)
  have hs32 := hb25.size
  simp only [World.size_alloc] at hs32
  replace hc3_l : w.heap.size < w26.heap.size := World.block_lt_of_cell? _ _ hc3_0
  replace hc23_l : w12.heap.size < w26.heap.size := World.block_lt_of_cell? _ _ hc23_0
  have hc31_l : w19.heap.size < w26.heap.size := World.block_lt_of_cell? _ _ hc31_0
  clear hb25
  replace ho29 := OI.of (own_mono (B := w19.heap.size + 1) ho29 (by first | exact Nat.le_refl _ | simp))
  have hl30 := pbpL_len s0 s2 x1 hn0
  go_wp2_with fail
  refine (laws_eqCard_same a27 a13 c28 c14 (pbpL s0 s2 x1) _ ((ho29.RI).kept (below_alloc _)) ((ho15.RI).kept (below_alloc _)) (small hl30)).mono ?_
  rintro e w34 ⟨rfl, hb33⟩
  replace hc3_0 := (keep hb33 (keep (below_alloc _) hc3_0))
  replace hc23_0 := (keep hb33 (keep (below_alloc _) hc23_0))
  replace hc31_0 := (keep hb33 (keep (below_alloc _) hc31_0))
  have hc35_0 : w34.cell? ⟨w26.heap.size, 0, none⟩ = some (.slice a27 (pbpL s0 s2 x1).length c28) := (keep hb33 (by simp [go_sem]))
  replace ho9 := ((ho9.kept (below_alloc _)).kept hb33)
  replace ho15 := ((ho15.kept (below_alloc _)).kept hb33)
  replace ho22 := ((ho22.kept (below_alloc _)).kept hb33)
  replace ho29 := ((ho29.kept (below_alloc _)).kept hb33)
  replace hB := (bthen (bthen hB (below_alloc _)) hb33)
  have hs36 := hb33.size
  simp only [World.size_alloc] at hs36
  replace hc3_l : w.heap.size < w34.heap.size := World.block_lt_of_cell? _ _ hc3_0
  replace hc23_l : w12.heap.size < w34.heap.size := World.block_lt_of_cell? _ _ hc23_0
  replace hc31_l : w19.heap.size < w34.heap.size := World.block_lt_of_cell? _ _ hc31_0
  have hc35_l : w26.heap.size < w34.heap.size := World.block_lt_of_cell? _ _ hc35_0
  clear hb33
  go_wp2_with fail
  go_region_held3 (fun W => Below w34.heap.size w34 W ∧ W.cell? ⟨w19.heap.size, 0, none⟩ = some (.slice a20 x1.length c21) ∧ W.cell? ⟨w.heap.size, 0, none⟩ = some (.slice a1 x1.length c1)) (first | exact held2 (below_drewN (Below.refl _ _) 1) hc31_0 hc3_0 | (rename Below w34.heap.size w34 _ ∧ _ => hH; refine held2 ?_ hc31_0 hc3_0; (refine bthen hH.1 ?_; assumption))) (first | (go_at_call 10; ((with_reducible refine (laws_toCard a1 c1 x1 _ (hx1.kept (bthen hB (And.left ‹Below w34.heap.size w34 _ ∧ _›))) hn1).mono ?_); rintro e w38 ⟨a39, c40, rfl, ho41, hb37⟩)) | (go_at_call 12; ((with_reducible refine (laws_eqCard_same a20 a39 c21 c40 x1 _ ((ho22.RI).kept (And.left ‹Below w34.heap.size w34 _ ∧ _›)) (((OI.of ho41).RI)) (small hn1)).mono ?_); rintro e w43 ⟨rfl, hb42⟩)))
  replace hc3_0 := (keep hb42 (keep hb37 (keep (below_drewN (Below.refl _ _) 1) hc3_0)))
  replace hc23_0 := (keep hb42 (keep hb37 (keep (below_drewN (Below.refl _ _) 1) hc23_0)))
  replace hc31_0 := (keep hb42 (keep hb37 (keep (below_drewN (Below.refl _ _) 1) hc31_0)))
  replace hc35_0 := (keep hb42 (keep hb37 (keep (below_drewN (Below.refl _ _) 1) hc35_0)))
  replace ho9 := (((ho9.kept (below_drewN (Below.refl _ _) 1)).kept hb37).kept hb42)
  replace ho15 := (((ho15.kept (below_drewN (Below.refl _ _) 1)).kept hb37).kept hb42)
  replace ho22 := (((ho22.kept (below_drewN (Below.refl _ _) 1)).kept hb37).kept hb42)
  replace ho29 := (((ho29.kept (below_drewN (Below.refl _ _) 1)).kept hb37).kept hb42)
  replace hB := (bthen (bthen (bthen hB (below_drewN (Below.refl _ _) 1)) hb37) hb42)
  have hs44 := hb37.size
  simp only [World.size_drew] at hs44
  have hs45 := hb42.size
  replace hc3_l : w.heap.size < w43.heap.size := World.block_lt_of_cell? _ _ hc3_0
  replace hc23_l : w12.heap.size < w43.heap.size := World.block_lt_of_cell? _ _ hc23_0
  replace hc31_l : w19.heap.size < w43.heap.size := World.block_lt_of_cell? _ _ hc31_0
  replace hc35_l : w26.heap.size < w43.heap.size := World.block_lt_of_cell? _ _ hc35_0
  clear ho41
  clear hb37 hb42
  go_wp2_with fail
  refine (laws_markCard (w12.heap.size + 1) (w19.heap.size) a20 c21 x1 1 _ ho22 (by omega) (by omega) hn1 (by first | omega | (simp only [World.size_alloc]; omega))).mono ?_
  rintro e w47 ⟨rfl, hw48, ho49⟩
  replace hc3_0 := hw48.cell hc3_0 (by dsimp only; omega)
  replace hc23_0 := hw48.cell hc23_0 (by dsimp only; omega)
  replace hc31_0 := hw48.cell hc31_0 (by dsimp only; omega)
  replace hc35_0 := hw48.cell hc35_0 (by dsimp only; omega)
  replace ho9 := ho9.within hw48 (by omega)
  replace ho15 := ho15.within hw48 (by omega)
  replace ho29 := ho29.within hw48 (by omega)
  replace hB := hw48.below hB (by omega) (by first | omega | (simp only [World.size_alloc]; omega))
  have hs50 := hw48.size
  replace hc3_l : w.heap.size < w47.heap.size := World.block_lt_of_cell? _ _ hc3_0
  replace hc23_l : w12.heap.size < w47.heap.size := World.block_lt_of_cell? _ _ hc23_0
  replace hc31_l : w19.heap.size < w47.heap.size := World.block_lt_of_cell? _ _ hc31_0
  replace hc35_l : w26.heap.size < w47.heap.size := World.block_lt_of_cell? _ _ hc35_0
  clear hw48
  clear ho22
  go_wp2_with fail
  refine (laws_eqCard_same a27 a13 c28 c14 (pbpL s0 s2 x1) _ (ho29.RI) (ho15.RI) (small hl30)).mono ?_
  rintro e w52 ⟨rfl, hb51⟩
  replace hc3_0 := (keep hb51 hc3_0)
  replace hc23_0 := (keep hb51 hc23_0)
  replace hc31_0 := (keep hb51 hc31_0)
  replace hc35_0 := (keep hb51 hc35_0)
  replace ho9 := (ho9.kept hb51)
  replace ho15 := (ho15.kept hb51)
  replace ho49 := (ho49.kept hb51)
  replace ho29 := (ho29.kept hb51)
  replace hB := (bthen hB hb51)
  have hs53 := hb51.size
  replace hc3_l : w.heap.size < w52.heap.size := World.block_lt_of_cell? _ _ hc3_0
  replace hc23_l : w12.heap.size < w52.heap.size := World.block_lt_of_cell? _ _ hc23_0
  replace hc31_l : w19.heap.size < w52.heap.size := World.block_lt_of_cell? _ _ hc31_0
  replace hc35_l : w26.heap.size < w52.heap.size := World.block_lt_of_cell? _ _ hc35_0
  clear hb51
  go_wp2_with fail
  refine (laws_markCard (w19.heap.size + 1) (w26.heap.size) a27 c28 (pbpL s0 s2 x1) 1 _ ho29 (by omega) (by omega) hl30 (by first | omega | (simp only [World.size_alloc]; omega))).mono ?_
  rintro e w55 ⟨rfl, hw56, ho57⟩
  replace hc3_0 := hw56.cell hc3_0 (by dsimp only; omega)
  replace hc23_0 := hw56.cell hc23_0 (by dsimp only; omega)
  replace hc31_0 := hw56.cell hc31_0 (by dsimp only; omega)
  replace hc35_0 := hw56.cell hc35_0 (by dsimp only; omega)
  replace ho9 := ho9.within hw56 (by omega)
  replace ho15 := ho15.within hw56 (by omega)
  replace ho49 := ho49.within hw56 (by omega)
  replace hB := hw56.below hB (by omega) (by first | omega | (simp only [World.size_alloc]; omega))
  have hs58 := hw56.size
  replace hc3_l : w.heap.size < w55.heap.size := World.block_lt_of_cell? _ _ hc3_0
  replace hc23_l : w12.heap.size < w55.heap.size := World.block_lt_of_cell? _ _ hc23_0
  replace hc31_l : w19.heap.size < w55.heap.size := World.block_lt_of_cell? _ _ hc31_0
  replace hc35_l : w26.heap.size < w55.heap.size := World.block_lt_of_cell? _ _ hc35_0
  clear hw56
  clear ho29
  go_wp2_with fail
  refine (laws_heldCard a27 c28 (pbpL s0 s2 x1).length 1 _ (ho57.RI) (by omega) (by omega) hl30).mono ?_
  rintro e w60 ⟨rfl, hb59⟩
  replace hc3_0 := (keep hb59 hc3_0)
  replace hc23_0 := (keep hb59 hc23_0)
  replace hc31_0 := (keep hb59 hc31_0)
  replace hc35_0 := (keep hb59 hc35_0)
  replace ho9 := (ho9.kept hb59)
  replace ho15 := (ho15.kept hb59)
  replace ho49 := (ho49.kept hb59)
  replace ho57 := (ho57.kept hb59)
  replace hB := (bthen hB hb59)
  have hs61 := hb59.size
  replace hc3_l : w.heap.size < w60.heap.size := World.block_lt_of_cell? _ _ hc3_0
  replace hc23_l : w12.heap.size < w60.heap.size := World.block_lt_of_cell? _ _ hc23_0
  replace hc31_l : w19.heap.size < w60.heap.size := World.block_lt_of_cell? _ _ hc31_0
  replace hc35_l : w26.heap.size < w60.heap.size := World.block_lt_of_cell? _ _ hc35_0
  clear hb59
  go_wp2_with fail
  refine (laws_toCard a1 c1 x1 _ (hx1.kept hB) hn1).mono ?_
  rintro e w63 ⟨a64, c65, rfl, ho66, hb62⟩
  replace hc3_0 := (keep hb62 hc3_0)
  replace hc23_0 := (keep hb62 hc23_0)
  replace hc31_0 := (keep hb62 hc31_0)
  replace hc35_0 := (keep hb62 hc35_0)
  replace ho9 := (ho9.kept hb62)
  replace ho15 := (ho15.kept hb62)
  replace ho49 := (ho49.kept hb62)
  replace ho57 := (ho57.kept hb62)
  replace hB := (bthen hB hb62)
  have hs67 := hb62.size
  replace hc3_l : w.heap.size < w63.heap.size := World.block_lt_of_cell? _ _ hc3_0
  replace hc23_l : w12.heap.size < w63.heap.size := World.block_lt_of_cell? _ _ hc23_0
  replace hc31_l : w19.heap.size < w63.heap.size := World.block_lt_of_cell? _ _ hc31_0
  replace hc35_l : w26.heap.size < w63.heap.size := World.block_lt_of_cell? _ _ hc35_0
  clear hb62
  replace ho66 := OI.of (own_mono (B := w60.heap.size) ho66 (by first | exact Nat.le_refl _ | simp))
  go_wp2_with fail
  refine (impl_PunchByProgram s0 a64 c65 x1 s2 _ (ho66.RI) hn0 hn1 hn2).mono ?_
  rintro e w69 ⟨a70, c71, rfl, ho72, hb68⟩
  replace hc3_0 := (keep hb68 hc3_0)
  replace hc23_0 := (keep hb68 hc23_0)
  replace hc31_0 := (keep hb68 hc31_0)
  replace hc35_0 := (keep hb68 hc35_0)
  replace ho9 := (ho9.kept hb68)
  replace ho15 := (ho15.kept hb68)
  replace ho49 := (ho49.kept hb68)
  replace ho57 := (ho57.kept hb68)
  replace ho66 := (ho66.kept hb68)
  replace hB := (bthen hB hb68)
  have hs74 := hb68.size
  replace hc3_l : w.heap.size < w69.heap.size := World.block_lt_of_cell? _ _ hc3_0
  replace hc23_l : w12.heap.size < w69.heap.size := World.block_lt_of_cell? _ _ hc23_0
  replace hc31_l : w19.heap.size < w69.heap.size := World.block_lt_of_cell? _ _ hc31_0
  replace hc35_l : w26.heap.size < w69.heap.size := World.block_lt_of_cell? _ _ hc35_0
  clear hb68
  replace ho72 := OI.of (own_mono (B := w63.heap.size) ho72 (by first | exact Nat.le_refl _ | simp))
  have hl73 := pbpL_len s0 s2 x1 hn0
  go_wp2_with fail
  refine (laws_eqCard_same a70 a13 c71 c14 (pbpL s0 s2 x1) _ ((ho72.RI).kept (below_alloc _)) ((ho15.RI).kept (below_alloc _)) (small hl73)).mono ?_
  rintro e w76 ⟨rfl, hb75⟩
  replace hc3_0 := (keep hb75 (keep (below_alloc _) hc3_0))
  replace hc23_0 := (keep hb75 (keep (below_alloc _) hc23_0))
  replace hc31_0 := (keep hb75 (keep (below_alloc _) hc31_0))
  replace hc35_0 := (keep hb75 (keep (below_alloc _) hc35_0))
  have hc77_0 : w76.cell? ⟨w69.heap.size, 0, none⟩ = some (.slice a70 (pbpL s0 s2 x1).length c71) := (keep hb75 (by simp [go_sem]))
  replace ho9 := ((ho9.kept (below_alloc _)).kept hb75)
  replace ho15 := ((ho15.kept (below_alloc _)).kept hb75)
  replace ho49 := ((ho49.kept (below_alloc _)).kept hb75)
  replace ho57 := ((ho57.kept (below_alloc _)).kept hb75)
  replace ho66 := ((ho66.kept (below_alloc _)).kept hb75)
  replace ho72 := ((ho72.kept (below_alloc _)).kept hb75)
  replace hB := (bthen (bthen hB (below_alloc _)) hb75)
  have hs78 := hb75.size
  simp only [World.size_alloc] at hs78
  replace hc3_l : w.heap.size < w76.heap.size := World.block_lt_of_cell? _ _ hc3_0
  replace hc23_l : w12.heap.size < w76.heap.size := World.block_lt_of_cell? _ _ hc23_0
  replace hc31_l : w19.heap.size < w76.heap.size := World.block_lt_of_cell? _ _ hc31_0
  replace hc35_l : w26.heap.size < w76.heap.size := World.block_lt_of_cell? _ _ hc35_0
  have hc77_l : w69.heap.size < w76.heap.size := World.block_lt_of_cell? _ _ hc77_0
  clear hb75
  go_wp2_with fail
  refine (laws_heldCard a27 c28 (pbpL s0 s2 x1).length 1 _ (ho57.RI) (by omega) (by omega) hl30).mono ?_
  rintro e w80 ⟨rfl, hb79⟩
  replace hc3_0 := (keep hb79 hc3_0)
  replace hc23_0 := (keep hb79 hc23_0)
  replace hc31_0 := (keep hb79 hc31_0)
  replace hc35_0 := (keep hb79 hc35_0)
  replace hc77_0 := (keep hb79 hc77_0)
  replace ho9 := (ho9.kept hb79)
  replace ho15 := (ho15.kept hb79)
  replace ho49 := (ho49.kept hb79)
  replace ho57 := (ho57.kept hb79)
  replace ho66 := (ho66.kept hb79)
  replace ho72 := (ho72.kept hb79)
  replace hB := (bthen hB hb79)
  have hs81 := hb79.size
  replace hc3_l : w.heap.size < w80.heap.size := World.block_lt_of_cell? _ _ hc3_0
  replace hc23_l : w12.heap.size < w80.heap.size := World.block_lt_of_cell? _ _ hc23_0
  replace hc31_l : w19.heap.size < w80.heap.size := World.block_lt_of_cell? _ _ hc31_0
  replace hc35_l : w26.heap.size < w80.heap.size := World.block_lt_of_cell? _ _ hc35_0
  replace hc77_l : w69.heap.size < w80.heap.size := World.block_lt_of_cell? _ _ hc77_0
  clear hb79
  go_wp2_with fail
  go_ret
  exact ⟨rfl, hB⟩

theorem lifted (os : Os) (started : os.Started) (H : Type) (enc : TypeId × Value → H) :
    ReturnsInHanded {} Try.checked os 5 .any (Rows.fnExactPunchByProgramSpec.pre6 enc Try.prog Try.f5 Rows.fnExactPunchByProgramRow.domain false) (Rows.fnExactPunchByProgramSpec.post enc Try.prog Try.f5 false true false false) := by
  refine returnsInHanded_of_change (C := Try.checked) own started (by kernel_rfl) Try.func5
    (ChangeSpec.witness6 (enc := enc) (C := Try.checked) false ⟨#[], #[.string ByteArray.empty, .agg #[.slice none 0 0], .string ByteArray.empty], []⟩ 8 (by kernel_rfl) (by kernel_rfl) (by kernel_rfl) (by kernel_rfl)) ?_
  intro W base args ds gs before hval0 hW hcnd _
  have hval : ∀ (j : Nat) t v, Try.f5.params[j]? = some t → args[j]? = some v → Value.okWide Try.prog W .any base t v := hval0
  have hW' := hW
  obtain ⟨p, q, hA0, hV, rfl, hfz, hnd⟩ := hW
  have hA : DataW.TrodAll enc Try.prog W 0 (fun _ => true) true Try.f5.params.toList args.toList ds p := hA0
  rw [Try.params5] at hA hval
  obtain ⟨v0, vs0, d0, ds0, p0, q0, hargs, rfl, rfl, h0, r0⟩ := trodAll_cons hA
  obtain ⟨v1, vs1, d1, ds1, p1, q1, rfl, rfl, rfl, h1, r1⟩ := trodAll_cons r0
  obtain ⟨v2, vs2, d2, ds2, p2, q2, rfl, rfl, rfl, h2, r2⟩ := trodAll_cons r1
  obtain ⟨rfl, rfl, rfl⟩ := trodAll_nil r2
  obtain rfl : args = #[v0, v1, v2] := by cases args; simp_all
  obtain ⟨rfl, rfl⟩ := trodVars_none hV
  obtain ⟨s0, rfl, rfl, rfl, z0⟩ := open_string Try.underlying9 (hval 0 9 v0 rfl rfl) h0
  have k1 := h1
  have lt1 : ∀ x ∈ p1, x.block < W.heap.size := by obtain ⟨m, hm⟩ := k1; exact DataW.trod_lt m _ _ _ hm
  obtain ⟨a1, c1, x1, rfl, hx1, hm1⟩ := open_card Try.underlying24 rfl rfl Try.underlying22 Try.underlying2 (by kernel_rfl) (by kernel_rfl) (by kernel_rfl) (hval 1 24 v1 rfl rfl) h1
  obtain ⟨s2, rfl, rfl, rfl, z2⟩ := open_string Try.underlying9 (hval 2 9 v2 rfl rfl) h2
  clear hA0 hval0
  refine (walk s0 a1 c1 x1 s2 W z0 hx1 hm1 z2).mono fun e W' ⟨he, bel⟩ => ?_
  subst he
  exact ⟨_, rfl, _, _, _, [], _, [], hW', trodAll_mk1 (shut_bool Try.underlying4 _), (trodAll_cons_mk (shut_string Try.underlying9 z0) (trodAll_cons_mk (Below.trod laidOut (by kernel_rfl) (of_decide_eq_true (by kernel_rfl)) k1 bel lt1) (trodAll_cons_mk (shut_string Try.underlying9 z2) trodAll_mk0))), rfl, bel.frame _, fun h => by cases h⟩

theorem over : Rows.fnExactPunchByProgramRow.holds Try.pinned (OpenSpec.ofChange Rows.fnExactPunchByProgramSpec) :=
  OpenClaim.holds_of_wide 5 Try.f5 rfl rfl rfl rfl rfl rfl rfl ⟨rfl, rfl, rfl, rfl, rfl⟩ rfl rfl rfl rfl rfl (by kernel_rfl) Try.func5 (by kernel_rfl)
    (of_decide_eq_true (by kernel_rfl)) (by unfold Func.isWrapper; first | (rw [if_pos (by decide +kernel)]; kernel_rfl) | (rw [if_neg (by decide +kernel)]; exact ⟨rfl, rfl⟩))
    (fun os started H enc _ => lifted os started H enc)

/-- The statement. -/
theorem proved : Rows.FnExactPunchByProgramSaid := over
#print axioms proved
end Go.Proofs.Ytoeohebobmkobaa.fnExactPunchByProgram
