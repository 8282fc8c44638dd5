/- The walk of the function that draws a layout, a deck, a name and a value for the laws. -/
import Derived.Test.YtcbjfgjlhjjpiaaGreatDoorDrG
namespace Go.Proofs.YtcbjfgjlhjjpiaaGreatDoor
open Go.RowKit
set_option maxRecDepth 100000
set_option linter.unusedVariables false
set_option linter.unusedSimpArgs false
set_option linter.unnecessarySimpa false

set_option maxHeartbeats 4000000 in
theorem spec_DrawCountValue (a : Option Addr) (c : Nat) (l : List UInt8) (w : World) (hx : RB w a l) (hl : l.length ≤ 1073741824) :
    Calls Tryz.prog 31 #[.slice a l.length c] w fun e w' => ∃ (wd : Int) (a' : Option Addr) (c' : Nat) (xs : List Itm) (b : Option Addr) (d : Nat) (xss : List (List Int)) (t v : ByteArray), e = .returned (.tuple #[.agg #[.int .i64 wd, .slice a' xs.length c'], .slice b xss.length d, .string t, .string v]) ∧ LayP wd xs ∧ RT w' a' xs ∧ xs.length ≤ c' ∧ DeckP xss ∧ RD w' b xss ∧ t.size ≤ 24 ∧ v.size ≤ 1048576 ∧ Below w.heap.size w w' := by
  have hb1 := Lib.hid (below_alloc (w := w) (.cells #[.int .i64 0, .slice none 0 0] 35))
  have hkR := Lib.hid (show Bk (w.alloc (.cells #[.int .i64 0, .slice none 0 0] 35)) (w.heap.size) 35 #[.int .i64 0, .slice none 0 0] from Bk.new _ _ _)
  go_enter Tryz.func31, Tryz.ntmps31
  go_wp2_with fail
  refine (spec_l00From a c l _ (hx.kept hb1.out)).mono ?_
  rintro e w1 ⟨rfl, hs, hb⟩
  rw [show (w.alloc (.cells #[.int .i64 0, .slice none 0 0] 35)).heap.size = w.heap.size + 1 by simp] at hs
  replace hkR := Lib.hid (hkR.out.kept hb)
  have hB1 := Lib.hid (bthen hb1.out hb)
  have hT := Lib.hid (St.start hs)
  have hz := hT.out.size
  clear hs hb hb1
  simp only [World.size_alloc]
  generalize hBe : w.heap.size + 1 = B at *
  have hBw : w.heap.size + 1 ≤ B := by omega
  clear hBe
  have hltR := hkR.out.lt
  go_wp2_with fail
  refine (spec_l04Bent B a c l _ w1 hT.out.src (by omega) hl).mono ?_
  rintro e v1 ⟨WD, a3, c3, xs, rfl, hP0, hoI, hs, hw⟩
  have hP := Lib.hid hP0
  replace hoI := Lib.hid hoI
  clear hP0
  have hmv1 := hw.size
  replace hT := Lib.hid (hT.out.step hs hw)
  replace hkR := Lib.hid (hkR.out.within hw (by omega))
  have hzv1 := hT.out.size
  have hltRv1 := hkR.out.lt
  clear hs hw
  have hsz := hP.out.sz
  have hW0 : -1 ≤ WD := hP.out.1
  have hW1 : WD ≤ 21 := hP.out.2.1
  have hm16 : xs.length ≤ 16 := hP.out.2.2.1
  generalize hxm : xs.length = m at *
  replace hxm := Lib.hid hxm
  replace hoI := Lib.hid (show OV w1.heap.size v1.heap.size v1 48 4 a3 m c3 (itemsV xs) by have h := hoI.out; unfold OT at h; rw [hxm.out] at h; exact h)
  go_wp2_with fail
  have hA := Lib.hid (below_alloc (w := v1) (.cells #[.int .i64 WD, .slice a3 m c3] 35))
  have hkn := Lib.hid (show Bk (v1.alloc (.cells #[.int .i64 WD, .slice a3 m c3] 35)) (v1.heap.size) 35 #[.int .i64 WD, .slice a3 m c3] from (by first | exact Bk.new _ _ _ | simpa using Bk.new v1 #[.int .i64 WD, .slice a3 m c3] 35))
  replace hT := Lib.hid (hT.out.kept hA.out)
  replace hkR := Lib.hid (hkR.out.kept hA.out)
  replace hoI := Lib.hid (hoI.out.kept hA.out)
  have hqL : v1.heap.size + 1 ≤ (v1.alloc (.cells #[.int .i64 WD, .slice a3 m c3] 35)).heap.size ∧ (v1.alloc (.cells #[.int .i64 WD, .slice a3 m c3] 35)).heap.size ≤ v1.heap.size + 1 := by simp
  have hkL := hkn
  clear hkn hA
  generalize (v1.alloc (.cells #[.int .i64 WD, .slice a3 m c3] 35)) = v2 at *
  have hzv2 := hT.out.size
  have hLg : ¬ v1.heap.size = w.heap.size := by omega
  have hLg2 : ¬ w.heap.size = v1.heap.size := by omega
  have hLB : ¬ v1.heap.size = B := by omega
  have hBR : ¬ w.heap.size = B := by omega
  go_wp2_with fail
  refine (spec_l04DrawDeck B a c l _ (v1.heap.size) WD a3 c3 m xs _ _ v2 hT.out.src (by omega) hl hkL.out hLB hoI.out (by omega) hxm.out hP.out).mono ?_
  rintro e v3 ⟨a5, c5, xss, rfl, hD, hw0, hs, hw⟩
  have hoW := Lib.hid hw0
  clear hw0
  have hmv3 := hw.size
  replace hT := Lib.hid (hT.out.step hs hw)
  replace hkR := Lib.hid (hkR.out.within hw (by omega))
  replace hkL := Lib.hid (hkL.out.within hw (by omega))
  replace hoI := Lib.hid (hoI.out.within hw (by omega))
  have hzv3 := hT.out.size
  have hltRv3 := hkR.out.lt
  have hltLv3 := hkL.out.lt
  clear hs hw
  have hxn : xss.length ≤ 64 := hD.1
  generalize hN : xss.length = N at *
  replace hN := Lib.hid hN
  go_wp2_with fail
  refine (spec_l04Name B a c l _ v3 hT.out.src (by omega) hl).mono ?_
  rintro e v4 ⟨t, rfl, ht24, hs, hw⟩
  have hmv4 := hw.size
  replace hT := Lib.hid (hT.out.step hs hw)
  replace hkR := Lib.hid (hkR.out.within hw (by omega))
  replace hkL := Lib.hid (hkL.out.within hw (by omega))
  replace hoI := Lib.hid (hoI.out.within hw (by omega))
  replace hoW := Lib.hid (hoW.out.within hw (by omega))
  have hzv4 := hT.out.size
  have hltRv4 := hkR.out.lt
  have hltLv4 := hkL.out.lt
  clear hs hw
  have hfd := Lib.hid (spec_l04Find (v1.heap.size) WD a3 c3 xs t v4 (by rw [hxm.out]; exact hkL.out.two.2.1) hoI.out.row hsz)
  go_wp2_with fail
  refine (hfd.out).mono ?_
  rintro e v5 ⟨rfl, hb⟩
  replace hT := Lib.hid (hT.out.kept hb)
  replace hkR := Lib.hid (hkR.out.kept hb)
  replace hkL := Lib.hid (hkL.out.kept hb)
  replace hoI := Lib.hid (hoI.out.kept hb)
  replace hoW := Lib.hid (hoW.out.kept hb)
  have hzbv5 := hb.size
  have hzv5 := hT.out.size
  have hltRv5 := hkR.out.lt
  have hltLv5 := hkL.out.lt
  clear hb
  clear hfd
  by_cases hf : findI xs t < 0
  · have hd : decide ((0 : Int) ≤ findI xs t) = false := decide_eq_false (by omega)
    generalize findI xs t = F at *
    replace hf := Lib.hid hf
    obtain ⟨cL_0, cL_1, fL_0, fL_1⟩ := hkL.out.two
    obtain ⟨cR_0, cR_1, fR_0, fR_1⟩ := hkR.out.two
    go_wp2_with fail
    first | go_region_held3 (fun V => With2 B w.heap.size v5 V ∧ V.cell? ⟨v1.heap.size, 0, none⟩ = some (.int .i64 WD) ∧ V.cell? ⟨v1.heap.size, 1, none⟩ = some (.slice a3 m c3)) (first | assumption | exact heldS3 (With2.of (Within.of_below (below_drewN (Below.refl _ _) 1))) cL_0 cL_1 hLB hLg hLB hLg | (rename With2 B w.heap.size v5 _ ∧ _ => hH; refine heldS3 (hH.1.trans (With2.of ?_)) cL_0 cL_1 hLB hLg hLB hLg; assumption) | (rename With2 B w.heap.size v5 _ ∧ _ => hH; exact heldS3 (hH.1.trans (With2.of (Within.of_below (below_alloc _)))) cL_0 cL_1 hLB hLg hLB hLg) | (rename With2 B w.heap.size v5 _ ∧ _ => hH; exact heldS3 ((hH.1.set _ _).set _ _) cL_0 cL_1 hLB hLg hLB hLg)) (first | (go_at_call 79; ((with_reducible refine (spec_srcTextN B a c l _ _ 0 4 4 [⟨#[]⟩, ⟨#[48]⟩, ⟨#[65]⟩, ⟨#[49]⟩] _ (hT.out.src.kept (bthen (below_alloc _) (Below.refl _ _).drew)) (by omega) hl ((RS4_new _ _ _ _ _ _).kept (Below.refl _ _).drew) rfl (by omega) (by omega) (by omega)).mono ?_); rintro e wq0 ⟨s, rfl, hsm, hsq0, hwq0⟩; have hw9 := (Within.of_below (lo := B) (hi := B + 1) (bthen (below_alloc (w := v5) (.cells #[.string ⟨#[]⟩, .string ⟨#[48]⟩, .string ⟨#[65]⟩, .string ⟨#[49]⟩] 9)) (Below.refl _ _).drew)).trans hwq0; have hr9 := hw9.cell cR_0 (by dsimp only; omega); have hr8 := hw9.cell cR_1 (by dsimp only; omega); have hr7 := hw9.frozen cR_0 fR_0 (by dsimp only; omega); have hr6 := hw9.frozen cR_1 fR_1 (by dsimp only; omega))) | (go_at_call 79; ((with_reducible refine (spec_srcTextN B a c l _ _ 0 4 4 [⟨#[]⟩, ⟨#[48]⟩, ⟨#[65]⟩, ⟨#[49]⟩] _ (hT.out.src.kept (bthen (Below.refl _ _).drew (below_alloc _))) (by omega) hl (RS4_new _ _ _ _ _ _) rfl (by omega) (by omega) (by omega)).mono ?_); rintro e wq0 ⟨s, rfl, hsm, hsq0, hwq0⟩; have hw9 := (Within.of_below (lo := B) (hi := B + 1) (bthen (Below.refl v5.heap.size v5).drew (below_alloc (.cells #[.string ⟨#[]⟩, .string ⟨#[48]⟩, .string ⟨#[65]⟩, .string ⟨#[49]⟩] 9)))).trans hwq0; have hr9 := hw9.cell cR_0 (by dsimp only; omega); have hr8 := hw9.cell cR_1 (by dsimp only; omega); have hr7 := hw9.frozen cR_0 fR_0 (by dsimp only; omega); have hr6 := hw9.frozen cR_1 fR_1 (by dsimp only; omega)))) | fail
    go_wp2_with fail
    clear cL_0 cL_1 fL_0 fL_1 cR_0 cR_1 fR_0 fR_1
    replace hT := Lib.hid (hT.out.step hsq0 hw9)
    replace hkR := Lib.hid (hkR.out.within hw9 (by omega))
    replace hkL := Lib.hid (hkL.out.within hw9 (by omega))
    replace hoI := Lib.hid (hoI.out.within hw9 (by omega))
    replace hoW := Lib.hid (hoW.out.within hw9 (by omega))
    clear hsq0 hwq0 hw9
    have hs24 := texts4 hsm
    refine bodyPost_ret (v := .tuple #[.agg #[.int .i64 WD, .slice a3 m c3], .slice a5 N c5, .string t, .string s]) (by simp [results, Tryz.results31, go_sem, *]) rfl ⟨WD, a3, c3, xs, a5, c5, xss, t, s, by rw [hxm.out, hN.out], hP.out, (show RT _ a3 xs from ((hoI.out.setBelow (p := ⟨w.heap.size, 0, none⟩) (by dsimp only; omega) (.int .i64 WD)).setBelow (p := ⟨w.heap.size, 1, none⟩) (by dsimp only; omega) (.slice a3 m c3)).row), by rw [hxm.out]; exact hoI.out.capn.1, hD, ((hoW.out.setBelow (p := ⟨w.heap.size, 0, none⟩) (by dsimp only; omega) (.int .i64 WD)).setBelow (p := ⟨w.heap.size, 1, none⟩) (by dsimp only; omega) (.slice a3 m c3)).RD, ht24, (by omega), (((hT.out.win.below (B := w.heap.size) hB1.out (by omega) hB1.out.size).setCell (p := ⟨w.heap.size, 0, none⟩) (Nat.le_refl _) _).setCell (p := ⟨w.heap.size, 1, none⟩) (Nat.le_refl _) _)⟩
  · obtain ⟨k, x, hk, hxk, _⟩ := item_some hf
    clear hf
    rw [hk]
    replace hk := Lib.hid hk
    have hkm : k < m := by rw [← hxm.out]; exact (List.getElem?_eq_some_iff.1 hxk).1
    have hk0 : (0 : Int) ≤ (k : Int) := by omega
    have hd : decide ((0 : Int) ≤ (k : Int)) = true := decide_eq_true hk0
    by_cases hN0 : N = 0
    · have hd2 : decide ((0 : Int) < (N : Int)) = false := decide_eq_false (by omega)
      have hd3 : decide (0 < N) = false := decide_eq_false (by omega)
      replace hN0 := Lib.hid hN0
      obtain ⟨cL_0, cL_1, fL_0, fL_1⟩ := hkL.out.two
      obtain ⟨cR_0, cR_1, fR_0, fR_1⟩ := hkR.out.two
      go_wp2_with fail
      first | go_region_held3 (fun V => With2 B w.heap.size v5 V ∧ V.cell? ⟨v1.heap.size, 0, none⟩ = some (.int .i64 WD) ∧ V.cell? ⟨v1.heap.size, 1, none⟩ = some (.slice a3 m c3)) (first | assumption | exact heldS3 (With2.of (Within.of_below (below_drewN (Below.refl _ _) 1))) cL_0 cL_1 hLB hLg hLB hLg | (rename With2 B w.heap.size v5 _ ∧ _ => hH; refine heldS3 (hH.1.trans (With2.of ?_)) cL_0 cL_1 hLB hLg hLB hLg; assumption) | (rename With2 B w.heap.size v5 _ ∧ _ => hH; exact heldS3 (hH.1.trans (With2.of (Within.of_below (below_alloc _)))) cL_0 cL_1 hLB hLg hLB hLg) | (rename With2 B w.heap.size v5 _ ∧ _ => hH; exact heldS3 ((hH.1.set _ _).set _ _) cL_0 cL_1 hLB hLg hLB hLg)) (first | (go_at_call 79; ((with_reducible refine (spec_srcTextN B a c l _ _ 0 4 4 [⟨#[]⟩, ⟨#[48]⟩, ⟨#[65]⟩, ⟨#[49]⟩] _ (hT.out.src.kept (bthen (below_alloc _) (Below.refl _ _).drew)) (by omega) hl ((RS4_new _ _ _ _ _ _).kept (Below.refl _ _).drew) rfl (by omega) (by omega) (by omega)).mono ?_); rintro e wq0 ⟨s, rfl, hsm, hsq0, hwq0⟩; have hw9 := (Within.of_below (lo := B) (hi := B + 1) (bthen (below_alloc (w := v5) (.cells #[.string ⟨#[]⟩, .string ⟨#[48]⟩, .string ⟨#[65]⟩, .string ⟨#[49]⟩] 9)) (Below.refl _ _).drew)).trans hwq0; have hr9 := hw9.cell cR_0 (by dsimp only; omega); have hr8 := hw9.cell cR_1 (by dsimp only; omega); have hr7 := hw9.frozen cR_0 fR_0 (by dsimp only; omega); have hr6 := hw9.frozen cR_1 fR_1 (by dsimp only; omega))) | (go_at_call 79; ((with_reducible refine (spec_srcTextN B a c l _ _ 0 4 4 [⟨#[]⟩, ⟨#[48]⟩, ⟨#[65]⟩, ⟨#[49]⟩] _ (hT.out.src.kept (bthen (Below.refl _ _).drew (below_alloc _))) (by omega) hl (RS4_new _ _ _ _ _ _) rfl (by omega) (by omega) (by omega)).mono ?_); rintro e wq0 ⟨s, rfl, hsm, hsq0, hwq0⟩; have hw9 := (Within.of_below (lo := B) (hi := B + 1) (bthen (Below.refl v5.heap.size v5).drew (below_alloc (.cells #[.string ⟨#[]⟩, .string ⟨#[48]⟩, .string ⟨#[65]⟩, .string ⟨#[49]⟩] 9)))).trans hwq0; have hr9 := hw9.cell cR_0 (by dsimp only; omega); have hr8 := hw9.cell cR_1 (by dsimp only; omega); have hr7 := hw9.frozen cR_0 fR_0 (by dsimp only; omega); have hr6 := hw9.frozen cR_1 fR_1 (by dsimp only; omega)))) | fail
      go_wp2_with fail
      clear cL_0 cL_1 fL_0 fL_1 cR_0 cR_1 fR_0 fR_1
      replace hT := Lib.hid (hT.out.step hsq0 hw9)
      replace hkR := Lib.hid (hkR.out.within hw9 (by omega))
      replace hkL := Lib.hid (hkL.out.within hw9 (by omega))
      replace hoI := Lib.hid (hoI.out.within hw9 (by omega))
      replace hoW := Lib.hid (hoW.out.within hw9 (by omega))
      clear hsq0 hwq0 hw9
      have hs24 := texts4 hsm
      refine bodyPost_ret (v := .tuple #[.agg #[.int .i64 WD, .slice a3 m c3], .slice a5 N c5, .string t, .string s]) (by simp [results, Tryz.results31, go_sem, *]) rfl ⟨WD, a3, c3, xs, a5, c5, xss, t, s, by rw [hxm.out, hN.out], hP.out, (show RT _ a3 xs from ((hoI.out.setBelow (p := ⟨w.heap.size, 0, none⟩) (by dsimp only; omega) (.int .i64 WD)).setBelow (p := ⟨w.heap.size, 1, none⟩) (by dsimp only; omega) (.slice a3 m c3)).row), by rw [hxm.out]; exact hoI.out.capn.1, hD, ((hoW.out.setBelow (p := ⟨w.heap.size, 0, none⟩) (by dsimp only; omega) (.int .i64 WD)).setBelow (p := ⟨w.heap.size, 1, none⟩) (by dsimp only; omega) (.slice a3 m c3)).RD, ht24, (by omega), (((hT.out.win.below (B := w.heap.size) hB1.out (by omega) hB1.out.size).setCell (p := ⟨w.heap.size, 0, none⟩) (Nat.le_refl _) _).setCell (p := ⟨w.heap.size, 1, none⟩) (Nat.le_refl _) _)⟩
    · have hd2 : decide ((0 : Int) < (N : Int)) = true := decide_eq_true (by omega)
      have hd3 : decide (0 < N) = true := decide_eq_true (by omega)
      have hN1 : (0 : Int) < (N : Int) := by omega
      have hN2 : 0 < N := by omega
      obtain ⟨g5, y, a6, c6, rfl, hy0, q1, q2, q3, hg5, hiY, hoY⟩ := hoW.out.first (by rw [hN.out]; exact hN2)
      have hy64 : y.length ≤ 64 := hD.2 y (List.mem_of_getElem? hy0)
      replace q1 := Lib.hid q1
      replace hoY := Lib.hid hoY
      have hfi := Lib.hid (spec_l04Fits (v1.heap.size) WD a3 c3 xs g5 a6 c6 y v5 hkL.out.two.1 (by rw [hxm.out]; exact hkL.out.two.2.1) q1.out hoI.out.row q2 hsz (by omega))
      clear hy0 q2
      go_wp2_with fail
      refine (hfi.out).mono ?_
      rintro e v6 ⟨rfl, hb⟩
      replace q1 := Lib.hid (keep hb q1.out)
      replace hT := Lib.hid (hT.out.kept hb)
      replace hkR := Lib.hid (hkR.out.kept hb)
      replace hkL := Lib.hid (hkL.out.kept hb)
      replace hoI := Lib.hid (hoI.out.kept hb)
      replace hoW := Lib.hid (hoW.out.kept hb)
      replace hoY := Lib.hid (hoY.out.kept hb)
      have hzbv6 := hb.size
      have hzv6 := hT.out.size
      have hltRv6 := hkR.out.lt
      have hltLv6 := hkL.out.lt
      clear hb
      clear hfi
      by_cases h0 : layI WD xs [y] (validCardL y) = 0
      · obtain ⟨r1, r2, r3, r4⟩ := fit_card h0 (List.mem_of_getElem? hxk)
        rw [h0]
        have hvz := val_size r3 r4 (by omega : y.length ≤ 1048576)
        have hmsk := Lib.hid (mask_of r1)
        replace r3 := Lib.hid r3
        replace r4 := Lib.hid r4
        clear r1 r2 h0
        go_wp2_with fail
        refine (spec_one B a c l _ 2 v6 hT.out.src (by omega) hl (by omega) (by omega)).mono ?_
        rintro e v7 ⟨b, rfl, hs, hw⟩
        replace q1 := Lib.hid (hw.cell q1.out (by dsimp only; omega))
        have hmv7 := hw.size
        replace hT := Lib.hid (hT.out.step hs hw)
        replace hkR := Lib.hid (hkR.out.within hw (by omega))
        replace hkL := Lib.hid (hkL.out.within hw (by omega))
        replace hoI := Lib.hid (hoI.out.within hw (by omega))
        replace hoW := Lib.hid (hoW.out.within hw (by omega))
        replace hoY := Lib.hid (hoY.out.within hw (by omega))
        have hzv7 := hT.out.size
        have hltRv7 := hkR.out.lt
        have hltLv7 := hkL.out.lt
        clear hs hw
        cases b
        · skip
          obtain ⟨cL_0, cL_1, fL_0, fL_1⟩ := hkL.out.two
          obtain ⟨cR_0, cR_1, fR_0, fR_1⟩ := hkR.out.two
          go_wp2_with fail
          first | go_region_held3 (fun V => With2 B w.heap.size v7 V ∧ V.cell? ⟨v1.heap.size, 0, none⟩ = some (.int .i64 WD) ∧ V.cell? ⟨v1.heap.size, 1, none⟩ = some (.slice a3 m c3)) (first | assumption | exact heldS3 (With2.of (Within.of_below (below_drewN (Below.refl _ _) 1))) cL_0 cL_1 hLB hLg hLB hLg | (rename With2 B w.heap.size v7 _ ∧ _ => hH; refine heldS3 (hH.1.trans (With2.of ?_)) cL_0 cL_1 hLB hLg hLB hLg; assumption) | (rename With2 B w.heap.size v7 _ ∧ _ => hH; exact heldS3 (hH.1.trans (With2.of (Within.of_below (below_alloc _)))) cL_0 cL_1 hLB hLg hLB hLg) | (rename With2 B w.heap.size v7 _ ∧ _ => hH; exact heldS3 ((hH.1.set _ _).set _ _) cL_0 cL_1 hLB hLg hLB hLg)) (first | (go_at_call 79; ((with_reducible refine (spec_srcTextN B a c l _ _ 0 4 4 [⟨#[]⟩, ⟨#[48]⟩, ⟨#[65]⟩, ⟨#[49]⟩] _ (hT.out.src.kept (bthen (below_alloc _) (Below.refl _ _).drew)) (by omega) hl ((RS4_new _ _ _ _ _ _).kept (Below.refl _ _).drew) rfl (by omega) (by omega) (by omega)).mono ?_); rintro e wq0 ⟨s, rfl, hsm, hsq0, hwq0⟩; have hw9 := (Within.of_below (lo := B) (hi := B + 1) (bthen (below_alloc (w := v7) (.cells #[.string ⟨#[]⟩, .string ⟨#[48]⟩, .string ⟨#[65]⟩, .string ⟨#[49]⟩] 9)) (Below.refl _ _).drew)).trans hwq0; have hr9 := hw9.cell cR_0 (by dsimp only; omega); have hr8 := hw9.cell cR_1 (by dsimp only; omega); have hr7 := hw9.frozen cR_0 fR_0 (by dsimp only; omega); have hr6 := hw9.frozen cR_1 fR_1 (by dsimp only; omega))) | (go_at_call 79; ((with_reducible refine (spec_srcTextN B a c l _ _ 0 4 4 [⟨#[]⟩, ⟨#[48]⟩, ⟨#[65]⟩, ⟨#[49]⟩] _ (hT.out.src.kept (bthen (Below.refl _ _).drew (below_alloc _))) (by omega) hl (RS4_new _ _ _ _ _ _) rfl (by omega) (by omega) (by omega)).mono ?_); rintro e wq0 ⟨s, rfl, hsm, hsq0, hwq0⟩; have hw9 := (Within.of_below (lo := B) (hi := B + 1) (bthen (Below.refl v7.heap.size v7).drew (below_alloc (.cells #[.string ⟨#[]⟩, .string ⟨#[48]⟩, .string ⟨#[65]⟩, .string ⟨#[49]⟩] 9)))).trans hwq0; have hr9 := hw9.cell cR_0 (by dsimp only; omega); have hr8 := hw9.cell cR_1 (by dsimp only; omega); have hr7 := hw9.frozen cR_0 fR_0 (by dsimp only; omega); have hr6 := hw9.frozen cR_1 fR_1 (by dsimp only; omega)))) | fail
          go_wp2_with fail
          clear cL_0 cL_1 fL_0 fL_1 cR_0 cR_1 fR_0 fR_1
          replace hT := Lib.hid (hT.out.step hsq0 hw9)
          replace hkR := Lib.hid (hkR.out.within hw9 (by omega))
          replace hkL := Lib.hid (hkL.out.within hw9 (by omega))
          replace hoI := Lib.hid (hoI.out.within hw9 (by omega))
          replace hoW := Lib.hid (hoW.out.within hw9 (by omega))
          replace hoY := Lib.hid (hoY.out.within hw9 (by omega))
          clear hsq0 hwq0 hw9
          have hs24 := texts4 hsm
          refine bodyPost_ret (v := .tuple #[.agg #[.int .i64 WD, .slice a3 m c3], .slice (some ⟨g5, 0, none⟩) N c5, .string t, .string s]) (by simp [results, Tryz.results31, go_sem, *]) rfl ⟨WD, a3, c3, xs, (some ⟨g5, 0, none⟩), c5, xss, t, s, by rw [hxm.out, hN.out], hP.out, (show RT _ a3 xs from ((hoI.out.setBelow (p := ⟨w.heap.size, 0, none⟩) (by dsimp only; omega) (.int .i64 WD)).setBelow (p := ⟨w.heap.size, 1, none⟩) (by dsimp only; omega) (.slice a3 m c3)).row), by rw [hxm.out]; exact hoI.out.capn.1, hD, ((hoW.out.setBelow (p := ⟨w.heap.size, 0, none⟩) (by dsimp only; omega) (.int .i64 WD)).setBelow (p := ⟨w.heap.size, 1, none⟩) (by dsimp only; omega) (.slice a3 m c3)).RD, ht24, (by omega), (((hT.out.win.below (B := w.heap.size) hB1.out (by omega) hB1.out.size).setCell (p := ⟨w.heap.size, 0, none⟩) (Nat.le_refl _) _).setCell (p := ⟨w.heap.size, 1, none⟩) (Nat.le_refl _) _)⟩
        · obtain ⟨g, rfl, hg1, hg2⟩ := OV.addr hoI.out (by omega)
          obtain ⟨⟨z0, z1, z2, z3⟩, _⟩ := row_item (a := none) hoI.out hxk
          have hq2 := Lib.hid (show RI v7 a6 y from OI.RI hoY.out)
          have hkm' : (k : Int) < (m : Int) := by omega
          have hvl := Lib.hid (fun (W : World) (hb : Below v7.heap.size v7 W) => spec_l04Value g (k * 4) g5 0 x a6 c6 y W (keep hb z1) (keep hb z2) (keep hb z3) (keep hb q1.out) (hq2.out.kept hb) (by omega) q3 r3.out r4.out hmsk.out)
          clear z0 z1 z2 z3 hmsk hq2
          generalize valS x y = vv at *
          obtain ⟨cL_0, cL_1, fL_0, fL_1⟩ := hkL.out.two
          go_wp2_with fail
          first | go_region_held3 (fun V => Below v7.heap.size v7 V ∧ V.cell? ⟨v1.heap.size, 1, none⟩ = some (.slice (some ⟨g, 0, none⟩) m c3)) (first | exact held1 (below_drewN (Below.refl _ _) 1) cL_1 | (rename Below v7.heap.size v7 _ ∧ _ => hH; refine held1 ?_ cL_1; (refine bthen hH.1 ?_; assumption))) (first | (go_at_call 101; ((with_reducible refine (hvl.out _ (Below.refl _ _).drew).mono ?_); rintro e wq0 ⟨rfl, hbq0⟩))) | fail
          clear cL_0 cL_1 fL_0 fL_1
          have hb := bthen (Below.refl v7.heap.size v7).drew hbq0
          clear hvl
          replace hT := Lib.hid (hT.out.kept hb)
          replace hkR := Lib.hid (hkR.out.kept hb)
          replace hkL := Lib.hid (hkL.out.kept hb)
          replace hoI := Lib.hid (hoI.out.kept hb)
          replace hoW := Lib.hid (hoW.out.kept hb)
          replace hoY := Lib.hid (hoY.out.kept hb)
          have hzq := hT.out.size
          clear hb hbq0
          obtain ⟨cL_0, cL_1, fL_0, fL_1⟩ := hkL.out.two
          obtain ⟨cR_0, cR_1, fR_0, fR_1⟩ := hkR.out.two
          obtain ⟨vv1, vv2⟩ := vv
          go_wp2_with fail
          refine bodyPost_ret (v := .tuple #[.agg #[.int .i64 WD, .slice (some ⟨g, 0, none⟩) m c3], .slice (some ⟨g5, 0, none⟩) N c5, .string t, .string vv1]) (by simp [results, Tryz.results31, go_sem, *]) rfl ⟨WD, (some ⟨g, 0, none⟩), c3, xs, (some ⟨g5, 0, none⟩), c5, xss, t, vv1, by rw [hxm.out, hN.out], hP.out, (show RT _ (some ⟨g, 0, none⟩) xs from ((hoI.out.setBelow (p := ⟨w.heap.size, 0, none⟩) (by dsimp only; omega) (.int .i64 WD)).setBelow (p := ⟨w.heap.size, 1, none⟩) (by dsimp only; omega) (.slice (some ⟨g, 0, none⟩) m c3)).row), by rw [hxm.out]; exact hoI.out.capn.1, hD, ((hoW.out.setBelow (p := ⟨w.heap.size, 0, none⟩) (by dsimp only; omega) (.int .i64 WD)).setBelow (p := ⟨w.heap.size, 1, none⟩) (by dsimp only; omega) (.slice (some ⟨g, 0, none⟩) m c3)).RD, ht24, hvz, (((hT.out.win.below (B := w.heap.size) hB1.out (by omega) hB1.out.size).setCell (p := ⟨w.heap.size, 0, none⟩) (Nat.le_refl _) _).setCell (p := ⟨w.heap.size, 1, none⟩) (Nat.le_refl _) _)⟩
      · have hcb : (layI WD xs [y] (validCardL y) == 0) = false := by simp [h0]
        generalize layI WD xs [y] (validCardL y) = LC at *
        replace h0 := Lib.hid h0
        obtain ⟨cL_0, cL_1, fL_0, fL_1⟩ := hkL.out.two
        obtain ⟨cR_0, cR_1, fR_0, fR_1⟩ := hkR.out.two
        go_wp2_with fail
        first | go_region_held3 (fun V => With2 B w.heap.size v6 V ∧ V.cell? ⟨v1.heap.size, 0, none⟩ = some (.int .i64 WD) ∧ V.cell? ⟨v1.heap.size, 1, none⟩ = some (.slice a3 m c3)) (first | assumption | exact heldS3 (With2.of (Within.of_below (below_drewN (Below.refl _ _) 1))) cL_0 cL_1 hLB hLg hLB hLg | (rename With2 B w.heap.size v6 _ ∧ _ => hH; refine heldS3 (hH.1.trans (With2.of ?_)) cL_0 cL_1 hLB hLg hLB hLg; assumption) | (rename With2 B w.heap.size v6 _ ∧ _ => hH; exact heldS3 (hH.1.trans (With2.of (Within.of_below (below_alloc _)))) cL_0 cL_1 hLB hLg hLB hLg) | (rename With2 B w.heap.size v6 _ ∧ _ => hH; exact heldS3 ((hH.1.set _ _).set _ _) cL_0 cL_1 hLB hLg hLB hLg)) (first | (go_at_call 79; ((with_reducible refine (spec_srcTextN B a c l _ _ 0 4 4 [⟨#[]⟩, ⟨#[48]⟩, ⟨#[65]⟩, ⟨#[49]⟩] _ (hT.out.src.kept (bthen (below_alloc _) (Below.refl _ _).drew)) (by omega) hl ((RS4_new _ _ _ _ _ _).kept (Below.refl _ _).drew) rfl (by omega) (by omega) (by omega)).mono ?_); rintro e wq0 ⟨s, rfl, hsm, hsq0, hwq0⟩; have hw9 := (Within.of_below (lo := B) (hi := B + 1) (bthen (below_alloc (w := v6) (.cells #[.string ⟨#[]⟩, .string ⟨#[48]⟩, .string ⟨#[65]⟩, .string ⟨#[49]⟩] 9)) (Below.refl _ _).drew)).trans hwq0; have hr9 := hw9.cell cR_0 (by dsimp only; omega); have hr8 := hw9.cell cR_1 (by dsimp only; omega); have hr7 := hw9.frozen cR_0 fR_0 (by dsimp only; omega); have hr6 := hw9.frozen cR_1 fR_1 (by dsimp only; omega))) | (go_at_call 79; ((with_reducible refine (spec_srcTextN B a c l _ _ 0 4 4 [⟨#[]⟩, ⟨#[48]⟩, ⟨#[65]⟩, ⟨#[49]⟩] _ (hT.out.src.kept (bthen (Below.refl _ _).drew (below_alloc _))) (by omega) hl (RS4_new _ _ _ _ _ _) rfl (by omega) (by omega) (by omega)).mono ?_); rintro e wq0 ⟨s, rfl, hsm, hsq0, hwq0⟩; have hw9 := (Within.of_below (lo := B) (hi := B + 1) (bthen (Below.refl v6.heap.size v6).drew (below_alloc (.cells #[.string ⟨#[]⟩, .string ⟨#[48]⟩, .string ⟨#[65]⟩, .string ⟨#[49]⟩] 9)))).trans hwq0; have hr9 := hw9.cell cR_0 (by dsimp only; omega); have hr8 := hw9.cell cR_1 (by dsimp only; omega); have hr7 := hw9.frozen cR_0 fR_0 (by dsimp only; omega); have hr6 := hw9.frozen cR_1 fR_1 (by dsimp only; omega)))) | fail
        go_wp2_with fail
        clear cL_0 cL_1 fL_0 fL_1 cR_0 cR_1 fR_0 fR_1
        replace hT := Lib.hid (hT.out.step hsq0 hw9)
        replace hkR := Lib.hid (hkR.out.within hw9 (by omega))
        replace hkL := Lib.hid (hkL.out.within hw9 (by omega))
        replace hoI := Lib.hid (hoI.out.within hw9 (by omega))
        replace hoW := Lib.hid (hoW.out.within hw9 (by omega))
        replace hoY := Lib.hid (hoY.out.within hw9 (by omega))
        clear hsq0 hwq0 hw9
        have hs24 := texts4 hsm
        refine bodyPost_ret (v := .tuple #[.agg #[.int .i64 WD, .slice a3 m c3], .slice (some ⟨g5, 0, none⟩) N c5, .string t, .string s]) (by simp [results, Tryz.results31, go_sem, *]) rfl ⟨WD, a3, c3, xs, (some ⟨g5, 0, none⟩), c5, xss, t, s, by rw [hxm.out, hN.out], hP.out, (show RT _ a3 xs from ((hoI.out.setBelow (p := ⟨w.heap.size, 0, none⟩) (by dsimp only; omega) (.int .i64 WD)).setBelow (p := ⟨w.heap.size, 1, none⟩) (by dsimp only; omega) (.slice a3 m c3)).row), by rw [hxm.out]; exact hoI.out.capn.1, hD, ((hoW.out.setBelow (p := ⟨w.heap.size, 0, none⟩) (by dsimp only; omega) (.int .i64 WD)).setBelow (p := ⟨w.heap.size, 1, none⟩) (by dsimp only; omega) (.slice a3 m c3)).RD, ht24, (by omega), (((hT.out.win.below (B := w.heap.size) hB1.out (by omega) hB1.out.size).setCell (p := ⟨w.heap.size, 0, none⟩) (Nat.le_refl _) _).setCell (p := ⟨w.heap.size, 1, none⟩) (Nat.le_refl _) _)⟩
end Go.Proofs.YtcbjfgjlhjjpiaaGreatDoor
