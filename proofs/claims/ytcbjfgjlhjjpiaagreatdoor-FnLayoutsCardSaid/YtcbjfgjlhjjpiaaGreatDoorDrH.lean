/- The walk of the function that draws a layout and an item for the laws. -/
import Derived.Test.YtcbjfgjlhjjpiaaGreatDoorDrG
namespace Go.Proofs.YtcbjfgjlhjjpiaaGreatDoor
open Go.RowKit
set_option maxRecDepth 100000
set_option linter.unusedVariables false
set_option linter.unusedSimpArgs false
set_option linter.unnecessarySimpa false

set_option maxHeartbeats 3000000 in
theorem spec_DrawAddItem (a : Option Addr) (c : Nat) (l : List UInt8) (w : World) (hx : RB w a l) (hl : l.length ≤ 1073741824) :
    Calls Tryz.prog 19 #[.slice a l.length c] w fun e w' => ∃ (wd : Int) (a' : Option Addr) (c' : Nat) (xs : List Itm) (p : Itm), e = .returned (.tuple #[.agg #[.int .i64 wd, .slice a' xs.length c'], .agg #[.string p.name, .int .i64 p.kind, .int .i64 p.fr, .int .i64 p.to]]) ∧ LayP wd xs ∧ RT w' a' xs ∧ xs.length ≤ c' ∧ p.name.size ≤ 24 ∧ Below w.heap.size w w' := by
  have hb1 := Lib.hid (below_alloc2 w (.cells #[.int .i64 0, .slice none 0 0] 35) (.cells #[.string ⟨#[]⟩, .int .i64 0, .int .i64 0, .int .i64 0] 48))
  have hkR := Lib.hid (show Bk ((w.alloc (.cells #[.int .i64 0, .slice none 0 0] 35)).alloc (.cells #[.string ⟨#[]⟩, .int .i64 0, .int .i64 0, .int .i64 0] 48)) (w.heap.size) 35 #[.int .i64 0, .slice none 0 0] from (Bk.new _ _ _).kept (below_alloc _))
  have hkQ := Lib.hid (show Bk ((w.alloc (.cells #[.int .i64 0, .slice none 0 0] 35)).alloc (.cells #[.string ⟨#[]⟩, .int .i64 0, .int .i64 0, .int .i64 0] 48)) (w.heap.size + 1) 48 #[.string ⟨#[]⟩, .int .i64 0, .int .i64 0, .int .i64 0] from by simpa using Bk.new (w.alloc (.cells #[.int .i64 0, .slice none 0 0] 35)) #[.string ⟨#[]⟩, .int .i64 0, .int .i64 0, .int .i64 0] 48)
  go_enter Tryz.func19, Tryz.ntmps19
  go_wp2_with fail
  refine (spec_l00From a c l _ (hx.kept hb1.out)).mono ?_
  rintro e w1 ⟨rfl, hs, hb⟩
  rw [show ((w.alloc (.cells #[.int .i64 0, .slice none 0 0] 35)).alloc (.cells #[.string ⟨#[]⟩, .int .i64 0, .int .i64 0, .int .i64 0] 48)).heap.size = w.heap.size + 2 by simp] at hs
  replace hkR := Lib.hid (hkR.out.kept hb)
  replace hkQ := Lib.hid (hkQ.out.kept hb)
  have hB1 := Lib.hid (bthen hb1.out hb)
  have hT := Lib.hid (St.start hs)
  have hz := hT.out.size
  clear hs hb hb1
  simp only [World.size_alloc]
  generalize hBe : w.heap.size + 2 = B at *
  have hBw : w.heap.size + 2 ≤ B := by omega
  clear hBe
  have hltR := hkR.out.lt
  have hltQ := hkQ.out.lt
  go_wp2_with fail
  refine (spec_l04Bent B a c l _ w1 hT.out.src (by omega) hl).mono ?_
  rintro e v1 ⟨WD, a3, c3, xs, rfl, hP0, hoI, hs, hw⟩
  have hP := Lib.hid hP0
  replace hoI := Lib.hid hoI
  clear hP0
  have hmv1 := hw.size
  replace hT := Lib.hid (hT.out.step hs hw)
  replace hkR := Lib.hid (hkR.out.within hw (by omega))
  replace hkQ := Lib.hid (hkQ.out.within hw (by omega))
  have hzv1 := hT.out.size
  have hltRv1 := hkR.out.lt
  have hltQv1 := hkQ.out.lt
  clear hs hw
  have hsz := hP.out.sz
  have hW0 : -1 ≤ WD := hP.out.1
  have hW1 : WD ≤ 21 := hP.out.2.1
  have hm16 : xs.length ≤ 16 := hP.out.2.2.1
  generalize hxm : xs.length = m at *
  replace hxm := Lib.hid hxm
  replace hoI := Lib.hid (show OV w1.heap.size v1.heap.size v1 48 4 a3 m c3 (itemsV xs) by have h := hoI.out; unfold OT at h; rw [hxm.out] at h; exact h)
  go_wp2_with fail
  have hA := Lib.hid (below_alloc (w := v1) (.cells #[.int .i64 WD, .slice a3 m c3] 35))
  have hkn := Lib.hid (show Bk (v1.alloc (.cells #[.int .i64 WD, .slice a3 m c3] 35)) (v1.heap.size) 35 #[.int .i64 WD, .slice a3 m c3] from (by first | exact Bk.new _ _ _ | simpa using Bk.new v1 #[.int .i64 WD, .slice a3 m c3] 35))
  replace hT := Lib.hid (hT.out.kept hA.out)
  replace hkR := Lib.hid (hkR.out.kept hA.out)
  replace hkQ := Lib.hid (hkQ.out.kept hA.out)
  replace hoI := Lib.hid (hoI.out.kept hA.out)
  have hqL : v1.heap.size + 1 ≤ (v1.alloc (.cells #[.int .i64 WD, .slice a3 m c3] 35)).heap.size ∧ (v1.alloc (.cells #[.int .i64 WD, .slice a3 m c3] 35)).heap.size ≤ v1.heap.size + 1 := by simp
  have hkL := hkn
  clear hkn hA
  have hA := Lib.hid (below_alloc (w := (v1.alloc (.cells #[.int .i64 WD, .slice a3 m c3] 35))) (.cells #[.string ⟨#[110, 101, 119]⟩, .string ⟨#[119, 104, 111]⟩, .string ⟨#[100, 97, 121]⟩, .string ⟨#[]⟩] 9))
  have hkn := Lib.hid (show Bk ((v1.alloc (.cells #[.int .i64 WD, .slice a3 m c3] 35)).alloc (.cells #[.string ⟨#[110, 101, 119]⟩, .string ⟨#[119, 104, 111]⟩, .string ⟨#[100, 97, 121]⟩, .string ⟨#[]⟩] 9)) (v1.heap.size + 1) 9 #[.string ⟨#[110, 101, 119]⟩, .string ⟨#[119, 104, 111]⟩, .string ⟨#[100, 97, 121]⟩, .string ⟨#[]⟩] from (by first | exact Bk.new _ _ _ | simpa using Bk.new (v1.alloc (.cells #[.int .i64 WD, .slice a3 m c3] 35)) #[.string ⟨#[110, 101, 119]⟩, .string ⟨#[119, 104, 111]⟩, .string ⟨#[100, 97, 121]⟩, .string ⟨#[]⟩] 9))
  replace hT := Lib.hid (hT.out.kept hA.out)
  replace hkR := Lib.hid (hkR.out.kept hA.out)
  replace hkQ := Lib.hid (hkQ.out.kept hA.out)
  replace hkL := Lib.hid (hkL.out.kept hA.out)
  replace hoI := Lib.hid (hoI.out.kept hA.out)
  have hqA : (v1.alloc (.cells #[.int .i64 WD, .slice a3 m c3] 35)).heap.size + 1 ≤ ((v1.alloc (.cells #[.int .i64 WD, .slice a3 m c3] 35)).alloc (.cells #[.string ⟨#[110, 101, 119]⟩, .string ⟨#[119, 104, 111]⟩, .string ⟨#[100, 97, 121]⟩, .string ⟨#[]⟩] 9)).heap.size ∧ ((v1.alloc (.cells #[.int .i64 WD, .slice a3 m c3] 35)).alloc (.cells #[.string ⟨#[110, 101, 119]⟩, .string ⟨#[119, 104, 111]⟩, .string ⟨#[100, 97, 121]⟩, .string ⟨#[]⟩] 9)).heap.size ≤ (v1.alloc (.cells #[.int .i64 WD, .slice a3 m c3] 35)).heap.size + 1 := by simp
  have hkA := hkn
  clear hkn hA
  generalize ((v1.alloc (.cells #[.int .i64 WD, .slice a3 m c3] 35)).alloc (.cells #[.string ⟨#[110, 101, 119]⟩, .string ⟨#[119, 104, 111]⟩, .string ⟨#[100, 97, 121]⟩, .string ⟨#[]⟩] 9)) = v2 at *
  have hzv2 := hT.out.size
  have hLg : ¬ v1.heap.size = w.heap.size := by omega
  have hLg2 : ¬ w.heap.size = v1.heap.size := by omega
  have hLB : ¬ v1.heap.size = B := by omega
  have hBR : ¬ w.heap.size = B := by omega
  have hrA := Lib.hid (show RS v2 (some ⟨v1.heap.size + 1, 0, none⟩) [⟨#[110, 101, 119]⟩, ⟨#[119, 104, 111]⟩, ⟨#[100, 97, 121]⟩, ⟨#[]⟩] from row_block hkA.out)
  clear hkA
  refine (spec_srcTextN B a c l _ (v1.heap.size + 1) 0 4 4 [⟨#[110, 101, 119]⟩, ⟨#[119, 104, 111]⟩, ⟨#[100, 97, 121]⟩, ⟨#[]⟩] v2 hT.out.src (by omega) hl hrA.out rfl (by omega) (by omega) (by omega)).mono ?_
  rintro e v3 ⟨t, rfl, htm, hs, hw⟩
  have hmv3 := hw.size
  replace hT := Lib.hid (hT.out.step hs hw)
  replace hkR := Lib.hid (hkR.out.within hw (by omega))
  replace hkQ := Lib.hid (hkQ.out.within hw (by omega))
  replace hkL := Lib.hid (hkL.out.within hw (by omega))
  replace hoI := Lib.hid (hoI.out.within hw (by omega))
  have hzv3 := hT.out.size
  have hltRv3 := hkR.out.lt
  have hltQv3 := hkQ.out.lt
  have hltLv3 := hkL.out.lt
  clear hs hw
  have ht24 : t.size ≤ 24 := by
    simp only [List.mem_cons, List.not_mem_nil, or_false] at htm
    rcases htm with rfl | rfl | rfl | rfl <;> decide
  clear htm hrA
  go_wp2_with fail
  refine (spec_pick B a c l _ (4) v3 hT.out.src (by omega) hl (by omega) (by omega)).mono ?_
  rintro e v4 ⟨kd, rfl, ⟨kd0, kd1, kd2⟩, hs, hw⟩
  have hmv4 := hw.size
  replace hT := Lib.hid (hT.out.step hs hw)
  replace hkR := Lib.hid (hkR.out.within hw (by omega))
  replace hkQ := Lib.hid (hkQ.out.within hw (by omega))
  replace hkL := Lib.hid (hkL.out.within hw (by omega))
  replace hoI := Lib.hid (hoI.out.within hw (by omega))
  have hzv4 := hT.out.size
  have hltRv4 := hkR.out.lt
  have hltQv4 := hkQ.out.lt
  have hltLv4 := hkL.out.lt
  clear hs hw
  replace kd1 := kd1 (by omega)
  clear kd2
  obtain ⟨cL_0, cL_1, fL_0, fL_1⟩ := hkL.out.two
  go_wp2_with fail
  clear cL_0 cL_1 fL_0 fL_1
  have hA := Lib.hid (below_alloc (w := v4) (.cells #[.string t, .int .i64 kd, .int .i64 0, .int .i64 0] 48))
  have hkn := Lib.hid (show Bk (v4.alloc (.cells #[.string t, .int .i64 kd, .int .i64 0, .int .i64 0] 48)) (v4.heap.size) 48 #[.string t, .int .i64 kd, .int .i64 0, .int .i64 0] from (by first | exact Bk.new _ _ _ | simpa using Bk.new v4 #[.string t, .int .i64 kd, .int .i64 0, .int .i64 0] 48))
  replace hT := Lib.hid (hT.out.kept hA.out)
  replace hkR := Lib.hid (hkR.out.kept hA.out)
  replace hkQ := Lib.hid (hkQ.out.kept hA.out)
  replace hkL := Lib.hid (hkL.out.kept hA.out)
  replace hoI := Lib.hid (hoI.out.kept hA.out)
  have hqX : v4.heap.size + 1 ≤ (v4.alloc (.cells #[.string t, .int .i64 kd, .int .i64 0, .int .i64 0] 48)).heap.size ∧ (v4.alloc (.cells #[.string t, .int .i64 kd, .int .i64 0, .int .i64 0] 48)).heap.size ≤ v4.heap.size + 1 := by simp
  have hkX := hkn
  clear hkn hA
  generalize (v4.alloc (.cells #[.string t, .int .i64 kd, .int .i64 0, .int .i64 0] 48)) = v5 at *
  have hzv5 := hT.out.size
  refine (spec_l02DrawField B a c l _ WD v5 hT.out.src (by omega) hl (by omega) (by omega)).mono ?_
  rintro e v6 ⟨ff, ft, rfl, hs, hw⟩
  have hmv6 := hw.size
  replace hT := Lib.hid (hT.out.step hs hw)
  replace hkR := Lib.hid (hkR.out.within hw (by omega))
  replace hkQ := Lib.hid (hkQ.out.within hw (by omega))
  replace hkL := Lib.hid (hkL.out.within hw (by omega))
  replace hkX := Lib.hid (hkX.out.within hw (by omega))
  replace hoI := Lib.hid (hoI.out.within hw (by omega))
  have hzv6 := hT.out.size
  have hltRv6 := hkR.out.lt
  have hltQv6 := hkQ.out.lt
  have hltLv6 := hkL.out.lt
  have hltXv6 := hkX.out.lt
  clear hs hw
  have hq_0 : ¬ v1.heap.size = w.heap.size := by omega
  have hq_0b : ¬ w.heap.size = v1.heap.size := by omega
  have hq_1 : ¬ v1.heap.size = w.heap.size + 1 := by omega
  have hq_1b : ¬ w.heap.size + 1 = v1.heap.size := by omega
  have hq_2 : ¬ v4.heap.size = w.heap.size := by omega
  have hq_2b : ¬ w.heap.size = v4.heap.size := by omega
  have hq_3 : ¬ v4.heap.size = w.heap.size + 1 := by omega
  have hq_3b : ¬ w.heap.size + 1 = v4.heap.size := by omega
  have hq_4 : ¬ v4.heap.size = v1.heap.size := by omega
  have hq_4b : ¬ v1.heap.size = v4.heap.size := by omega
  by_cases h20 : WD = 20
  · have hdb : (WD == 20) = true := by simp [h20]
    replace h20 := Lib.hid h20
    clear h20
    obtain ⟨cL_0, cL_1, fL_0, fL_1⟩ := hkL.out.two
    obtain ⟨⟨cX_0, cX_1, cX_2, cX_3⟩, fX_0, fX_1, fX_2, fX_3⟩ := hkX.out.four
    go_wp2_with fail
    clear cL_0 cL_1 fL_0 fL_1 cX_0 cX_1 cX_2 cX_3 fX_0 fX_1 fX_2 fX_3
    replace hT := Lib.hid (hT.out.set (p := ⟨v4.heap.size, 2, none⟩) (by dsimp only; omega) (.int .i64 ff))
    replace hkR := Lib.hid (hkR.out.far (p := ⟨v4.heap.size, 2, none⟩) (by dsimp only; omega) (.int .i64 ff))
    replace hkQ := Lib.hid (hkQ.out.far (p := ⟨v4.heap.size, 2, none⟩) (by dsimp only; omega) (.int .i64 ff))
    replace hkL := Lib.hid (hkL.out.far (p := ⟨v4.heap.size, 2, none⟩) (by dsimp only; omega) (.int .i64 ff))
    replace hkX := Lib.hid (show Bk (v6.setCell ⟨v4.heap.size, 2, none⟩ (.int .i64 ff)) (v4.heap.size) 48 #[.string t, .int .i64 kd, .int .i64 ff, .int .i64 0] from hkX.out.set 2 (.int .i64 ff))
    replace hoI := Lib.hid (hoI.out.below (M := v4.heap.size) ((Below.refl _ _).setCell (p := ⟨v4.heap.size, 2, none⟩) (Nat.le_refl _) (.int .i64 ff)) (by omega))
    have hqz1 : v6.heap.size ≤ (v6.setCell ⟨v4.heap.size, 2, none⟩ (.int .i64 ff)).heap.size ∧ (v6.setCell ⟨v4.heap.size, 2, none⟩ (.int .i64 ff)).heap.size ≤ v6.heap.size := by simp only [World.size_setCell]; exact ⟨Nat.le_refl _, Nat.le_refl _⟩
    replace hT := Lib.hid (hT.out.set (p := ⟨v4.heap.size, 3, none⟩) (by dsimp only; omega) (.int .i64 ft))
    replace hkR := Lib.hid (hkR.out.far (p := ⟨v4.heap.size, 3, none⟩) (by dsimp only; omega) (.int .i64 ft))
    replace hkQ := Lib.hid (hkQ.out.far (p := ⟨v4.heap.size, 3, none⟩) (by dsimp only; omega) (.int .i64 ft))
    replace hkL := Lib.hid (hkL.out.far (p := ⟨v4.heap.size, 3, none⟩) (by dsimp only; omega) (.int .i64 ft))
    replace hkX := Lib.hid (show Bk ((v6.setCell ⟨v4.heap.size, 2, none⟩ (.int .i64 ff)).setCell ⟨v4.heap.size, 3, none⟩ (.int .i64 ft)) (v4.heap.size) 48 #[.string t, .int .i64 kd, .int .i64 ff, .int .i64 ft] from hkX.out.set 3 (.int .i64 ft))
    replace hoI := Lib.hid (hoI.out.below (M := v4.heap.size) ((Below.refl _ _).setCell (p := ⟨v4.heap.size, 3, none⟩) (Nat.le_refl _) (.int .i64 ft)) (by omega))
    have hqz2 : (v6.setCell ⟨v4.heap.size, 2, none⟩ (.int .i64 ff)).heap.size ≤ ((v6.setCell ⟨v4.heap.size, 2, none⟩ (.int .i64 ff)).setCell ⟨v4.heap.size, 3, none⟩ (.int .i64 ft)).heap.size ∧ ((v6.setCell ⟨v4.heap.size, 2, none⟩ (.int .i64 ff)).setCell ⟨v4.heap.size, 3, none⟩ (.int .i64 ft)).heap.size ≤ (v6.setCell ⟨v4.heap.size, 2, none⟩ (.int .i64 ff)).heap.size := by simp only [World.size_setCell]; exact ⟨Nat.le_refl _, Nat.le_refl _⟩
    replace hT := Lib.hid (hT.out.set (p := ⟨v4.heap.size, 2, none⟩) (by dsimp only; omega) (.int .i64 18))
    replace hkR := Lib.hid (hkR.out.far (p := ⟨v4.heap.size, 2, none⟩) (by dsimp only; omega) (.int .i64 18))
    replace hkQ := Lib.hid (hkQ.out.far (p := ⟨v4.heap.size, 2, none⟩) (by dsimp only; omega) (.int .i64 18))
    replace hkL := Lib.hid (hkL.out.far (p := ⟨v4.heap.size, 2, none⟩) (by dsimp only; omega) (.int .i64 18))
    replace hkX := Lib.hid (show Bk (((v6.setCell ⟨v4.heap.size, 2, none⟩ (.int .i64 ff)).setCell ⟨v4.heap.size, 3, none⟩ (.int .i64 ft)).setCell ⟨v4.heap.size, 2, none⟩ (.int .i64 18)) (v4.heap.size) 48 #[.string t, .int .i64 kd, .int .i64 18, .int .i64 ft] from hkX.out.set 2 (.int .i64 18))
    replace hoI := Lib.hid (hoI.out.below (M := v4.heap.size) ((Below.refl _ _).setCell (p := ⟨v4.heap.size, 2, none⟩) (Nat.le_refl _) (.int .i64 18)) (by omega))
    have hqz3 : ((v6.setCell ⟨v4.heap.size, 2, none⟩ (.int .i64 ff)).setCell ⟨v4.heap.size, 3, none⟩ (.int .i64 ft)).heap.size ≤ (((v6.setCell ⟨v4.heap.size, 2, none⟩ (.int .i64 ff)).setCell ⟨v4.heap.size, 3, none⟩ (.int .i64 ft)).setCell ⟨v4.heap.size, 2, none⟩ (.int .i64 18)).heap.size ∧ (((v6.setCell ⟨v4.heap.size, 2, none⟩ (.int .i64 ff)).setCell ⟨v4.heap.size, 3, none⟩ (.int .i64 ft)).setCell ⟨v4.heap.size, 2, none⟩ (.int .i64 18)).heap.size ≤ ((v6.setCell ⟨v4.heap.size, 2, none⟩ (.int .i64 ff)).setCell ⟨v4.heap.size, 3, none⟩ (.int .i64 ft)).heap.size := by simp only [World.size_setCell]; exact ⟨Nat.le_refl _, Nat.le_refl _⟩
    replace hT := Lib.hid (hT.out.set (p := ⟨v4.heap.size, 3, none⟩) (by dsimp only; omega) (.int .i64 19))
    replace hkR := Lib.hid (hkR.out.far (p := ⟨v4.heap.size, 3, none⟩) (by dsimp only; omega) (.int .i64 19))
    replace hkQ := Lib.hid (hkQ.out.far (p := ⟨v4.heap.size, 3, none⟩) (by dsimp only; omega) (.int .i64 19))
    replace hkL := Lib.hid (hkL.out.far (p := ⟨v4.heap.size, 3, none⟩) (by dsimp only; omega) (.int .i64 19))
    replace hkX := Lib.hid (show Bk ((((v6.setCell ⟨v4.heap.size, 2, none⟩ (.int .i64 ff)).setCell ⟨v4.heap.size, 3, none⟩ (.int .i64 ft)).setCell ⟨v4.heap.size, 2, none⟩ (.int .i64 18)).setCell ⟨v4.heap.size, 3, none⟩ (.int .i64 19)) (v4.heap.size) 48 #[.string t, .int .i64 kd, .int .i64 18, .int .i64 19] from hkX.out.set 3 (.int .i64 19))
    replace hoI := Lib.hid (hoI.out.below (M := v4.heap.size) ((Below.refl _ _).setCell (p := ⟨v4.heap.size, 3, none⟩) (Nat.le_refl _) (.int .i64 19)) (by omega))
    have hqz4 : (((v6.setCell ⟨v4.heap.size, 2, none⟩ (.int .i64 ff)).setCell ⟨v4.heap.size, 3, none⟩ (.int .i64 ft)).setCell ⟨v4.heap.size, 2, none⟩ (.int .i64 18)).heap.size ≤ ((((v6.setCell ⟨v4.heap.size, 2, none⟩ (.int .i64 ff)).setCell ⟨v4.heap.size, 3, none⟩ (.int .i64 ft)).setCell ⟨v4.heap.size, 2, none⟩ (.int .i64 18)).setCell ⟨v4.heap.size, 3, none⟩ (.int .i64 19)).heap.size ∧ ((((v6.setCell ⟨v4.heap.size, 2, none⟩ (.int .i64 ff)).setCell ⟨v4.heap.size, 3, none⟩ (.int .i64 ft)).setCell ⟨v4.heap.size, 2, none⟩ (.int .i64 18)).setCell ⟨v4.heap.size, 3, none⟩ (.int .i64 19)).heap.size ≤ (((v6.setCell ⟨v4.heap.size, 2, none⟩ (.int .i64 ff)).setCell ⟨v4.heap.size, 3, none⟩ (.int .i64 ft)).setCell ⟨v4.heap.size, 2, none⟩ (.int .i64 18)).heap.size := by simp only [World.size_setCell]; exact ⟨Nat.le_refl _, Nat.le_refl _⟩
    generalize ((((v6.setCell ⟨v4.heap.size, 2, none⟩ (.int .i64 ff)).setCell ⟨v4.heap.size, 3, none⟩ (.int .i64 ft)).setCell ⟨v4.heap.size, 2, none⟩ (.int .i64 18)).setCell ⟨v4.heap.size, 3, none⟩ (.int .i64 19)) = v7 at *
    have hzv7 := hT.out.size
    obtain ⟨cL_0, cL_1, fL_0, fL_1⟩ := hkL.out.two
    obtain ⟨⟨cX_0, cX_1, cX_2, cX_3⟩, fX_0, fX_1, fX_2, fX_3⟩ := hkX.out.four
    obtain ⟨cR_0, cR_1, fR_0, fR_1⟩ := hkR.out.two
    obtain ⟨⟨cQ_0, cQ_1, cQ_2, cQ_3⟩, fQ_0, fQ_1, fQ_2, fQ_3⟩ := hkQ.out.four
    first | go_region_held3 (fun V => V.cell? ⟨v1.heap.size, 0, none⟩ = some (.int .i64 WD) ∧ V.cell? ⟨v1.heap.size, 1, none⟩ = some (.slice a3 m c3) ∧ V.cell? ⟨v4.heap.size, 0, none⟩ = some (.string t) ∧ V.cell? ⟨v4.heap.size, 1, none⟩ = some (.int .i64 kd) ∧ V.cell? ⟨v4.heap.size, 2, none⟩ = some (.int .i64 18) ∧ V.cell? ⟨v4.heap.size, 3, none⟩ = some (.int .i64 19)) (simp [go_sem, *]) (fail) | fail
    all_goals go_wp2_with fail
    have hcap := hoI.out.capn.1
    have hbel := (hT.out.win.below (B := w.heap.size) hB1.out (by omega) hB1.out.size)
    have hrow := Lib.hid (OV.row (((((((hoI.out.setBelow (p := ⟨w.heap.size, 0, none⟩) (by dsimp only; omega) (.int .i64 WD)).setBelow (p := ⟨w.heap.size, 1, none⟩) (by dsimp only; omega) (.slice a3 m c3)).setBelow (p := ⟨w.heap.size + 1, 0, none⟩) (by dsimp only; omega) (.string t)).setBelow (p := ⟨w.heap.size + 1, 1, none⟩) (by dsimp only; omega) (.int .i64 kd)).setBelow (p := ⟨w.heap.size + 1, 2, none⟩) (by dsimp only; omega) (.int .i64 18)).setBelow (p := ⟨w.heap.size + 1, 3, none⟩) (by dsimp only; omega) (.int .i64 19)).kept (Below.refl _ _).drew))
    have hbl2 := Lib.hid (Below.drew ((((((hbel.setCell (p := ⟨w.heap.size, 0, none⟩) (by dsimp only; omega) (.int .i64 WD)).setCell (p := ⟨w.heap.size, 1, none⟩) (by dsimp only; omega) (.slice a3 m c3)).setCell (p := ⟨w.heap.size + 1, 0, none⟩) (by dsimp only; omega) (.string t)).setCell (p := ⟨w.heap.size + 1, 1, none⟩) (by dsimp only; omega) (.int .i64 kd)).setCell (p := ⟨w.heap.size + 1, 2, none⟩) (by dsimp only; omega) (.int .i64 18)).setCell (p := ⟨w.heap.size + 1, 3, none⟩) (by dsimp only; omega) (.int .i64 19)))
    clear hbel
    refine bodyPost_ret (v := .tuple #[.agg #[.int .i64 WD, .slice a3 m c3], .agg #[.string t, .int .i64 kd, .int .i64 18, .int .i64 19]]) (by simp [results, Tryz.results19, go_sem, *]) rfl ⟨WD, a3, c3, xs, ⟨t, kd, 18, 19⟩, by rw [hxm.out], hP.out, hrow.out, by rw [hxm.out]; exact hcap, ht24, hbl2.out⟩
  · have hdb : (WD == 20) = false := by simp [h20]
    replace h20 := Lib.hid h20
    obtain ⟨cL_0, cL_1, fL_0, fL_1⟩ := hkL.out.two
    obtain ⟨⟨cX_0, cX_1, cX_2, cX_3⟩, fX_0, fX_1, fX_2, fX_3⟩ := hkX.out.four
    go_wp2_with fail
    clear cL_0 cL_1 fL_0 fL_1 cX_0 cX_1 cX_2 cX_3 fX_0 fX_1 fX_2 fX_3
    replace hT := Lib.hid (hT.out.set (p := ⟨v4.heap.size, 2, none⟩) (by dsimp only; omega) (.int .i64 ff))
    replace hkR := Lib.hid (hkR.out.far (p := ⟨v4.heap.size, 2, none⟩) (by dsimp only; omega) (.int .i64 ff))
    replace hkQ := Lib.hid (hkQ.out.far (p := ⟨v4.heap.size, 2, none⟩) (by dsimp only; omega) (.int .i64 ff))
    replace hkL := Lib.hid (hkL.out.far (p := ⟨v4.heap.size, 2, none⟩) (by dsimp only; omega) (.int .i64 ff))
    replace hkX := Lib.hid (show Bk (v6.setCell ⟨v4.heap.size, 2, none⟩ (.int .i64 ff)) (v4.heap.size) 48 #[.string t, .int .i64 kd, .int .i64 ff, .int .i64 0] from hkX.out.set 2 (.int .i64 ff))
    replace hoI := Lib.hid (hoI.out.below (M := v4.heap.size) ((Below.refl _ _).setCell (p := ⟨v4.heap.size, 2, none⟩) (Nat.le_refl _) (.int .i64 ff)) (by omega))
    have hqz1 : v6.heap.size ≤ (v6.setCell ⟨v4.heap.size, 2, none⟩ (.int .i64 ff)).heap.size ∧ (v6.setCell ⟨v4.heap.size, 2, none⟩ (.int .i64 ff)).heap.size ≤ v6.heap.size := by simp only [World.size_setCell]; exact ⟨Nat.le_refl _, Nat.le_refl _⟩
    replace hT := Lib.hid (hT.out.set (p := ⟨v4.heap.size, 3, none⟩) (by dsimp only; omega) (.int .i64 ft))
    replace hkR := Lib.hid (hkR.out.far (p := ⟨v4.heap.size, 3, none⟩) (by dsimp only; omega) (.int .i64 ft))
    replace hkQ := Lib.hid (hkQ.out.far (p := ⟨v4.heap.size, 3, none⟩) (by dsimp only; omega) (.int .i64 ft))
    replace hkL := Lib.hid (hkL.out.far (p := ⟨v4.heap.size, 3, none⟩) (by dsimp only; omega) (.int .i64 ft))
    replace hkX := Lib.hid (show Bk ((v6.setCell ⟨v4.heap.size, 2, none⟩ (.int .i64 ff)).setCell ⟨v4.heap.size, 3, none⟩ (.int .i64 ft)) (v4.heap.size) 48 #[.string t, .int .i64 kd, .int .i64 ff, .int .i64 ft] from hkX.out.set 3 (.int .i64 ft))
    replace hoI := Lib.hid (hoI.out.below (M := v4.heap.size) ((Below.refl _ _).setCell (p := ⟨v4.heap.size, 3, none⟩) (Nat.le_refl _) (.int .i64 ft)) (by omega))
    have hqz2 : (v6.setCell ⟨v4.heap.size, 2, none⟩ (.int .i64 ff)).heap.size ≤ ((v6.setCell ⟨v4.heap.size, 2, none⟩ (.int .i64 ff)).setCell ⟨v4.heap.size, 3, none⟩ (.int .i64 ft)).heap.size ∧ ((v6.setCell ⟨v4.heap.size, 2, none⟩ (.int .i64 ff)).setCell ⟨v4.heap.size, 3, none⟩ (.int .i64 ft)).heap.size ≤ (v6.setCell ⟨v4.heap.size, 2, none⟩ (.int .i64 ff)).heap.size := by simp only [World.size_setCell]; exact ⟨Nat.le_refl _, Nat.le_refl _⟩
    generalize ((v6.setCell ⟨v4.heap.size, 2, none⟩ (.int .i64 ff)).setCell ⟨v4.heap.size, 3, none⟩ (.int .i64 ft)) = v7 at *
    have hzv7 := hT.out.size
    obtain ⟨cL_0, cL_1, fL_0, fL_1⟩ := hkL.out.two
    obtain ⟨⟨cX_0, cX_1, cX_2, cX_3⟩, fX_0, fX_1, fX_2, fX_3⟩ := hkX.out.four
    obtain ⟨cR_0, cR_1, fR_0, fR_1⟩ := hkR.out.two
    obtain ⟨⟨cQ_0, cQ_1, cQ_2, cQ_3⟩, fQ_0, fQ_1, fQ_2, fQ_3⟩ := hkQ.out.four
    first | go_region_held3 (fun V => V.cell? ⟨v1.heap.size, 0, none⟩ = some (.int .i64 WD) ∧ V.cell? ⟨v1.heap.size, 1, none⟩ = some (.slice a3 m c3) ∧ V.cell? ⟨v4.heap.size, 0, none⟩ = some (.string t) ∧ V.cell? ⟨v4.heap.size, 1, none⟩ = some (.int .i64 kd) ∧ V.cell? ⟨v4.heap.size, 2, none⟩ = some (.int .i64 ff) ∧ V.cell? ⟨v4.heap.size, 3, none⟩ = some (.int .i64 ft)) (simp [go_sem, *]) (fail) | fail
    all_goals go_wp2_with fail
    have hcap := hoI.out.capn.1
    have hbel := (hT.out.win.below (B := w.heap.size) hB1.out (by omega) hB1.out.size)
    have hrow := Lib.hid (OV.row (((((((hoI.out.setBelow (p := ⟨w.heap.size, 0, none⟩) (by dsimp only; omega) (.int .i64 WD)).setBelow (p := ⟨w.heap.size, 1, none⟩) (by dsimp only; omega) (.slice a3 m c3)).setBelow (p := ⟨w.heap.size + 1, 0, none⟩) (by dsimp only; omega) (.string t)).setBelow (p := ⟨w.heap.size + 1, 1, none⟩) (by dsimp only; omega) (.int .i64 kd)).setBelow (p := ⟨w.heap.size + 1, 2, none⟩) (by dsimp only; omega) (.int .i64 ff)).setBelow (p := ⟨w.heap.size + 1, 3, none⟩) (by dsimp only; omega) (.int .i64 ft)).kept (Below.refl _ _).drew))
    have hbl2 := Lib.hid (Below.drew ((((((hbel.setCell (p := ⟨w.heap.size, 0, none⟩) (by dsimp only; omega) (.int .i64 WD)).setCell (p := ⟨w.heap.size, 1, none⟩) (by dsimp only; omega) (.slice a3 m c3)).setCell (p := ⟨w.heap.size + 1, 0, none⟩) (by dsimp only; omega) (.string t)).setCell (p := ⟨w.heap.size + 1, 1, none⟩) (by dsimp only; omega) (.int .i64 kd)).setCell (p := ⟨w.heap.size + 1, 2, none⟩) (by dsimp only; omega) (.int .i64 ff)).setCell (p := ⟨w.heap.size + 1, 3, none⟩) (by dsimp only; omega) (.int .i64 ft)))
    clear hbel
    refine bodyPost_ret (v := .tuple #[.agg #[.int .i64 WD, .slice a3 m c3], .agg #[.string t, .int .i64 kd, .int .i64 ff, .int .i64 ft]]) (by simp [results, Tryz.results19, go_sem, *]) rfl ⟨WD, a3, c3, xs, ⟨t, kd, ff, ft⟩, by rw [hxm.out], hP.out, hrow.out, by rw [hxm.out]; exact hcap, ht24, hbl2.out⟩
end Go.Proofs.YtcbjfgjlhjjpiaaGreatDoor
