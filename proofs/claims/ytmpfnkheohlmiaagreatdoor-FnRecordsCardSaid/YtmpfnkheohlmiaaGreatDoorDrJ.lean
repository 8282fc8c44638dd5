/- The walks of the functions that draw layouts, values and cards for the laws over records. -/
import Derived.Test.YtmpfnkheohlmiaaGreatDoorDrG
namespace Go.Proofs.YtmpfnkheohlmiaaGreatDoor
open Go.RowKit
set_option maxRecDepth 100000
set_option linter.unusedVariables false
set_option linter.unusedSimpArgs false
set_option linter.unnecessarySimpa false

set_option maxHeartbeats 4000000 in
theorem spec_DrawLayoutText (a : Option Addr) (c : Nat) (l : List UInt8) (w : World) (hx : RB w a l) (hl : l.length ≤ 1073741824) :
    Calls Tryz.prog 11 #[.slice a l.length c] w fun e w' => ∃ (wd : Int) (a' : Option Addr) (c' : Nat) (xs : List Itm), e = .returned (.agg #[.int .i64 wd, .slice a' xs.length c']) ∧ LayP wd xs ∧ RT w' a' xs ∧ xs.length ≤ c' ∧ Below w.heap.size w w' := by
  have hb1 := Lib.hid (below_alloc (w := w) (.cells #[.int .i64 0, .slice none 0 0] 26))
  have hkR := Lib.hid (show Bk (w.alloc (.cells #[.int .i64 0, .slice none 0 0] 26)) (w.heap.size) 26 #[.int .i64 0, .slice none 0 0] from Bk.new _ _ _)
  go_enter Tryz.func11, Tryz.ntmps11
  go_wp2_with fail
  refine (spec_l00From a c l _ (hx.kept hb1.out)).mono ?_
  rintro e w1 ⟨rfl, hs, hb⟩
  rw [show (w.alloc (.cells #[.int .i64 0, .slice none 0 0] 26)).heap.size = w.heap.size + 1 by simp] at hs
  replace hkR := Lib.hid (hkR.out.kept hb)
  have hB1 := Lib.hid (bthen hb1.out hb)
  have hT := Lib.hid (St.start hs)
  have hz := hT.out.size
  clear hs hb hb1
  simp only [World.size_alloc]
  generalize hBe : w.heap.size + 1 = B at *
  have hBw : w.heap.size + 1 ≤ B := by omega
  clear hBe
  have hltR := hkR.out.lt
  go_wp2_with fail
  refine (spec_l04Bent B a c l _ w1 hT.out.src (by omega) hl).mono ?_
  rintro e v1 ⟨WD, a3, c3, xs, rfl, hP0, hoI, hs, hw⟩
  have hP := Lib.hid hP0
  replace hoI := Lib.hid hoI
  clear hP0
  have hmv1 := hw.size
  replace hT := Lib.hid (hT.out.step hs hw)
  replace hkR := Lib.hid (hkR.out.within hw (by omega))
  have hzv1 := hT.out.size
  have hltRv1 := hkR.out.lt
  clear hs hw
  have hsz := hP.out.sz
  have hW0 : -1 ≤ WD := hP.out.1
  have hW1 : WD ≤ 21 := hP.out.2.1
  have hm16 : xs.length ≤ 16 := hP.out.2.2.1
  generalize hxm : xs.length = m at *
  replace hxm := Lib.hid hxm
  replace hoI := Lib.hid (show OV w1.heap.size v1.heap.size v1 63 4 a3 m c3 (itemsV xs) by have h := hoI.out; unfold OT at h; rw [hxm.out] at h; exact h)
  obtain ⟨cR_0, cR_1, fR_0, fR_1⟩ := hkR.out.two
  go_wp2_with fail
  refine bodyPost_ret (v := .agg #[.int .i64 WD, .slice a3 m c3]) (by simp [results, Tryz.results11, go_sem, *]) rfl ⟨WD, a3, c3, xs, by rw [hxm.out], hP.out, (show RT _ a3 xs from ((hoI.out.setBelow (p := ⟨w.heap.size, 0, none⟩) (by dsimp only; omega) (.int .i64 WD)).setBelow (p := ⟨w.heap.size, 1, none⟩) (by dsimp only; omega) (.slice a3 m c3)).row), by rw [hxm.out]; exact hoI.out.capn.1, (((hT.out.win.below (B := w.heap.size) hB1.out (by omega) hB1.out.size).setCell (p := ⟨w.heap.size, 0, none⟩) (Nat.le_refl _) _).setCell (p := ⟨w.heap.size, 1, none⟩) (Nat.le_refl _) _)⟩
set_option maxHeartbeats 8000000 in
theorem spec_DrawCardFor (a : Option Addr) (c : Nat) (l : List UInt8) (w : World) (hx : RB w a l) (hl : l.length ≤ 1073741824) :
    Calls Tryz.prog 5 #[.slice a l.length c] w fun e w' => ∃ (wd : Int) (a' : Option Addr) (c' : Nat) (xs : List Itm) (b : Option Addr) (d : Nat) (vs : List ByteArray), e = .returned (.tuple #[.agg #[.int .i64 wd, .slice a' xs.length c'], .slice b vs.length d]) ∧ LayP wd xs ∧ RT w' a' xs ∧ xs.length ≤ c' ∧ RS w' b vs ∧ textsSz vs ≤ 1048576 ∧ Below w.heap.size w w' := by
  have hb1 := Lib.hid (below_alloc (w := w) (.cells #[.int .i64 0, .slice none 0 0] 26))
  have hkR := Lib.hid (show Bk (w.alloc (.cells #[.int .i64 0, .slice none 0 0] 26)) (w.heap.size) 26 #[.int .i64 0, .slice none 0 0] from Bk.new _ _ _)
  go_enter Tryz.func5, Tryz.ntmps5
  go_wp2_with fail
  refine (spec_l00From a c l _ (hx.kept hb1.out)).mono ?_
  rintro e w1 ⟨rfl, hs, hb⟩
  rw [show (w.alloc (.cells #[.int .i64 0, .slice none 0 0] 26)).heap.size = w.heap.size + 1 by simp] at hs
  replace hkR := Lib.hid (hkR.out.kept hb)
  have hB1 := Lib.hid (bthen hb1.out hb)
  have hT := Lib.hid (St.start hs)
  have hz := hT.out.size
  clear hs hb hb1
  simp only [World.size_alloc]
  generalize hBe : w.heap.size + 1 = B at *
  have hBw : w.heap.size + 1 ≤ B := by omega
  clear hBe
  have hltR := hkR.out.lt
  go_wp2_with fail
  refine (spec_l04Bent B a c l _ w1 hT.out.src (by omega) hl).mono ?_
  rintro e v1 ⟨WD, a3, c3, xs, rfl, hP0, hoI, hs, hw⟩
  have hP := Lib.hid hP0
  replace hoI := Lib.hid hoI
  clear hP0
  have hmv1 := hw.size
  replace hT := Lib.hid (hT.out.step hs hw)
  replace hkR := Lib.hid (hkR.out.within hw (by omega))
  have hzv1 := hT.out.size
  have hltRv1 := hkR.out.lt
  clear hs hw
  have hsz := hP.out.sz
  have hW0 : -1 ≤ WD := hP.out.1
  have hW1 : WD ≤ 21 := hP.out.2.1
  have hm16 : xs.length ≤ 16 := hP.out.2.2.1
  generalize hxm : xs.length = m at *
  replace hxm := Lib.hid hxm
  replace hoI := Lib.hid (show OV w1.heap.size v1.heap.size v1 63 4 a3 m c3 (itemsV xs) by have h := hoI.out; unfold OT at h; rw [hxm.out] at h; exact h)
  go_wp2_with fail
  have hA := Lib.hid (below_alloc (w := v1) (.cells #[.int .i64 WD, .slice a3 m c3] 26))
  have hkn := Lib.hid (show Bk (v1.alloc (.cells #[.int .i64 WD, .slice a3 m c3] 26)) (v1.heap.size) 26 #[.int .i64 WD, .slice a3 m c3] from (by first | exact Bk.new _ _ _ | simpa using Bk.new v1 #[.int .i64 WD, .slice a3 m c3] 26))
  replace hT := Lib.hid (hT.out.kept hA.out)
  replace hkR := Lib.hid (hkR.out.kept hA.out)
  replace hoI := Lib.hid (hoI.out.kept hA.out)
  have hqL : v1.heap.size + 1 ≤ (v1.alloc (.cells #[.int .i64 WD, .slice a3 m c3] 26)).heap.size ∧ (v1.alloc (.cells #[.int .i64 WD, .slice a3 m c3] 26)).heap.size ≤ v1.heap.size + 1 := by simp
  have hkL := hkn
  clear hkn hA
  have hoV := Lib.hid (OV.of (show ((v1.alloc (.cells #[.int .i64 WD, .slice a3 m c3] 26)).alloc (.cells #[] 9)).ownsRow (v1.heap.size + 1) 9 1 (.slice (some ⟨v1.heap.size + 1, 0, none⟩) 0 0) 0 (([] : List ByteArray).map Value.string) from by have h := World.ownsRow_lit (base := v1.heap.size + 1) (e := 9) (size := 1) (v1.alloc (.cells #[.int .i64 WD, .slice a3 m c3] 26)) #[] 0 (by simp) (by simp [maxLen]) rfl; simpa using h))
  have hA := Lib.hid (below_alloc (w := (v1.alloc (.cells #[.int .i64 WD, .slice a3 m c3] 26))) (.cells #[] 9))
  have hkn := Lib.hid (show Bk ((v1.alloc (.cells #[.int .i64 WD, .slice a3 m c3] 26)).alloc (.cells #[] 9)) (v1.heap.size + 1) 9 #[] from (by first | exact Bk.new _ _ _ | simpa using Bk.new (v1.alloc (.cells #[.int .i64 WD, .slice a3 m c3] 26)) #[] 9))
  replace hT := Lib.hid (hT.out.kept hA.out)
  replace hkR := Lib.hid (hkR.out.kept hA.out)
  replace hkL := Lib.hid (hkL.out.kept hA.out)
  replace hoI := Lib.hid (hoI.out.kept hA.out)
  have hqE : (v1.alloc (.cells #[.int .i64 WD, .slice a3 m c3] 26)).heap.size + 1 ≤ ((v1.alloc (.cells #[.int .i64 WD, .slice a3 m c3] 26)).alloc (.cells #[] 9)).heap.size ∧ ((v1.alloc (.cells #[.int .i64 WD, .slice a3 m c3] 26)).alloc (.cells #[] 9)).heap.size ≤ (v1.alloc (.cells #[.int .i64 WD, .slice a3 m c3] 26)).heap.size + 1 := by simp
  have hkE := hkn
  clear hkn hA
  clear hkE
  generalize ((v1.alloc (.cells #[.int .i64 WD, .slice a3 m c3] 26)).alloc (.cells #[] 9)) = v2 at *
  have hzv2 := hT.out.size
  have hLg : ¬ v1.heap.size = w.heap.size := by omega
  have hLB : ¬ v1.heap.size = B := by omega
  obtain ⟨i0, hi_, hz0, hz1, hz2⟩ := info_parts Tryz.info_string
  go_loopw [6, 7] (fun v i wr => ∃ (k : Nat) (a' : Option Addr) (c' : Nat) (vs : List ByteArray), k ≤ m ∧ i = .int .i64 k ∧ v = .slice a' k c' ∧ Hid (vs.length = k) ∧ (∀ y ∈ vs, y.size ≤ 24) ∧ OV (v1.heap.size + 1) wr.heap.size wr 9 1 a' k c' (vs.map Value.string) ∧ Bk wr (v1.heap.size) 26 #[.int .i64 WD, .slice a3 m c3] ∧ Bk wr w.heap.size 26 #[.int .i64 0, .slice none 0 0] ∧ OV w1.heap.size v1.heap.size wr 63 4 a3 m c3 (itemsV xs) ∧ St w1 B a c l (200 + k * 40) wr ∧ v1.heap.size + 1 < wr.heap.size) (fun _ i _ => m - (intOf i).toNat)
  case atStart => exact ⟨0, _, _, [], by omega, rfl, rfl, Lib.hid rfl, by simp, hoV.out.wider (Nat.le_refl _) (by omega), hkL.out, hkR.out, hoI.out, hT.out.more (by omega), by omega⟩
  case round =>
    clear hT hoV hkL hkR hoI
    obtain ⟨k, a5, c5, vs, hk, rfl, rfl, hvk, hV0, hoV, hkL, hkR, hoI, hT, hszr⟩ := hrel
    have hV := Lib.hid hV0
    replace hT := Lib.hid hT
    replace hoI := Lib.hid hoI
    replace hoV := Lib.hid hoV
    replace hkL := Lib.hid hkL
    replace hkR := Lib.hid hkR
    have hm63 := Lib.hid (show k + 1 ≤ maxLen by unfold maxLen; omega)
    have hzr := hT.out.size
    clear hV0
    have hltRwr := hkR.out.lt
    have hltLwr := hkL.out.lt
    by_cases hlt : k < m
    · obtain ⟨x, hx⟩ := get_some (l := xs) (k := k) (by rw [hxm.out]; exact hlt)
      have hlt' : (k : Int) < (m : Int) := by omega
      obtain ⟨g, rfl, hg1, hg2⟩ := OV.addr hoI.out (by omega)
      obtain ⟨⟨y0, y1, y2, y3⟩, _⟩ := row_item (a := none) hoI.out hx
      have hsm := Lib.hid (spec_l04Some B a c l _ g (k * 4) x.kind x.fr x.to wr hT.out.src (by omega) hl y1 y2 y3 (by omega))
      clear y0 y1 y2 y3
      obtain ⟨cL_0, cL_1, fL_0, fL_1⟩ := hkL.out.two
      go_wp2_with fail
      clear cL_0 cL_1 fL_0 fL_1
      refine (hsm.out).mono ?_
      rintro e v3 ⟨t, rfl, ht24, hs, hw⟩
      have hmv3 := hw.size
      replace hT := Lib.hid (hT.out.step hs hw)
      replace hkR := Lib.hid (hkR.out.within hw (by omega))
      replace hkL := Lib.hid (hkL.out.within hw (by omega))
      replace hoI := Lib.hid (hoI.out.within hw (by omega))
      replace hoV := Lib.hid (hoV.out.within hw (by omega))
      have hzv3 := hT.out.size
      have hltRv3 := hkR.out.lt
      have hltLv3 := hkL.out.lt
      clear hs hw
      have hszv : v1.heap.size + 1 ≤ v3.heap.size := by omega
      go_wp2_with (at_builtin; refine wpList_append_own _ rfl _ _ 27 rfl (v1.heap.size + 1) 9 i0 (.string ⟨#[]⟩) 1 16 Tryz.underlying27 hi_ hz0 hz1 hz2 rfl (by decide) _ k (vs.map Value.string) rfl (hoV.out.1.alloc _) ⟨_, 0, none⟩ 1 1 [.string t] rfl rfl (news_one _ _ _) (one_one rfl) hm63.out (by omega) (by simp only [World.size_alloc]; omega) ?_; intro v6 w6 hown6 hg6 _; have hb6 := (((Below.refl (v1.heap.size + 1) _).alloc hszv _).grown hg6 (by simp only [World.size_alloc]; omega) (fun k hk => (hoV.out.1.lt k hk).1)); replace hT := Lib.hid (hT.out.below (hb6.mono (by omega))); replace hkL := Lib.hid (hkL.out.below hb6 (by omega)); replace hkR := Lib.hid (hkR.out.below hb6 (by omega)); replace hoI := Lib.hid (hoI.out.below hb6 (by omega)); have hsz6 := hb6.size; obtain ⟨a6, c6, hv6, _, _⟩ := own_slice hown6; subst hv6; have hoV6 := Lib.hid (OV.of hown6); clear hown6 hg6 hb6 hoV)
      go_roundw
      case rel => exact ⟨k + 1, a6, c6, vs ++ [t], by omega, by go_num, rfl, Lib.hid (by rw [List.length_append, hvk.out]; rfl), texts_snoc hV.out ht24, by (rw [List.map_append]; exact hoV6.out), hkL.out, hkR.out, hoI.out, hT.out.more (by omega), by omega⟩
      case measure => simp [intOf]; omega
    · obtain rfl : k = m := by omega
      obtain ⟨cL_0, cL_1, fL_0, fL_1⟩ := hkL.out.two
      go_wp2_with fail
      clear cL_0 cL_1 fL_0 fL_1
      refine (spec_one B a c l _ 16 wr hT.out.src (by omega) hl (by omega) (by omega)).mono ?_
      rintro e v3 ⟨b, rfl, hs, hw⟩
      have hmv3 := hw.size
      replace hT := Lib.hid (hT.out.step hs hw)
      replace hkR := Lib.hid (hkR.out.within hw (by omega))
      replace hkL := Lib.hid (hkL.out.within hw (by omega))
      replace hoI := Lib.hid (hoI.out.within hw (by omega))
      replace hoV := Lib.hid (hoV.out.within hw (by omega))
      have hzv3 := hT.out.size
      have hltRv3 := hkR.out.lt
      have hltLv3 := hkL.out.lt
      clear hs hw
      cases b
      · skip
        obtain ⟨cL_0, cL_1, fL_0, fL_1⟩ := hkL.out.two
        obtain ⟨cR_0, cR_1, fR_0, fR_1⟩ := hkR.out.two
        go_wp2_with fail
        refine bodyPost_ret (v := .tuple #[.agg #[.int .i64 WD, .slice a3 k c3], .slice a5 k c5]) (by simp [results, Tryz.results5, go_sem, *]) rfl ⟨WD, a3, c3, xs, a5, c5, vs, by rw [hxm.out, hvk.out], hP.out, (show RT _ a3 xs from ((hoI.out.setBelow (p := ⟨w.heap.size, 0, none⟩) (by dsimp only; omega) (.int .i64 WD)).setBelow (p := ⟨w.heap.size, 1, none⟩) (by dsimp only; omega) (.slice a3 k c3)).row), by rw [hxm.out]; exact hoI.out.capn.1, (show RS _ _ _ from ((hoV.out.setBelow (p := ⟨w.heap.size, 0, none⟩) (by dsimp only; omega) (.int .i64 WD)).setBelow (p := ⟨w.heap.size, 1, none⟩) (by dsimp only; omega) (.slice a3 k c3)).row), texts_small (fun y hy => Nat.le_trans (hV.out y hy) (by omega)) (by rw [hvk.out]; omega), (((hT.out.win.below (B := w.heap.size) hB1.out (by omega) hB1.out.size).setCell (p := ⟨w.heap.size, 0, none⟩) (Nat.le_refl _) _).setCell (p := ⟨w.heap.size, 1, none⟩) (Nat.le_refl _) _)⟩
      · obtain ⟨cL_0, cL_1, fL_0, fL_1⟩ := hkL.out.two
        have hszv : v1.heap.size + 1 ≤ v3.heap.size := by omega
        go_wp2_with (at_builtin; refine wpList_append_own _ rfl _ _ 27 rfl (v1.heap.size + 1) 9 i0 (.string ⟨#[]⟩) 1 16 Tryz.underlying27 hi_ hz0 hz1 hz2 rfl (by decide) _ k (vs.map Value.string) rfl (hoV.out.1.alloc _) ⟨_, 0, none⟩ 1 1 [.string (⟨#[49]⟩ : ByteArray)] rfl rfl (news_one _ _ _) (one_one rfl) hm63.out (by omega) (by simp only [World.size_alloc]; omega) ?_; intro v6 w6 hown6 hg6 _; have hb6 := (((Below.refl (v1.heap.size + 1) _).alloc hszv _).grown hg6 (by simp only [World.size_alloc]; omega) (fun k hk => (hoV.out.1.lt k hk).1)); replace hT := Lib.hid (hT.out.below (hb6.mono (by omega))); replace hkL := Lib.hid (hkL.out.below hb6 (by omega)); replace hkR := Lib.hid (hkR.out.below hb6 (by omega)); replace hoI := Lib.hid (hoI.out.below hb6 (by omega)); have hsz6 := hb6.size; obtain ⟨a6, c6, hv6, _, _⟩ := own_slice hown6; subst hv6; have hoV6 := Lib.hid (OV.of hown6); clear hown6 hg6 hb6 hoV; obtain ⟨cL_0, cL_1, fL_0, fL_1⟩ := hkL.out.two; obtain ⟨cR_0, cR_1, fR_0, fR_1⟩ := hkR.out.two)
        have hlv : (vs ++ [(⟨#[49]⟩ : ByteArray)]).length = k + 1 := by rw [List.length_append, hvk.out]; rfl
        replace hlv := Lib.hid hlv
        replace hoV6 := Lib.hid (show OV _ _ _ _ _ _ _ _ ((vs ++ [(⟨#[49]⟩ : ByteArray)]).map Value.string) from by rw [List.map_append]; exact hoV6.out)
        refine bodyPost_ret (v := .tuple #[.agg #[.int .i64 WD, .slice a3 k c3], .slice a6 (k + 1) c6]) (by simp [results, Tryz.results5, go_sem, *]) rfl ⟨WD, a3, c3, xs, a6, c6, (vs ++ [(⟨#[49]⟩ : ByteArray)]), by rw [hxm.out, hlv.out], hP.out, (show RT _ a3 xs from ((hoI.out.setBelow (p := ⟨w.heap.size, 0, none⟩) (by dsimp only; omega) (.int .i64 WD)).setBelow (p := ⟨w.heap.size, 1, none⟩) (by dsimp only; omega) (.slice a3 k c3)).row), by rw [hxm.out]; exact hoI.out.capn.1, (show RS _ _ _ from ((hoV6.out.setBelow (p := ⟨w.heap.size, 0, none⟩) (by dsimp only; omega) (.int .i64 WD)).setBelow (p := ⟨w.heap.size, 1, none⟩) (by dsimp only; omega) (.slice a3 k c3)).row), texts_small (texts_snoc (fun y hy => Nat.le_trans (hV.out y hy) (by omega)) (by decide)) (by rw [hlv.out]; omega), (((hT.out.win.below (B := w.heap.size) hB1.out (by omega) hB1.out.size).setCell (p := ⟨w.heap.size, 0, none⟩) (Nat.le_refl _) _).setCell (p := ⟨w.heap.size, 1, none⟩) (Nat.le_refl _) _)⟩
theorem heldW4 {lo hi : Nat} {v V : World} {p q : Addr} {x y : Value} (hw : Within lo hi v V) (h : v.cell? p = some x) (k : v.cell? q = some y) (hp : hi ≤ p.block) (hq : hi ≤ q.block) : Within lo hi v V ∧ V.cell? p = some x ∧ V.cell? q = some y := ⟨hw, hw.cell h (.inr hp), hw.cell k (.inr hq)⟩
set_option maxHeartbeats 8000000 in
theorem spec_DrawRecordOf (a : Option Addr) (c : Nat) (l : List UInt8) (w : World) (hx : RB w a l) (hl : l.length ≤ 1073741824) :
    Calls Tryz.prog 8 #[.slice a l.length c] w fun e w' => ∃ (wd : Int) (a' : Option Addr) (c' : Nat) (xs : List Itm) (b : Option Addr) (d : Nat) (ys : List Int), e = .returned (.tuple #[.agg #[.int .i64 wd, .slice a' xs.length c'], .agg #[.slice b ys.length d]]) ∧ LayP wd xs ∧ RT w' a' xs ∧ xs.length ≤ c' ∧ RI w' b ys ∧ ys.length ≤ d ∧ ys.length ≤ 21 ∧ Below w.heap.size w w' := by
  have hb1 := Lib.hid (below_alloc2 w (.cells #[.int .i64 0, .slice none 0 0] 26) (.cells #[.slice none 0 0] 32))
  have hkR := Lib.hid (show Bk ((w.alloc (.cells #[.int .i64 0, .slice none 0 0] 26)).alloc (.cells #[.slice none 0 0] 32)) (w.heap.size) 26 #[.int .i64 0, .slice none 0 0] from (Bk.new _ _ _).kept (below_alloc _))
  have hkQ := Lib.hid (show Bk ((w.alloc (.cells #[.int .i64 0, .slice none 0 0] 26)).alloc (.cells #[.slice none 0 0] 32)) (w.heap.size + 1) 32 #[.slice none 0 0] from by simpa using Bk.new (w.alloc (.cells #[.int .i64 0, .slice none 0 0] 26)) #[.slice none 0 0] 32)
  go_enter Tryz.func8, Tryz.ntmps8
  go_wp2_with fail
  refine (spec_l00From a c l _ (hx.kept hb1.out)).mono ?_
  rintro e w1 ⟨rfl, hs, hb⟩
  rw [show ((w.alloc (.cells #[.int .i64 0, .slice none 0 0] 26)).alloc (.cells #[.slice none 0 0] 32)).heap.size = w.heap.size + 2 by simp] at hs
  replace hkR := Lib.hid (hkR.out.kept hb)
  replace hkQ := Lib.hid (hkQ.out.kept hb)
  have hB1 := Lib.hid (bthen hb1.out hb)
  have hT := Lib.hid (St.start hs)
  have hz := hT.out.size
  clear hs hb hb1
  simp only [World.size_alloc]
  generalize hBe : w.heap.size + 2 = B at *
  have hBw : w.heap.size + 2 ≤ B := by omega
  clear hBe
  have hltR := hkR.out.lt
  have hltQ := hkQ.out.lt
  go_wp2_with fail
  refine (spec_l04Bent B a c l _ w1 hT.out.src (by omega) hl).mono ?_
  rintro e v1 ⟨WD, a3, c3, xs, rfl, hP0, hoI, hs, hw⟩
  have hP := Lib.hid hP0
  replace hoI := Lib.hid hoI
  clear hP0
  have hmv1 := hw.size
  replace hT := Lib.hid (hT.out.step hs hw)
  replace hkR := Lib.hid (hkR.out.within hw (by omega))
  replace hkQ := Lib.hid (hkQ.out.within hw (by omega))
  have hzv1 := hT.out.size
  have hltRv1 := hkR.out.lt
  have hltQv1 := hkQ.out.lt
  clear hs hw
  have hsz := hP.out.sz
  have hW0 : -1 ≤ WD := hP.out.1
  have hW1 : WD ≤ 21 := hP.out.2.1
  have hm16 : xs.length ≤ 16 := hP.out.2.2.1
  generalize hxm : xs.length = m at *
  replace hxm := Lib.hid hxm
  replace hoI := Lib.hid (show OV w1.heap.size v1.heap.size v1 63 4 a3 m c3 (itemsV xs) by have h := hoI.out; unfold OT at h; rw [hxm.out] at h; exact h)
  go_wp2_with fail
  have hA := Lib.hid (below_alloc (w := v1) (.cells #[.int .i64 WD, .slice a3 m c3] 26))
  have hkn := Lib.hid (show Bk (v1.alloc (.cells #[.int .i64 WD, .slice a3 m c3] 26)) (v1.heap.size) 26 #[.int .i64 WD, .slice a3 m c3] from (by first | exact Bk.new _ _ _ | simpa using Bk.new v1 #[.int .i64 WD, .slice a3 m c3] 26))
  replace hT := Lib.hid (hT.out.kept hA.out)
  replace hkR := Lib.hid (hkR.out.kept hA.out)
  replace hkQ := Lib.hid (hkQ.out.kept hA.out)
  replace hoI := Lib.hid (hoI.out.kept hA.out)
  have hqL : v1.heap.size + 1 ≤ (v1.alloc (.cells #[.int .i64 WD, .slice a3 m c3] 26)).heap.size ∧ (v1.alloc (.cells #[.int .i64 WD, .slice a3 m c3] 26)).heap.size ≤ v1.heap.size + 1 := by simp
  have hkL := hkn
  clear hkn hA
  generalize (v1.alloc (.cells #[.int .i64 WD, .slice a3 m c3] 26)) = v2 at *
  have hzv2 := hT.out.size
  have hLB : ¬ v1.heap.size = B := by omega
  have hLB2 : B < v1.heap.size := by omega
  refine (spec_one B a c l _ 10 v2 hT.out.src (by omega) hl (by omega) (by omega)).mono ?_
  rintro e v3 ⟨b, rfl, hs, hw⟩
  have hmv3 := hw.size
  replace hT := Lib.hid (hT.out.step hs hw)
  replace hkR := Lib.hid (hkR.out.within hw (by omega))
  replace hkQ := Lib.hid (hkQ.out.within hw (by omega))
  replace hkL := Lib.hid (hkL.out.within hw (by omega))
  replace hoI := Lib.hid (hoI.out.within hw (by omega))
  have hzv3 := hT.out.size
  have hltRv3 := hkR.out.lt
  have hltQv3 := hkQ.out.lt
  have hltLv3 := hkL.out.lt
  clear hs hw
  cases b
  · go_wp2_with fail
    obtain ⟨cL_0, cL_1, fL_0, fL_1⟩ := hkL.out.two
    obtain ⟨cR_0, cR_1, fR_0, fR_1⟩ := hkR.out.two
    obtain ⟨cQ_0, fQ_0⟩ := hkQ.out.one
    first | go_region_held3 (fun V => Within w.heap.size (B + 1) v3 V ∧ V.cell? ⟨v1.heap.size, 0, none⟩ = some (.int .i64 WD) ∧ V.cell? ⟨v1.heap.size, 1, none⟩ = some (.slice a3 m c3)) (first | assumption | exact heldW4 (Within.of_below (below_drewN (Below.refl _ _) 1)) cL_0 cL_1 (by dsimp only; omega) (by dsimp only; omega) | (rename Within w.heap.size (B + 1) v3 _ ∧ _ => hH; exact heldW4 (hH.1.trans (Within.wider hwq0 (by omega) (Nat.le_refl _))) cL_0 cL_1 (by dsimp only; omega) (by dsimp only; omega)) | (rename Within w.heap.size (B + 1) v3 _ ∧ _ => hH; exact heldW4 ((hH.1.setCell (by dsimp only; omega) (by dsimp only; omega) _).setCell (by dsimp only; omega) (by dsimp only; omega) _) cL_0 cL_1 (by dsimp only; omega) (by dsimp only; omega)) | (rename Within w.heap.size (B + 1) v3 _ ∧ _ => hH; exact heldW4 (hH.1.setCell (by dsimp only; omega) (by dsimp only; omega) _) cL_0 cL_1 (by dsimp only; omega) (by dsimp only; omega))) (first | (go_at_call 38; ((with_reducible refine (spec_l04Card B a c l _ (v1.heap.size) WD a3 c3 m xs _ _ _ (hT.out.src.kept (Below.refl _ _).drew) (by omega) hl (hkL.out.kept (Below.refl _ _).drew) hLB (hoI.out.kept (Below.refl _ _).drew) (by omega) hxm.out hP.out).mono ?_); rintro e wq0 ⟨a5, c5, ys, rfl, hy21, hox, hsq0, hwq0⟩; have hw9 := (Within.of_below (lo := B) (hi := B + 1) (Below.refl v3.heap.size v3).drew).trans hwq0; have hr9 := hw9.cell cR_0 (by dsimp only; omega); have hr8 := hw9.cell cR_1 (by dsimp only; omega); have hr7 := hw9.frozen cR_0 fR_0 (by dsimp only; omega); have hr6 := hw9.frozen cR_1 fR_1 (by dsimp only; omega); have hr5 := hw9.cell cQ_0 (by dsimp only; omega); have hr4 := hw9.frozen cQ_0 fQ_0 (by dsimp only; omega)))) | fail
    have hoY := Lib.hid (show OV v3.heap.size wq0.heap.size wq0 2 1 a5 ys.length c5 (ys.map (Value.int .i64)) from OV.of hox)
    clear hox
    all_goals go_wp2_with fail
    clear cL_0 cL_1 fL_0 fL_1 cR_0 cR_1 fR_0 fR_1 cQ_0 fQ_0
    replace hT := Lib.hid (hT.out.step hsq0 hw9)
    replace hkR := Lib.hid (hkR.out.within hw9 (by omega))
    replace hkQ := Lib.hid (hkQ.out.within hw9 (by omega))
    replace hkL := Lib.hid (hkL.out.within hw9 (by omega))
    replace hoI := Lib.hid (hoI.out.within hw9 (by omega))
    clear hsq0 hwq0 hw9
    all_goals exact bodyPost_ret (v := .tuple #[.agg #[.int .i64 WD, .slice a3 m c3], .agg #[.slice a5 ys.length c5]]) (by simp [results, Tryz.results8, go_sem, *]) rfl ⟨WD, a3, c3, xs, a5, c5, ys, by rw [hxm.out], hP.out, (by refine OV.row (lo := w1.heap.size) (hi := v1.heap.size) (e := 63) (size := 4) (n := m) (c := c3) ?_; repeat (first | with_reducible exact hoI.out | with_reducible refine OV.kept ?_ ((Below.refl _ _).drew) | with_reducible refine OV.setBelow ?_ (by dsimp only; omega) _)), by rw [hxm.out]; exact hoI.out.capn.1, (by refine OV.row (lo := v3.heap.size) (hi := wq0.heap.size) (e := 2) (size := 1) (n := ys.length) (c := c5) ?_; repeat (first | with_reducible exact hoY.out | with_reducible refine OV.kept ?_ ((Below.refl _ _).drew) | with_reducible refine OV.setBelow ?_ (by dsimp only; omega) _)), hoY.out.capn.1, hy21, (by have hbel := (hT.out.win.below (B := w.heap.size) hB1.out (by omega) hB1.out.size); repeat (first | with_reducible exact hbel | with_reducible refine Below.drew ?_ | with_reducible refine Below.setCell ?_ (by dsimp only; omega) _))⟩
  · go_wp2_with fail
    obtain ⟨cL_0, cL_1, fL_0, fL_1⟩ := hkL.out.two
    obtain ⟨cR_0, cR_1, fR_0, fR_1⟩ := hkR.out.two
    obtain ⟨cQ_0, fQ_0⟩ := hkQ.out.one
    first | go_region_held3 (fun V => Within w.heap.size (B + 1) v3 V ∧ V.cell? ⟨v1.heap.size, 0, none⟩ = some (.int .i64 WD) ∧ V.cell? ⟨v1.heap.size, 1, none⟩ = some (.slice a3 m c3)) (first | assumption | exact heldW4 (Within.of_below (below_drewN (Below.refl _ _) 1)) cL_0 cL_1 (by dsimp only; omega) (by dsimp only; omega) | (rename Within w.heap.size (B + 1) v3 _ ∧ _ => hH; exact heldW4 (hH.1.trans (Within.wider hwq0 (by omega) (Nat.le_refl _))) cL_0 cL_1 (by dsimp only; omega) (by dsimp only; omega)) | (rename Within w.heap.size (B + 1) v3 _ ∧ _ => hH; exact heldW4 ((hH.1.setCell (by dsimp only; omega) (by dsimp only; omega) _).setCell (by dsimp only; omega) (by dsimp only; omega) _) cL_0 cL_1 (by dsimp only; omega) (by dsimp only; omega)) | (rename Within w.heap.size (B + 1) v3 _ ∧ _ => hH; exact heldW4 (hH.1.setCell (by dsimp only; omega) (by dsimp only; omega) _) cL_0 cL_1 (by dsimp only; omega) (by dsimp only; omega))) (first | (go_at_call 37; ((with_reducible refine (spec_l03Bent B a c l _ _ (hT.out.src.kept (Below.refl _ _).drew) (by omega) hl).mono ?_); rintro e wq0 ⟨a5, c5, ys, rfl, hy21, hox, hsq0, hwq0⟩; have hw9 := (Within.of_below (lo := B) (hi := B + 1) (Below.refl v3.heap.size v3).drew).trans hwq0; have hr9 := hw9.cell cR_0 (by dsimp only; omega); have hr8 := hw9.cell cR_1 (by dsimp only; omega); have hr7 := hw9.frozen cR_0 fR_0 (by dsimp only; omega); have hr6 := hw9.frozen cR_1 fR_1 (by dsimp only; omega); have hr5 := hw9.cell cQ_0 (by dsimp only; omega); have hr4 := hw9.frozen cQ_0 fQ_0 (by dsimp only; omega)))) | fail
    have hoY := Lib.hid (show OV v3.heap.size wq0.heap.size wq0 2 1 a5 ys.length c5 (ys.map (Value.int .i64)) from OV.of hox)
    clear hox
    all_goals go_wp2_with fail
    clear cL_0 cL_1 fL_0 fL_1 cR_0 cR_1 fR_0 fR_1 cQ_0 fQ_0
    replace hT := Lib.hid (hT.out.step hsq0 hw9)
    replace hkR := Lib.hid (hkR.out.within hw9 (by omega))
    replace hkQ := Lib.hid (hkQ.out.within hw9 (by omega))
    replace hkL := Lib.hid (hkL.out.within hw9 (by omega))
    replace hoI := Lib.hid (hoI.out.within hw9 (by omega))
    clear hsq0 hwq0 hw9
    all_goals exact bodyPost_ret (v := .tuple #[.agg #[.int .i64 WD, .slice a3 m c3], .agg #[.slice a5 ys.length c5]]) (by simp [results, Tryz.results8, go_sem, *]) rfl ⟨WD, a3, c3, xs, a5, c5, ys, by rw [hxm.out], hP.out, (by refine OV.row (lo := w1.heap.size) (hi := v1.heap.size) (e := 63) (size := 4) (n := m) (c := c3) ?_; repeat (first | with_reducible exact hoI.out | with_reducible refine OV.kept ?_ ((Below.refl _ _).drew) | with_reducible refine OV.setBelow ?_ (by dsimp only; omega) _)), by rw [hxm.out]; exact hoI.out.capn.1, (by refine OV.row (lo := v3.heap.size) (hi := wq0.heap.size) (e := 2) (size := 1) (n := ys.length) (c := c5) ?_; repeat (first | with_reducible exact hoY.out | with_reducible refine OV.kept ?_ ((Below.refl _ _).drew) | with_reducible refine OV.setBelow ?_ (by dsimp only; omega) _)), hoY.out.capn.1, hy21, (by have hbel := (hT.out.win.below (B := w.heap.size) hB1.out (by omega) hB1.out.size); repeat (first | with_reducible exact hbel | with_reducible refine Below.drew ?_ | with_reducible refine Below.setCell ?_ (by dsimp only; omega) _))⟩
theorem heldW5 {lo hi : Nat} {v V : World} {p q r s : Addr} {x y z u : Value} (hw : Within lo hi v V) (h : v.cell? p = some x) (k : v.cell? q = some y) (m : v.cell? r = some z) (n : v.cell? s = some u) (hp : hi ≤ p.block) (hq : hi ≤ q.block) (hr : hi ≤ r.block) (hs : hi ≤ s.block) : Within lo hi v V ∧ V.cell? p = some x ∧ V.cell? q = some y ∧ V.cell? r = some z ∧ V.cell? s = some u := ⟨hw, hw.cell h (.inr hp), hw.cell k (.inr hq), hw.cell m (.inr hr), hw.cell n (.inr hs)⟩
set_option maxHeartbeats 8000000 in
theorem spec_DrawChangeItem (a : Option Addr) (c : Nat) (l : List UInt8) (w : World) (hx : RB w a l) (hl : l.length ≤ 1073741824) :
    Calls Tryz.prog 16 #[.slice a l.length c] w fun e w' => ∃ (wd : Int) (a' : Option Addr) (c' : Nat) (xs : List Itm) (b : Option Addr) (d : Nat) (ys : List Int) (nm v : ByteArray), e = .returned (.tuple #[.agg #[.int .i64 wd, .slice a' xs.length c'], .agg #[.slice b ys.length d], .string nm, .string v]) ∧ LayP wd xs ∧ RT w' a' xs ∧ xs.length ≤ c' ∧ RI w' b ys ∧ ys.length ≤ d ∧ ys.length ≤ 21 ∧ nm.size ≤ 24 ∧ v.size ≤ 24 ∧ Below w.heap.size w w' := by
  have hb1 := Lib.hid (below_alloc2 w (.cells #[.int .i64 0, .slice none 0 0] 26) (.cells #[.slice none 0 0] 32))
  have hkR := Lib.hid (show Bk ((w.alloc (.cells #[.int .i64 0, .slice none 0 0] 26)).alloc (.cells #[.slice none 0 0] 32)) (w.heap.size) 26 #[.int .i64 0, .slice none 0 0] from (Bk.new _ _ _).kept (below_alloc _))
  have hkQ := Lib.hid (show Bk ((w.alloc (.cells #[.int .i64 0, .slice none 0 0] 26)).alloc (.cells #[.slice none 0 0] 32)) (w.heap.size + 1) 32 #[.slice none 0 0] from by simpa using Bk.new (w.alloc (.cells #[.int .i64 0, .slice none 0 0] 26)) #[.slice none 0 0] 32)
  go_enter Tryz.func16, Tryz.ntmps16
  go_wp2_with fail
  refine (spec_l00From a c l _ (hx.kept hb1.out)).mono ?_
  rintro e w1 ⟨rfl, hs, hb⟩
  rw [show ((w.alloc (.cells #[.int .i64 0, .slice none 0 0] 26)).alloc (.cells #[.slice none 0 0] 32)).heap.size = w.heap.size + 2 by simp] at hs
  replace hkR := Lib.hid (hkR.out.kept hb)
  replace hkQ := Lib.hid (hkQ.out.kept hb)
  have hB1 := Lib.hid (bthen hb1.out hb)
  have hT := Lib.hid (St.start hs)
  have hz := hT.out.size
  clear hs hb hb1
  simp only [World.size_alloc]
  generalize hBe : w.heap.size + 2 = B at *
  have hBw : w.heap.size + 2 ≤ B := by omega
  clear hBe
  have hltR := hkR.out.lt
  have hltQ := hkQ.out.lt
  go_wp2_with fail
  refine (spec_l04Bent B a c l _ w1 hT.out.src (by omega) hl).mono ?_
  rintro e v1 ⟨WD, a3, c3, xs, rfl, hP0, hoI, hs, hw⟩
  have hP := Lib.hid hP0
  replace hoI := Lib.hid hoI
  clear hP0
  have hmv1 := hw.size
  replace hT := Lib.hid (hT.out.step hs hw)
  replace hkR := Lib.hid (hkR.out.within hw (by omega))
  replace hkQ := Lib.hid (hkQ.out.within hw (by omega))
  have hzv1 := hT.out.size
  have hltRv1 := hkR.out.lt
  have hltQv1 := hkQ.out.lt
  clear hs hw
  have hsz := hP.out.sz
  have hW0 : -1 ≤ WD := hP.out.1
  have hW1 : WD ≤ 21 := hP.out.2.1
  have hm16 : xs.length ≤ 16 := hP.out.2.2.1
  generalize hxm : xs.length = m at *
  replace hxm := Lib.hid hxm
  replace hoI := Lib.hid (show OV w1.heap.size v1.heap.size v1 63 4 a3 m c3 (itemsV xs) by have h := hoI.out; unfold OT at h; rw [hxm.out] at h; exact h)
  go_wp2_with fail
  have hA := Lib.hid (below_alloc (w := v1) (.cells #[.int .i64 WD, .slice a3 m c3] 26))
  have hkn := Lib.hid (show Bk (v1.alloc (.cells #[.int .i64 WD, .slice a3 m c3] 26)) (v1.heap.size) 26 #[.int .i64 WD, .slice a3 m c3] from (by first | exact Bk.new _ _ _ | simpa using Bk.new v1 #[.int .i64 WD, .slice a3 m c3] 26))
  replace hT := Lib.hid (hT.out.kept hA.out)
  replace hkR := Lib.hid (hkR.out.kept hA.out)
  replace hkQ := Lib.hid (hkQ.out.kept hA.out)
  replace hoI := Lib.hid (hoI.out.kept hA.out)
  have hqL : v1.heap.size + 1 ≤ (v1.alloc (.cells #[.int .i64 WD, .slice a3 m c3] 26)).heap.size ∧ (v1.alloc (.cells #[.int .i64 WD, .slice a3 m c3] 26)).heap.size ≤ v1.heap.size + 1 := by simp
  have hkL := hkn
  clear hkn hA
  generalize (v1.alloc (.cells #[.int .i64 WD, .slice a3 m c3] 26)) = v2 at *
  have hzv2 := hT.out.size
  have hLB : ¬ v1.heap.size = B := by omega
  have hLB2 : B < v1.heap.size := by omega
  refine (spec_l04Card B a c l _ (v1.heap.size) WD a3 c3 m xs _ _ v2 hT.out.src (by omega) hl hkL.out hLB hoI.out (by omega) hxm.out hP.out).mono ?_
  rintro e v3 ⟨a5, c5, ys, rfl, hy21, hox, hs, hw⟩
  have hoY := Lib.hid (OV.of hox)
  clear hox
  have hmv3 := hw.size
  replace hT := Lib.hid (hT.out.step hs hw)
  replace hkR := Lib.hid (hkR.out.within hw (by omega))
  replace hkQ := Lib.hid (hkQ.out.within hw (by omega))
  replace hkL := Lib.hid (hkL.out.within hw (by omega))
  replace hoI := Lib.hid (hoI.out.within hw (by omega))
  have hzv3 := hT.out.size
  have hltRv3 := hkR.out.lt
  have hltQv3 := hkQ.out.lt
  have hltLv3 := hkL.out.lt
  clear hs hw
  go_wp2_with fail
  have hA := Lib.hid (below_alloc (w := v3) (.cells #[.slice a5 ys.length c5] 32))
  have hkn := Lib.hid (show Bk (v3.alloc (.cells #[.slice a5 ys.length c5] 32)) (v3.heap.size) 32 #[.slice a5 ys.length c5] from (by first | exact Bk.new _ _ _ | simpa using Bk.new v3 #[.slice a5 ys.length c5] 32))
  replace hT := Lib.hid (hT.out.kept hA.out)
  replace hkR := Lib.hid (hkR.out.kept hA.out)
  replace hkQ := Lib.hid (hkQ.out.kept hA.out)
  replace hkL := Lib.hid (hkL.out.kept hA.out)
  replace hoI := Lib.hid (hoI.out.kept hA.out)
  replace hoY := Lib.hid (hoY.out.kept hA.out)
  have hqC : v3.heap.size + 1 ≤ (v3.alloc (.cells #[.slice a5 ys.length c5] 32)).heap.size ∧ (v3.alloc (.cells #[.slice a5 ys.length c5] 32)).heap.size ≤ v3.heap.size + 1 := by simp
  have hkC := hkn
  clear hkn hA
  generalize (v3.alloc (.cells #[.slice a5 ys.length c5] 32)) = v4 at *
  have hzv4 := hT.out.size
  refine (spec_l04Name B a c l _ v4 hT.out.src (by omega) hl).mono ?_
  rintro e v5 ⟨t, rfl, ht24, hs, hw⟩
  have hmv5 := hw.size
  replace hT := Lib.hid (hT.out.step hs hw)
  replace hkR := Lib.hid (hkR.out.within hw (by omega))
  replace hkQ := Lib.hid (hkQ.out.within hw (by omega))
  replace hkL := Lib.hid (hkL.out.within hw (by omega))
  replace hkC := Lib.hid (hkC.out.within hw (by omega))
  replace hoI := Lib.hid (hoI.out.within hw (by omega))
  replace hoY := Lib.hid (hoY.out.within hw (by omega))
  have hzv5 := hT.out.size
  have hltRv5 := hkR.out.lt
  have hltQv5 := hkQ.out.lt
  have hltLv5 := hkL.out.lt
  have hltCv5 := hkC.out.lt
  clear hs hw
  go_wp2_with fail
  refine (spec_pick B a c l _ (2) v5 hT.out.src (by omega) hl (by omega) (by omega)).mono ?_
  rintro e v6 ⟨r, rfl, ⟨r0, r1, r2⟩, hs, hw⟩
  have hmv6 := hw.size
  replace hT := Lib.hid (hT.out.step hs hw)
  replace hkR := Lib.hid (hkR.out.within hw (by omega))
  replace hkQ := Lib.hid (hkQ.out.within hw (by omega))
  replace hkL := Lib.hid (hkL.out.within hw (by omega))
  replace hkC := Lib.hid (hkC.out.within hw (by omega))
  replace hoI := Lib.hid (hoI.out.within hw (by omega))
  replace hoY := Lib.hid (hoY.out.within hw (by omega))
  have hzv6 := hT.out.size
  have hltRv6 := hkR.out.lt
  have hltQv6 := hkQ.out.lt
  have hltLv6 := hkL.out.lt
  have hltCv6 := hkC.out.lt
  clear hs hw
  replace r1 := r1 (by omega)
  clear r2
  go_wp2_with fail
  have hA := Lib.hid (below_alloc (w := v6) (.cells #[.string t, .int .i64 (1 + r), .int .i64 0, .int .i64 2] 63))
  have hkn := Lib.hid (show Bk (v6.alloc (.cells #[.string t, .int .i64 (1 + r), .int .i64 0, .int .i64 2] 63)) (v6.heap.size) 63 #[.string t, .int .i64 (1 + r), .int .i64 0, .int .i64 2] from (by first | exact Bk.new _ _ _ | simpa using Bk.new v6 #[.string t, .int .i64 (1 + r), .int .i64 0, .int .i64 2] 63))
  replace hT := Lib.hid (hT.out.kept hA.out)
  replace hkR := Lib.hid (hkR.out.kept hA.out)
  replace hkQ := Lib.hid (hkQ.out.kept hA.out)
  replace hkL := Lib.hid (hkL.out.kept hA.out)
  replace hkC := Lib.hid (hkC.out.kept hA.out)
  replace hoI := Lib.hid (hoI.out.kept hA.out)
  replace hoY := Lib.hid (hoY.out.kept hA.out)
  have hqX : v6.heap.size + 1 ≤ (v6.alloc (.cells #[.string t, .int .i64 (1 + r), .int .i64 0, .int .i64 2] 63)).heap.size ∧ (v6.alloc (.cells #[.string t, .int .i64 (1 + r), .int .i64 0, .int .i64 2] 63)).heap.size ≤ v6.heap.size + 1 := by simp
  have hkX := hkn
  clear hkn hA
  generalize (v6.alloc (.cells #[.string t, .int .i64 (1 + r), .int .i64 0, .int .i64 2] 63)) = v7 at *
  have hzv7 := hT.out.size
  have hfd := Lib.hid (spec_l04Find (v1.heap.size) WD a3 c3 xs t v7 (by rw [hxm.out]; exact hkL.out.two.2.1) hoI.out.row hsz)
  refine (hfd.out).mono ?_
  rintro e v8 ⟨rfl, hb⟩
  replace hT := Lib.hid (hT.out.kept hb)
  replace hkR := Lib.hid (hkR.out.kept hb)
  replace hkQ := Lib.hid (hkQ.out.kept hb)
  replace hkL := Lib.hid (hkL.out.kept hb)
  replace hkC := Lib.hid (hkC.out.kept hb)
  replace hkX := Lib.hid (hkX.out.kept hb)
  replace hoI := Lib.hid (hoI.out.kept hb)
  replace hoY := Lib.hid (hoY.out.kept hb)
  have hzbv8 := hb.size
  have hzv8 := hT.out.size
  have hltRv8 := hkR.out.lt
  have hltQv8 := hkQ.out.lt
  have hltLv8 := hkL.out.lt
  have hltCv8 := hkC.out.lt
  have hltXv8 := hkX.out.lt
  clear hb
  clear hfd
  have hnq_0 : ¬ v1.heap.size = w.heap.size := by omega
  have hnq_1 : ¬ v1.heap.size = w.heap.size + 1 := by omega
  have hnq_2 : ¬ v1.heap.size = B := by omega
  have hnq_3 : ¬ v3.heap.size = w.heap.size := by omega
  have hnq_4 : ¬ v3.heap.size = w.heap.size + 1 := by omega
  have hnq_5 : ¬ v3.heap.size = B := by omega
  have hnq_6 : ¬ v6.heap.size = w.heap.size := by omega
  have hnq_7 : ¬ v6.heap.size = w.heap.size + 1 := by omega
  have hnq_8 : ¬ v6.heap.size = B := by omega
  have hnq_9 : ¬ w.heap.size = v1.heap.size := by omega
  have hnq_10 : ¬ w.heap.size + 1 = v1.heap.size := by omega
  have hnq_11 : ¬ B = v1.heap.size := by omega
  have hnq_12 : ¬ w.heap.size = v3.heap.size := by omega
  have hnq_13 : ¬ w.heap.size + 1 = v3.heap.size := by omega
  have hnq_14 : ¬ B = v3.heap.size := by omega
  have hnq_15 : ¬ w.heap.size = v6.heap.size := by omega
  have hnq_16 : ¬ w.heap.size + 1 = v6.heap.size := by omega
  have hnq_17 : ¬ B = v6.heap.size := by omega
  have hLb : B + 1 ≤ v1.heap.size := by omega
  have hCb : B + 1 ≤ v3.heap.size := by omega
  have hXb : B + 1 ≤ v6.heap.size := by omega
  by_cases hf : findI xs t < 0
  · have hd : decide ((0 : Int) ≤ findI xs t) = false := decide_eq_false (by omega)
    generalize findI xs t = F at *
    replace hf := Lib.hid hf
    go_wp2_with fail
    obtain ⟨cL_0, cL_1, fL_0, fL_1⟩ := hkL.out.two
    obtain ⟨cR_0, cR_1, fR_0, fR_1⟩ := hkR.out.two
    obtain ⟨cQ_0, fQ_0⟩ := hkQ.out.one
    obtain ⟨cC_0, fC_0⟩ := hkC.out.one
    obtain ⟨⟨cX_0, cX_1, cX_2, cX_3⟩, fX_0, fX_1, fX_2, fX_3⟩ := hkX.out.four
    have hsm := Lib.hid (fun (W : World) (hs : SrcIs W B a c l _) (hb : Below v8.heap.size v8 W) => spec_l04Some B a c l (4000) (v6.heap.size) 0 (1 + r) (0) (2) W hs (by omega) hl (keep hb (by rw [Nat.zero_add]; exact cX_1)) (keep hb (by rw [Nat.zero_add]; exact cX_2)) (keep hb (by rw [Nat.zero_add]; exact cX_3)) (by omega))
    first | go_region_held3 (fun V => Within w.heap.size (B + 1) v8 V ∧ V.cell? ⟨v1.heap.size, 0, none⟩ = some (.int .i64 WD) ∧ V.cell? ⟨v1.heap.size, 1, none⟩ = some (.slice a3 m c3) ∧ V.cell? ⟨v3.heap.size, 0, none⟩ = some (.slice a5 ys.length c5) ∧ V.cell? ⟨v6.heap.size, 0, none⟩ = some (.string t)) (first | assumption | exact heldW5 (Within.of_below (below_drewN (Below.refl _ _) 1)) cL_0 cL_1 cC_0 cX_0 hLb hLb hCb hXb | (rename Within w.heap.size (B + 1) v8 _ ∧ _ => hH; exact heldW5 (hH.1.trans (Within.wider hwq0 (by omega) (Nat.le_refl _))) cL_0 cL_1 cC_0 cX_0 hLb hLb hCb hXb) | (rename Within w.heap.size (B + 1) v8 _ ∧ _ => hH; exact heldW5 ((hH.1.setCell (by dsimp only; omega) (by dsimp only; omega) _).setCell (by dsimp only; omega) (by dsimp only; omega) _) cL_0 cL_1 cC_0 cX_0 hLb hLb hCb hXb) | (rename Within w.heap.size (B + 1) v8 _ ∧ _ => hH; exact heldW5 (hH.1.setCell (by dsimp only; omega) (by dsimp only; omega) _) cL_0 cL_1 cC_0 cX_0 hLb hLb hCb hXb)) (first | (go_at_call 30; ((with_reducible refine (hsm.out _ ((hT.out.more (by omega)).src.kept (Below.refl _ _).drew) (Below.refl _ _).drew).mono ?_); rintro e wq0 ⟨v_, rfl, hv24, hsq0, hwq0⟩; have hw9 := (Within.of_below (lo := B) (hi := B + 1) (Below.refl v8.heap.size v8).drew).trans hwq0; have hr9 := hw9.cell cR_0 (by dsimp only; omega); have hr8 := hw9.cell cR_1 (by dsimp only; omega); have hr7 := hw9.frozen cR_0 fR_0 (by dsimp only; omega); have hr6 := hw9.frozen cR_1 fR_1 (by dsimp only; omega); have hr5 := hw9.cell cQ_0 (by dsimp only; omega); have hr4 := hw9.frozen cQ_0 fQ_0 (by dsimp only; omega)))) | fail
    clear hsm
    all_goals go_wp2_with fail
    clear cC_0 fC_0 cX_0 cX_1 cX_2 cX_3 fX_0 fX_1 fX_2 fX_3
    have hT_ := Lib.hid (hT.out.more (show _ ≤ 4000 by omega))
    clear hT
    have hT := hT_
    clear cL_0 cL_1 fL_0 fL_1 cR_0 cR_1 fR_0 fR_1 cQ_0 fQ_0
    replace hT := Lib.hid (hT.out.step hsq0 hw9)
    replace hkR := Lib.hid (hkR.out.within hw9 (by omega))
    replace hkQ := Lib.hid (hkQ.out.within hw9 (by omega))
    replace hkL := Lib.hid (hkL.out.within hw9 (by omega))
    replace hkC := Lib.hid (hkC.out.within hw9 (by omega))
    replace hkX := Lib.hid (hkX.out.within hw9 (by omega))
    replace hoI := Lib.hid (hoI.out.within hw9 (by omega))
    replace hoY := Lib.hid (hoY.out.within hw9 (by omega))
    clear hsq0 hwq0 hw9
    all_goals exact bodyPost_ret (v := .tuple #[.agg #[.int .i64 WD, .slice a3 m c3], .agg #[.slice a5 ys.length c5], .string t, .string v_]) (by simp [results, Tryz.results16, go_sem, *]) rfl ⟨WD, a3, c3, xs, a5, c5, ys, t, v_, by rw [hxm.out], hP.out, (by refine OV.row (lo := w1.heap.size) (hi := v1.heap.size) (e := 63) (size := 4) (n := m) (c := c3) ?_; repeat (first | with_reducible exact hoI.out | with_reducible refine OV.kept ?_ ((Below.refl _ _).drew) | with_reducible refine OV.setBelow ?_ (by dsimp only; omega) _)), by rw [hxm.out]; exact hoI.out.capn.1, (by refine OV.row (lo := v2.heap.size) (hi := v3.heap.size) (e := 2) (size := 1) (n := ys.length) (c := c5) ?_; repeat (first | with_reducible exact hoY.out | with_reducible refine OV.kept ?_ ((Below.refl _ _).drew) | with_reducible refine OV.setBelow ?_ (by dsimp only; omega) _)), hoY.out.capn.1, hy21, by omega, hv24, (by have hbel := (hT.out.win.below (B := w.heap.size) hB1.out (by omega) hB1.out.size); repeat (first | with_reducible exact hbel | with_reducible refine Below.drew ?_ | with_reducible refine Below.setCell ?_ (by dsimp only; omega) _))⟩
  · obtain ⟨k, x, hk, hxk, _⟩ := item_some hf
    clear hf
    rw [hk]
    replace hk := Lib.hid hk
    have hkm : k < m := by rw [← hxm.out]; exact (List.getElem?_eq_some_iff.1 hxk).1
    have hkm' : (k : Int) < (m : Int) := by omega
    have hk0 : (0 : Int) ≤ (k : Int) := by omega
    have hd : decide ((0 : Int) ≤ (k : Int)) = true := decide_eq_true hk0
    have hxn := hP.out.2.2.2 x (List.mem_of_getElem? hxk)
    obtain ⟨g, rfl, hg1, hg2⟩ := OV.addr hoI.out (by omega)
    obtain ⟨⟨z0, z1, z2, z3⟩, _⟩ := row_item (a := none) hoI.out hxk
    obtain ⟨cL_0, cL_1, fL_0, fL_1⟩ := hkL.out.two
    obtain ⟨⟨cX_0, cX_1, cX_2, cX_3⟩, fX_0, fX_1, fX_2, fX_3⟩ := hkX.out.four
    go_wp2_with fail
    clear z0 z1 z2 z3 cL_0 cL_1 fL_0 fL_1 cX_0 cX_1 cX_2 cX_3 fX_0 fX_1 fX_2 fX_3
    replace hT := Lib.hid (hT.out.set (p := ⟨v6.heap.size, 0, none⟩) (by dsimp only; omega) (.string x.name))
    replace hkR := Lib.hid (hkR.out.far (p := ⟨v6.heap.size, 0, none⟩) (by dsimp only; omega) (.string x.name))
    replace hkQ := Lib.hid (hkQ.out.far (p := ⟨v6.heap.size, 0, none⟩) (by dsimp only; omega) (.string x.name))
    replace hkL := Lib.hid (hkL.out.far (p := ⟨v6.heap.size, 0, none⟩) (by dsimp only; omega) (.string x.name))
    replace hkC := Lib.hid (hkC.out.far (p := ⟨v6.heap.size, 0, none⟩) (by dsimp only; omega) (.string x.name))
    replace hkX := Lib.hid (show Bk (v8.setCell ⟨v6.heap.size, 0, none⟩ (.string x.name)) (v6.heap.size) 63 #[.string x.name, .int .i64 (1 + r), .int .i64 0, .int .i64 2] from hkX.out.set 0 (.string x.name))
    replace hoI := Lib.hid (hoI.out.below (M := v6.heap.size) ((Below.refl _ _).setCell (p := ⟨v6.heap.size, 0, none⟩) (Nat.le_refl _) (.string x.name)) (by omega))
    replace hoY := Lib.hid (hoY.out.below (M := v6.heap.size) ((Below.refl _ _).setCell (p := ⟨v6.heap.size, 0, none⟩) (Nat.le_refl _) (.string x.name)) (by omega))
    have hqz1 : v8.heap.size ≤ (v8.setCell ⟨v6.heap.size, 0, none⟩ (.string x.name)).heap.size ∧ (v8.setCell ⟨v6.heap.size, 0, none⟩ (.string x.name)).heap.size ≤ v8.heap.size := by simp only [World.size_setCell]; exact ⟨Nat.le_refl _, Nat.le_refl _⟩
    replace hT := Lib.hid (hT.out.set (p := ⟨v6.heap.size, 1, none⟩) (by dsimp only; omega) (.int .i64 x.kind))
    replace hkR := Lib.hid (hkR.out.far (p := ⟨v6.heap.size, 1, none⟩) (by dsimp only; omega) (.int .i64 x.kind))
    replace hkQ := Lib.hid (hkQ.out.far (p := ⟨v6.heap.size, 1, none⟩) (by dsimp only; omega) (.int .i64 x.kind))
    replace hkL := Lib.hid (hkL.out.far (p := ⟨v6.heap.size, 1, none⟩) (by dsimp only; omega) (.int .i64 x.kind))
    replace hkC := Lib.hid (hkC.out.far (p := ⟨v6.heap.size, 1, none⟩) (by dsimp only; omega) (.int .i64 x.kind))
    replace hkX := Lib.hid (show Bk ((v8.setCell ⟨v6.heap.size, 0, none⟩ (.string x.name)).setCell ⟨v6.heap.size, 1, none⟩ (.int .i64 x.kind)) (v6.heap.size) 63 #[.string x.name, .int .i64 x.kind, .int .i64 0, .int .i64 2] from hkX.out.set 1 (.int .i64 x.kind))
    replace hoI := Lib.hid (hoI.out.below (M := v6.heap.size) ((Below.refl _ _).setCell (p := ⟨v6.heap.size, 1, none⟩) (Nat.le_refl _) (.int .i64 x.kind)) (by omega))
    replace hoY := Lib.hid (hoY.out.below (M := v6.heap.size) ((Below.refl _ _).setCell (p := ⟨v6.heap.size, 1, none⟩) (Nat.le_refl _) (.int .i64 x.kind)) (by omega))
    have hqz2 : (v8.setCell ⟨v6.heap.size, 0, none⟩ (.string x.name)).heap.size ≤ ((v8.setCell ⟨v6.heap.size, 0, none⟩ (.string x.name)).setCell ⟨v6.heap.size, 1, none⟩ (.int .i64 x.kind)).heap.size ∧ ((v8.setCell ⟨v6.heap.size, 0, none⟩ (.string x.name)).setCell ⟨v6.heap.size, 1, none⟩ (.int .i64 x.kind)).heap.size ≤ (v8.setCell ⟨v6.heap.size, 0, none⟩ (.string x.name)).heap.size := by simp only [World.size_setCell]; exact ⟨Nat.le_refl _, Nat.le_refl _⟩
    replace hT := Lib.hid (hT.out.set (p := ⟨v6.heap.size, 2, none⟩) (by dsimp only; omega) (.int .i64 x.fr))
    replace hkR := Lib.hid (hkR.out.far (p := ⟨v6.heap.size, 2, none⟩) (by dsimp only; omega) (.int .i64 x.fr))
    replace hkQ := Lib.hid (hkQ.out.far (p := ⟨v6.heap.size, 2, none⟩) (by dsimp only; omega) (.int .i64 x.fr))
    replace hkL := Lib.hid (hkL.out.far (p := ⟨v6.heap.size, 2, none⟩) (by dsimp only; omega) (.int .i64 x.fr))
    replace hkC := Lib.hid (hkC.out.far (p := ⟨v6.heap.size, 2, none⟩) (by dsimp only; omega) (.int .i64 x.fr))
    replace hkX := Lib.hid (show Bk (((v8.setCell ⟨v6.heap.size, 0, none⟩ (.string x.name)).setCell ⟨v6.heap.size, 1, none⟩ (.int .i64 x.kind)).setCell ⟨v6.heap.size, 2, none⟩ (.int .i64 x.fr)) (v6.heap.size) 63 #[.string x.name, .int .i64 x.kind, .int .i64 x.fr, .int .i64 2] from hkX.out.set 2 (.int .i64 x.fr))
    replace hoI := Lib.hid (hoI.out.below (M := v6.heap.size) ((Below.refl _ _).setCell (p := ⟨v6.heap.size, 2, none⟩) (Nat.le_refl _) (.int .i64 x.fr)) (by omega))
    replace hoY := Lib.hid (hoY.out.below (M := v6.heap.size) ((Below.refl _ _).setCell (p := ⟨v6.heap.size, 2, none⟩) (Nat.le_refl _) (.int .i64 x.fr)) (by omega))
    have hqz3 : ((v8.setCell ⟨v6.heap.size, 0, none⟩ (.string x.name)).setCell ⟨v6.heap.size, 1, none⟩ (.int .i64 x.kind)).heap.size ≤ (((v8.setCell ⟨v6.heap.size, 0, none⟩ (.string x.name)).setCell ⟨v6.heap.size, 1, none⟩ (.int .i64 x.kind)).setCell ⟨v6.heap.size, 2, none⟩ (.int .i64 x.fr)).heap.size ∧ (((v8.setCell ⟨v6.heap.size, 0, none⟩ (.string x.name)).setCell ⟨v6.heap.size, 1, none⟩ (.int .i64 x.kind)).setCell ⟨v6.heap.size, 2, none⟩ (.int .i64 x.fr)).heap.size ≤ ((v8.setCell ⟨v6.heap.size, 0, none⟩ (.string x.name)).setCell ⟨v6.heap.size, 1, none⟩ (.int .i64 x.kind)).heap.size := by simp only [World.size_setCell]; exact ⟨Nat.le_refl _, Nat.le_refl _⟩
    replace hT := Lib.hid (hT.out.set (p := ⟨v6.heap.size, 3, none⟩) (by dsimp only; omega) (.int .i64 x.to))
    replace hkR := Lib.hid (hkR.out.far (p := ⟨v6.heap.size, 3, none⟩) (by dsimp only; omega) (.int .i64 x.to))
    replace hkQ := Lib.hid (hkQ.out.far (p := ⟨v6.heap.size, 3, none⟩) (by dsimp only; omega) (.int .i64 x.to))
    replace hkL := Lib.hid (hkL.out.far (p := ⟨v6.heap.size, 3, none⟩) (by dsimp only; omega) (.int .i64 x.to))
    replace hkC := Lib.hid (hkC.out.far (p := ⟨v6.heap.size, 3, none⟩) (by dsimp only; omega) (.int .i64 x.to))
    replace hkX := Lib.hid (show Bk ((((v8.setCell ⟨v6.heap.size, 0, none⟩ (.string x.name)).setCell ⟨v6.heap.size, 1, none⟩ (.int .i64 x.kind)).setCell ⟨v6.heap.size, 2, none⟩ (.int .i64 x.fr)).setCell ⟨v6.heap.size, 3, none⟩ (.int .i64 x.to)) (v6.heap.size) 63 #[.string x.name, .int .i64 x.kind, .int .i64 x.fr, .int .i64 x.to] from hkX.out.set 3 (.int .i64 x.to))
    replace hoI := Lib.hid (hoI.out.below (M := v6.heap.size) ((Below.refl _ _).setCell (p := ⟨v6.heap.size, 3, none⟩) (Nat.le_refl _) (.int .i64 x.to)) (by omega))
    replace hoY := Lib.hid (hoY.out.below (M := v6.heap.size) ((Below.refl _ _).setCell (p := ⟨v6.heap.size, 3, none⟩) (Nat.le_refl _) (.int .i64 x.to)) (by omega))
    have hqz4 : (((v8.setCell ⟨v6.heap.size, 0, none⟩ (.string x.name)).setCell ⟨v6.heap.size, 1, none⟩ (.int .i64 x.kind)).setCell ⟨v6.heap.size, 2, none⟩ (.int .i64 x.fr)).heap.size ≤ ((((v8.setCell ⟨v6.heap.size, 0, none⟩ (.string x.name)).setCell ⟨v6.heap.size, 1, none⟩ (.int .i64 x.kind)).setCell ⟨v6.heap.size, 2, none⟩ (.int .i64 x.fr)).setCell ⟨v6.heap.size, 3, none⟩ (.int .i64 x.to)).heap.size ∧ ((((v8.setCell ⟨v6.heap.size, 0, none⟩ (.string x.name)).setCell ⟨v6.heap.size, 1, none⟩ (.int .i64 x.kind)).setCell ⟨v6.heap.size, 2, none⟩ (.int .i64 x.fr)).setCell ⟨v6.heap.size, 3, none⟩ (.int .i64 x.to)).heap.size ≤ (((v8.setCell ⟨v6.heap.size, 0, none⟩ (.string x.name)).setCell ⟨v6.heap.size, 1, none⟩ (.int .i64 x.kind)).setCell ⟨v6.heap.size, 2, none⟩ (.int .i64 x.fr)).heap.size := by simp only [World.size_setCell]; exact ⟨Nat.le_refl _, Nat.le_refl _⟩
    generalize ((((v8.setCell ⟨v6.heap.size, 0, none⟩ (.string x.name)).setCell ⟨v6.heap.size, 1, none⟩ (.int .i64 x.kind)).setCell ⟨v6.heap.size, 2, none⟩ (.int .i64 x.fr)).setCell ⟨v6.heap.size, 3, none⟩ (.int .i64 x.to)) = v9 at *
    have hzv9 := hT.out.size
    obtain ⟨cL_0, cL_1, fL_0, fL_1⟩ := hkL.out.two
    obtain ⟨cR_0, cR_1, fR_0, fR_1⟩ := hkR.out.two
    obtain ⟨cQ_0, fQ_0⟩ := hkQ.out.one
    obtain ⟨cC_0, fC_0⟩ := hkC.out.one
    obtain ⟨⟨cX_0, cX_1, cX_2, cX_3⟩, fX_0, fX_1, fX_2, fX_3⟩ := hkX.out.four
    have hsm := Lib.hid (fun (W : World) (hs : SrcIs W B a c l _) (hb : Below v9.heap.size v9 W) => spec_l04Some B a c l (4000) (v6.heap.size) 0 (x.kind) (x.fr) (x.to) W hs (by omega) hl (keep hb (by rw [Nat.zero_add]; exact cX_1)) (keep hb (by rw [Nat.zero_add]; exact cX_2)) (keep hb (by rw [Nat.zero_add]; exact cX_3)) (by omega))
    first | go_region_held3 (fun V => Within w.heap.size (B + 1) v9 V ∧ V.cell? ⟨v1.heap.size, 0, none⟩ = some (.int .i64 WD) ∧ V.cell? ⟨v1.heap.size, 1, none⟩ = some (.slice (some ⟨g, 0, none⟩) m c3) ∧ V.cell? ⟨v3.heap.size, 0, none⟩ = some (.slice a5 ys.length c5) ∧ V.cell? ⟨v6.heap.size, 0, none⟩ = some (.string x.name)) (first | assumption | exact heldW5 (Within.of_below (below_drewN (Below.refl _ _) 1)) cL_0 cL_1 cC_0 cX_0 hLb hLb hCb hXb | (rename Within w.heap.size (B + 1) v9 _ ∧ _ => hH; exact heldW5 (hH.1.trans (Within.wider hwq0 (by omega) (Nat.le_refl _))) cL_0 cL_1 cC_0 cX_0 hLb hLb hCb hXb) | (rename Within w.heap.size (B + 1) v9 _ ∧ _ => hH; exact heldW5 ((hH.1.setCell (by dsimp only; omega) (by dsimp only; omega) _).setCell (by dsimp only; omega) (by dsimp only; omega) _) cL_0 cL_1 cC_0 cX_0 hLb hLb hCb hXb) | (rename Within w.heap.size (B + 1) v9 _ ∧ _ => hH; exact heldW5 (hH.1.setCell (by dsimp only; omega) (by dsimp only; omega) _) cL_0 cL_1 cC_0 cX_0 hLb hLb hCb hXb)) (first | (go_at_call 30; ((with_reducible refine (hsm.out _ ((hT.out.more (by omega)).src.kept (Below.refl _ _).drew) (Below.refl _ _).drew).mono ?_); rintro e wq0 ⟨v_, rfl, hv24, hsq0, hwq0⟩; have hw9 := (Within.of_below (lo := B) (hi := B + 1) (Below.refl v9.heap.size v9).drew).trans hwq0; have hr9 := hw9.cell cR_0 (by dsimp only; omega); have hr8 := hw9.cell cR_1 (by dsimp only; omega); have hr7 := hw9.frozen cR_0 fR_0 (by dsimp only; omega); have hr6 := hw9.frozen cR_1 fR_1 (by dsimp only; omega); have hr5 := hw9.cell cQ_0 (by dsimp only; omega); have hr4 := hw9.frozen cQ_0 fQ_0 (by dsimp only; omega)))) | fail
    clear hsm
    all_goals go_wp2_with fail
    clear cC_0 fC_0 cX_0 cX_1 cX_2 cX_3 fX_0 fX_1 fX_2 fX_3
    have hT_ := Lib.hid (hT.out.more (show _ ≤ 4000 by omega))
    clear hT
    have hT := hT_
    clear cL_0 cL_1 fL_0 fL_1 cR_0 cR_1 fR_0 fR_1 cQ_0 fQ_0
    replace hT := Lib.hid (hT.out.step hsq0 hw9)
    replace hkR := Lib.hid (hkR.out.within hw9 (by omega))
    replace hkQ := Lib.hid (hkQ.out.within hw9 (by omega))
    replace hkL := Lib.hid (hkL.out.within hw9 (by omega))
    replace hkC := Lib.hid (hkC.out.within hw9 (by omega))
    replace hkX := Lib.hid (hkX.out.within hw9 (by omega))
    replace hoI := Lib.hid (hoI.out.within hw9 (by omega))
    replace hoY := Lib.hid (hoY.out.within hw9 (by omega))
    clear hsq0 hwq0 hw9
    all_goals exact bodyPost_ret (v := .tuple #[.agg #[.int .i64 WD, .slice (some ⟨g, 0, none⟩) m c3], .agg #[.slice a5 ys.length c5], .string x.name, .string v_]) (by simp [results, Tryz.results16, go_sem, *]) rfl ⟨WD, (some ⟨g, 0, none⟩), c3, xs, a5, c5, ys, x.name, v_, by rw [hxm.out], hP.out, (by refine OV.row (lo := w1.heap.size) (hi := v1.heap.size) (e := 63) (size := 4) (n := m) (c := c3) ?_; repeat (first | with_reducible exact hoI.out | with_reducible refine OV.kept ?_ ((Below.refl _ _).drew) | with_reducible refine OV.setBelow ?_ (by dsimp only; omega) _)), by rw [hxm.out]; exact hoI.out.capn.1, (by refine OV.row (lo := v2.heap.size) (hi := v3.heap.size) (e := 2) (size := 1) (n := ys.length) (c := c5) ?_; repeat (first | with_reducible exact hoY.out | with_reducible refine OV.kept ?_ ((Below.refl _ _).drew) | with_reducible refine OV.setBelow ?_ (by dsimp only; omega) _)), hoY.out.capn.1, hy21, by omega, hv24, (by have hbel := (hT.out.win.below (B := w.heap.size) hB1.out (by omega) hB1.out.size); repeat (first | with_reducible exact hbel | with_reducible refine Below.drew ?_ | with_reducible refine Below.setCell ?_ (by dsimp only; omega) _))⟩
end Go.Proofs.YtmpfnkheohlmiaaGreatDoor
