/- The walk of the function that draws a layout and a copy of it, sometimes changed. -/
import Derived.Test.YtmpfnkheohlmiaaGreatDoorDrC
import Derived.Deep.CutRange
namespace Go.Proofs.YtmpfnkheohlmiaaGreatDoor
open Go.RowKit
set_option maxRecDepth 100000
set_option linter.unusedVariables false
set_option linter.unusedSimpArgs false
set_option linter.unnecessarySimpa false

theorem lay16 {wd : Int} {xs : List Itm} (h : ∀ y ∈ xs, ItmS wd y) : ∀ y ∈ xs, y.name.size ≤ 16 := fun y hy => Nat.le_trans (h y hy).1 (by decide)
theorem items_to {xs : List Itm} {k : Nat} {x : Itm} (h : xs[k]? = some x) (t : Int) : (itemsV xs).set (k * 4 + 3) (.int .i64 t) = itemsV (xs.set k ⟨x.name, x.kind, x.fr, t⟩) := by
  obtain ⟨h1, h2⟩ := itemsV_split h
  rw [items_set h, h1, List.set_append_right _ _ (by omega), h2, show k * 4 + 3 - k * 4 = 3 by omega]; rfl
set_option maxHeartbeats 4000000 in
theorem spec_DrawSameLayout (a : Option Addr) (c : Nat) (l : List UInt8) (w : World) (hx : RB w a l) (hl : l.length ≤ 1073741824) :
    Calls Tryz.prog 19 #[.slice a l.length c] w fun e w' => ∃ (wd : Int) (a1 : Option Addr) (c1 : Nat) (xs : List Itm) (wd' : Int) (a2 : Option Addr) (c2 : Nat) (ys : List Itm), e = .returned (.tuple #[.agg #[.int .i64 wd, .slice a1 xs.length c1], .agg #[.int .i64 wd', .slice a2 ys.length c2]]) ∧ LayP wd xs ∧ RT w' a1 xs ∧ xs.length ≤ c1 ∧ LayP wd' ys ∧ RT w' a2 ys ∧ ys.length ≤ c2 ∧ Below w.heap.size w w' := by
  have hb1 := Lib.hid (below_alloc2 w (.cells #[.int .i64 0, .slice none 0 0] 26) (.cells #[.int .i64 0, .slice none 0 0] 26))
  have hkR := Lib.hid (show Bk ((w.alloc (.cells #[.int .i64 0, .slice none 0 0] 26)).alloc (.cells #[.int .i64 0, .slice none 0 0] 26)) (w.heap.size) 26 #[.int .i64 0, .slice none 0 0] from (Bk.new _ _ _).kept (below_alloc _))
  have hkQ := Lib.hid (show Bk ((w.alloc (.cells #[.int .i64 0, .slice none 0 0] 26)).alloc (.cells #[.int .i64 0, .slice none 0 0] 26)) (w.heap.size + 1) 26 #[.int .i64 0, .slice none 0 0] from by simpa using Bk.new (w.alloc (.cells #[.int .i64 0, .slice none 0 0] 26)) #[.int .i64 0, .slice none 0 0] 26)
  go_enter Tryz.func19, Tryz.ntmps19
  go_wp2_with fail
  refine (spec_l00From a c l _ (hx.kept hb1.out)).mono ?_
  rintro e w1 ⟨rfl, hs, hb⟩
  rw [show ((w.alloc (.cells #[.int .i64 0, .slice none 0 0] 26)).alloc (.cells #[.int .i64 0, .slice none 0 0] 26)).heap.size = w.heap.size + 2 by simp] at hs
  replace hkR := Lib.hid (hkR.out.kept hb)
  replace hkQ := Lib.hid (hkQ.out.kept hb)
  have hB1 := Lib.hid (bthen hb1.out hb)
  have hT := Lib.hid (St.start hs)
  have hz := hT.out.size
  clear hs hb hb1
  simp only [World.size_alloc]
  generalize hBe : w.heap.size + 2 = B at *
  have hBw : w.heap.size + 2 ≤ B := by omega
  clear hBe
  have hltR := hkR.out.lt
  have hltQ := hkQ.out.lt
  go_wp2_with fail
  refine (spec_l04DrawS B a c l _ w1 hT.out.src (by omega) hl).mono ?_
  rintro e v1 ⟨WD, a3, c3, xs, rfl, ⟨hW0, hW1, hm5, hP0⟩, hoI, hs, hw⟩
  have hP := Lib.hid hP0
  replace hoI := Lib.hid hoI
  clear hP0
  have hmv1 := hw.size
  replace hT := Lib.hid (hT.out.step hs hw)
  replace hkR := Lib.hid (hkR.out.within hw (by omega))
  replace hkQ := Lib.hid (hkQ.out.within hw (by omega))
  have hzv1 := hT.out.size
  have hltRv1 := hkR.out.lt
  have hltQv1 := hkQ.out.lt
  clear hs hw
  generalize hxm : xs.length = m at *
  replace hxm := Lib.hid hxm
  replace hoI := Lib.hid (show OV w1.heap.size v1.heap.size v1 63 4 a3 m c3 (itemsV xs) by have h := hoI.out; unfold OT at h; rw [hxm.out] at h; exact h)
  obtain ⟨i0, hi, hz0, hz1, hz2⟩ := info_parts Tryz.info_item
  go_wp2_with fail
  have hA := Lib.hid (below_alloc (w := v1) (.cells #[.int .i64 WD, .slice a3 m c3] 26))
  have hkn := Lib.hid (show Bk (v1.alloc (.cells #[.int .i64 WD, .slice a3 m c3] 26)) (v1.heap.size) 26 #[.int .i64 WD, .slice a3 m c3] from (by first | exact Bk.new _ _ _ | simpa using Bk.new v1 #[.int .i64 WD, .slice a3 m c3] 26))
  replace hT := Lib.hid (hT.out.kept hA.out)
  replace hkR := Lib.hid (hkR.out.kept hA.out)
  replace hkQ := Lib.hid (hkQ.out.kept hA.out)
  replace hoI := Lib.hid (hoI.out.kept hA.out)
  have hqL : v1.heap.size + 1 ≤ (v1.alloc (.cells #[.int .i64 WD, .slice a3 m c3] 26)).heap.size ∧ (v1.alloc (.cells #[.int .i64 WD, .slice a3 m c3] 26)).heap.size ≤ v1.heap.size + 1 := by simp
  have hkL := hkn
  clear hkn hA
  generalize (v1.alloc (.cells #[.int .i64 WD, .slice a3 m c3] 26)) = v2 at *
  have hzv2 := hT.out.size
  obtain ⟨cL_0, cL_1, fL_0, fL_1⟩ := hkL.out.two
  have hltL_ : v1.heap.size < v2.heap.size := hkL.out.lt
  have hxI := Lib.hid (show RT v2 a3 xs from hoI.out.row)
  have hS := Lib.hid (fun (W : World) (hb : Below v2.heap.size v2 W) => And.intro hb (And.intro (heldB hb (by omega) cL_0) (heldB hb (by omega) cL_1)))
  have hlv := Lib.hid (show (itemsV xs).length = m * 4 by rw [itemsV_length, hxm.out])
  have hm63 := Lib.hid (show 0 + m ≤ maxLen by unfold maxLen; omega)
  have hm64 := Lib.hid (show m + 1 ≤ maxLen by unfold maxLen; omega)
  have bd := below_drewN (Below.refl v2.heap.size v2) 1
  have hoA := Lib.hid (World.ownsRow_lit (base := v2.heap.size) (e := 63) (size := 4) (v2.drewN 1) #[] 0 (Nat.le_refl _) (by simp [maxLen]) rfl)
  have hoB := Lib.hid (hoA.out.alloc (.cells #[.int .i64 0, .slice none 0 0] 26))
  have hoC := Lib.hid (show (((v2.drewN 1).alloc (.cells #[.int .i64 0, .slice none 0 0] 26)).alloc (.cells #[] 63)).ownsRow v2.heap.size 63 4 (.slice (some ⟨v2.heap.size + 1, 0, none⟩) 0 0) 0 [] by
    have h := World.ownsRow_lit (base := v2.heap.size) (e := 63) (size := 4) ((v2.drewN 1).alloc (.cells #[.int .i64 0, .slice none 0 0] 26)) #[] 0 (by simp) (by simp [maxLen]) rfl
    rw [show ((v2.drewN 1).alloc (.cells #[.int .i64 0, .slice none 0 0] 26)).heap.size = v2.heap.size + 1 by simp] at h
    exact h)
  have bA := Lib.hid (bd.alloc (Nat.le_refl _) (.cells #[] 63))
  have bB := Lib.hid ((bd.alloc (Nat.le_refl _) (.cells #[] 63)).alloc (by simp) (.cells #[.int .i64 0, .slice none 0 0] 26))
  have bC := Lib.hid ((bd.alloc (Nat.le_refl _) (.cells #[.int .i64 0, .slice none 0 0] 26)).alloc (by simp) (.cells #[] 63))
  have hsA := Lib.hid (show v2.heap.size ≤ ((v2.drewN 1).alloc (.cells #[] 63)).heap.size by simp)
  have hsB := Lib.hid (show v2.heap.size ≤ (((v2.drewN 1).alloc (.cells #[] 63)).alloc (.cells #[.int .i64 0, .slice none 0 0] 26)).heap.size by simp; omega)
  have hsC := Lib.hid (show v2.heap.size ≤ (((v2.drewN 1).alloc (.cells #[.int .i64 0, .slice none 0 0] 26)).alloc (.cells #[] 63)).heap.size by simp; omega)
  have hkA := Lib.hid (fun (k : Nat) (hk : (Value.slice (some ⟨v2.heap.size, 0, none⟩) 0 0).ownBlock = some k) => (show v2.heap.size ≤ k by simp [Value.ownBlock] at hk; omega))
  have hkB := hkA
  have hkC := Lib.hid (fun (k : Nat) (hk : (Value.slice (some ⟨v2.heap.size + 1, 0, none⟩) 0 0).ownBlock = some k) => (show v2.heap.size ≤ k by simp [Value.ownBlock] at hk; omega))
  have rB := Lib.hid (show (((v2.drewN 1).alloc (.cells #[] 63)).alloc (.cells #[.int .i64 0, .slice none 0 0] 26)).heap[v2.heap.size + 1]? = some (.cells #[.int .i64 0, .slice none 0 0] 26 (0, 0)) by
    have h := heap_alloc_new ((v2.drewN 1).alloc (.cells #[] 63)) (.cells #[.int .i64 0, .slice none 0 0] 26)
    rw [show ((v2.drewN 1).alloc (.cells #[] 63)).heap.size = v2.heap.size + 1 by simp] at h
    exact h)
  have rC := Lib.hid (show (((v2.drewN 1).alloc (.cells #[.int .i64 0, .slice none 0 0] 26)).alloc (.cells #[] 63)).heap[v2.heap.size]? = some (.cells #[.int .i64 0, .slice none 0 0] 26 (0, 0)) from (heap_alloc_old ((v2.drewN 1).alloc (.cells #[.int .i64 0, .slice none 0 0] 26)) (.cells #[] 63) (by simp)).trans (heap_alloc_new (v2.drewN 1) (.cells #[.int .i64 0, .slice none 0 0] 26)))
  clear bd
  go_upto_region 3 with (fail)
  go_cut [6] from 11 to 17 (fun s6 wx => ∃ (D : Nat) (a5 : Option Addr) (c5 : Nat), s6 = .pointer (some ⟨D, 0, none⟩) ∧ wx.heap[D]? = some (.cells #[.int .i64 WD, .slice a5 m c5] 26 (0, 0)) ∧ wx.ownsRow v2.heap.size 63 4 (.slice a5 m c5) m (itemsV xs) ∧ v2.heap.size ≤ D ∧ (∀ q, a5 = some q → ¬ q.block = D) ∧ Below v2.heap.size v2 wx)
  case first =>
    go_region_held3 (fun V_ => Below v2.heap.size v2 V_ ∧ V_.cell? ⟨v1.heap.size, 0, none⟩ = some (.int .i64 WD) ∧ V_.cell? ⟨v1.heap.size, 1, none⟩ = some (.slice a3 m c3)) (first | exact hS.out _ (below_drewN (Below.refl _ _) 1) | (rename Below v2.heap.size v2 _ ∧ _ => hH; refine hS.out _ ?_; first | exact hH.1.alloc (Nat.le_trans (by omega) hH.1.size) _ | exact (hH.1.setCell (by dsimp only; omega) _).setCell (by dsimp only; omega) _ | (refine below_realloc hH.1 ?_; omega) | assumption)) (first | (refine step_row rfl _ _ 24 rfl v2.heap.size 63 i0 _ 4 40 Tryz.underlying24 hi hz0 hz1 hz2 rfl (by decide) (.slice (some ⟨v2.heap.size, 0, none⟩) 0 0) 0 [] rfl hoA.out a3 m c3 (itemsV xs) rfl hlv.out (hxI.out.kept bA.out) (items_one xs) hm63.out (by omega) hsA.out ?_; intro v5 w5 hown5 hg5; have hb5 := Lib.hid (bA.out.grown hg5 hsA.out hkA.out); have hq5 : Below v2.heap.size v2 w5 := hb5.out; have hs5 := hb5.out.size; (simp only [Nat.zero_add, List.nil_append] at hown5); obtain ⟨a5, c5, hv5, _, _⟩ := own_slice hown5; subst hv5; have ho5 := Lib.hid hown5; clear hown5 hg5) | (refine step_row rfl _ _ 24 rfl v2.heap.size 63 i0 _ 4 40 Tryz.underlying24 hi hz0 hz1 hz2 rfl (by decide) (.slice (some ⟨v2.heap.size, 0, none⟩) 0 0) 0 [] rfl hoB.out a3 m c3 (itemsV xs) rfl hlv.out (hxI.out.kept bB.out) (items_one xs) hm63.out (by omega) hsB.out ?_; intro v5 w5 hown5 hg5; have hb5 := Lib.hid (bB.out.grown hg5 hsB.out hkB.out); have hq5 : Below v2.heap.size v2 w5 := hb5.out; have hs5 := hb5.out.size; have hz5 := Lib.hid (blk_far rB.out hg5 (by simp [Value.ownBlock])); obtain ⟨hzc0, hzc1, hzf0, hzf1⟩ := blk_cell hz5.out; (simp only [Nat.zero_add, List.nil_append] at hown5); obtain ⟨a5, c5, hv5, _, _⟩ := own_slice hown5; subst hv5; have ho5 := Lib.hid hown5; clear hown5 hg5) | (refine step_row rfl _ _ 24 rfl v2.heap.size 63 i0 _ 4 40 Tryz.underlying24 hi hz0 hz1 hz2 rfl (by decide) (.slice (some ⟨v2.heap.size + 1, 0, none⟩) 0 0) 0 [] rfl hoC.out a3 m c3 (itemsV xs) rfl hlv.out (hxI.out.kept bC.out) (items_one xs) hm63.out (by omega) hsC.out ?_; intro v5 w5 hown5 hg5; have hb5 := Lib.hid (bC.out.grown hg5 hsC.out hkC.out); have hq5 : Below v2.heap.size v2 w5 := hb5.out; have hs5 := hb5.out.size; have hz5 := Lib.hid (blk_far rC.out hg5 (by simp [Value.ownBlock])); obtain ⟨hzc0, hzc1, hzf0, hzf1⟩ := blk_cell hz5.out; (simp only [Nat.zero_add, List.nil_append] at hown5); obtain ⟨a5, c5, hv5, _, _⟩ := own_slice hown5; subst hv5; have ho5 := Lib.hid hown5; clear hown5 hg5))
    all_goals
      go_wp2_with fail
      go_meet
      first
        | exact ⟨_, a5, c5, rfl, heap_alloc_new _ _, ((OV.of ho5.out).kept (below_alloc _)).1, by omega, fun q hq => by (have := own_at ho5.out hq; omega), hb5.out.alloc hs5 _⟩
        | exact ⟨_, a5, c5, rfl, blk_set2 hz5.out, ((OV.of ho5.out).far2 hz5.out (by decide) _ _ _ _).1, by omega, (OV.of ho5.out).ne_block hz5.out (by decide), (hb5.out.setCell (by dsimp only; omega) _).setCell (by dsimp only; omega) _⟩
  obtain ⟨D, a5, c5, rfl, hbk, ho5, hDl, hne5, hb⟩ := hcut
  rename World => wx
  clear hS hoA hoB hoC bA bB bC hsA hsB hsC hkA hkB hkC rB rC hxI hlv hm63 cL_0 cL_1 fL_0 fL_1
  replace hT := Lib.hid (hT.out.kept hb)
  replace hkR := Lib.hid (hkR.out.kept hb)
  replace hkQ := Lib.hid (hkQ.out.kept hb)
  replace hkL := Lib.hid (hkL.out.kept hb)
  replace hoI := Lib.hid (hoI.out.kept hb)
  have hzbx := hb.size
  have hzx := hT.out.size
  have hkD := Lib.hid (show Bk wx D 26 #[.int .i64 WD, .slice a5 m c5] from hbk)
  have hoJ := Lib.hid (OV.of ho5)
  have hne5' := Lib.hid hne5
  have hltD := hkD.out.lt
  clear hb hbk ho5 hne5
  have hltRwx := hkR.out.lt
  have hltQwx := hkQ.out.lt
  have hltLwx := hkL.out.lt
  have hltDwx := hkD.out.lt
  have hDR : ¬ D = w.heap.size := by omega
  have hDR2 : ¬ w.heap.size = D := by omega
  have hDQ : ¬ D = w.heap.size + 1 := by omega
  have hDQ2 : ¬ w.heap.size + 1 = D := by omega
  have hDA : ¬ D = v1.heap.size := by omega
  have hDA2 : ¬ v1.heap.size = D := by omega
  have hAR : ¬ v1.heap.size = w.heap.size := by omega
  have hAR2 : ¬ w.heap.size = v1.heap.size := by omega
  have hAQ : ¬ v1.heap.size = w.heap.size + 1 := by omega
  have hAQ2 : ¬ w.heap.size + 1 = v1.heap.size := by omega
  go_wp2_with fail
  refine (spec_pick B a c l _ (4) wx hT.out.src (by omega) hl (by omega) (by omega)).mono ?_
  rintro e v3 ⟨r, rfl, ⟨r0, r1, r2⟩, hs, hw⟩
  have hmv3 := hw.size
  replace hT := Lib.hid (hT.out.step hs hw)
  replace hkR := Lib.hid (hkR.out.within hw (by omega))
  replace hkQ := Lib.hid (hkQ.out.within hw (by omega))
  replace hkL := Lib.hid (hkL.out.within hw (by omega))
  replace hkD := Lib.hid (hkD.out.within hw (by omega))
  replace hoI := Lib.hid (hoI.out.within hw (by omega))
  replace hoJ := Lib.hid (hoJ.out.within hw (by omega))
  have hzv3 := hT.out.size
  have hltRv3 := hkR.out.lt
  have hltQv3 := hkQ.out.lt
  have hltLv3 := hkL.out.lt
  have hltDv3 := hkD.out.lt
  clear hs hw
  replace r1 := r1 (by omega)
  clear r2
  have hr4 : r = 0 ∨ r = 1 ∨ r = 2 ∨ r = 3 := by omega
  rcases hr4 with rfl | rfl | rfl | rfl
  · have hwr := (IntWalk.i64_in (WD + 1) (by omega) : IntKind.i64.wrap (WD + 1) = WD + 1)
    obtain ⟨cD_0, cD_1, fD_0, fD_1⟩ := hkD.out.two
    go_wp2_with fail
    clear cD_0 cD_1 fD_0 fD_1
    replace hoJ := Lib.hid (OV.far hoJ.out hkD.out (by decide) 0 (.int .i64 (WD + 1)))
    replace hT := Lib.hid (hT.out.set (p := ⟨D, 0, none⟩) (by dsimp only; omega) (.int .i64 (WD + 1)))
    replace hkR := Lib.hid (hkR.out.far (p := ⟨D, 0, none⟩) (by dsimp only; omega) (.int .i64 (WD + 1)))
    replace hkQ := Lib.hid (hkQ.out.far (p := ⟨D, 0, none⟩) (by dsimp only; omega) (.int .i64 (WD + 1)))
    replace hkL := Lib.hid (hkL.out.far (p := ⟨D, 0, none⟩) (by dsimp only; omega) (.int .i64 (WD + 1)))
    replace hkD := Lib.hid (show Bk (v3.setCell ⟨D, 0, none⟩ (.int .i64 (WD + 1))) (D) 26 #[.int .i64 (WD + 1), .slice a5 m c5] from hkD.out.set 0 (.int .i64 (WD + 1)))
    replace hoI := Lib.hid (hoI.out.below (M := D) ((Below.refl _ _).setCell (p := ⟨D, 0, none⟩) (Nat.le_refl _) (.int .i64 (WD + 1))) (by omega))
    have hqz1 : v3.heap.size ≤ (v3.setCell ⟨D, 0, none⟩ (.int .i64 (WD + 1))).heap.size ∧ (v3.setCell ⟨D, 0, none⟩ (.int .i64 (WD + 1))).heap.size ≤ v3.heap.size := by simp only [World.size_setCell]; exact ⟨Nat.le_refl _, Nat.le_refl _⟩
    generalize (v3.setCell ⟨D, 0, none⟩ (.int .i64 (WD + 1))) = v4 at *
    have hzv4 := hT.out.size
    obtain ⟨cL_0, cL_1, fL_0, fL_1⟩ := hkL.out.two
    obtain ⟨cD_0, cD_1, fD_0, fD_1⟩ := hkD.out.two
    obtain ⟨cR_0, cR_1, fR_0, fR_1⟩ := hkR.out.two
    obtain ⟨cQ_0, cQ_1, fQ_0, fQ_1⟩ := hkQ.out.two
    first | go_region_held3 (fun V => V.cell? ⟨v1.heap.size, 0, none⟩ = some (.int .i64 WD) ∧ V.cell? ⟨v1.heap.size, 1, none⟩ = some (.slice a3 m c3) ∧ V.cell? ⟨D, 0, none⟩ = some (.int .i64 (WD + 1)) ∧ V.cell? ⟨D, 1, none⟩ = some (.slice a5 m c5)) (simp [go_sem, *]) (fail) | fail
    all_goals go_wp2_with fail
    have hcap := hoI.out.capn.1
    have hcap2 := hoJ.out.capn.1
    have hbel := (hT.out.win.below (B := w.heap.size) hB1.out (by omega) hB1.out.size)
    have hrow := Lib.hid (OV.row (((((hoI.out.setBelow (p := ⟨w.heap.size, 0, none⟩) (by dsimp only; omega) (.int .i64 WD)).setBelow (p := ⟨w.heap.size, 1, none⟩) (by dsimp only; omega) (.slice a3 m c3)).setBelow (p := ⟨w.heap.size + 1, 0, none⟩) (by dsimp only; omega) (.int .i64 (WD + 1))).setBelow (p := ⟨w.heap.size + 1, 1, none⟩) (by dsimp only; omega) (.slice a5 m c5)).kept (Below.refl _ _).drew))
    have hrow2 := Lib.hid (OV.row (((((hoJ.out.setBelow (p := ⟨w.heap.size, 0, none⟩) (by dsimp only; omega) (.int .i64 WD)).setBelow (p := ⟨w.heap.size, 1, none⟩) (by dsimp only; omega) (.slice a3 m c3)).setBelow (p := ⟨w.heap.size + 1, 0, none⟩) (by dsimp only; omega) (.int .i64 (WD + 1))).setBelow (p := ⟨w.heap.size + 1, 1, none⟩) (by dsimp only; omega) (.slice a5 m c5)).kept (Below.refl _ _).drew))
    have hbl2 := Lib.hid (Below.drew ((((hbel.setCell (p := ⟨w.heap.size, 0, none⟩) (by dsimp only; omega) (.int .i64 WD)).setCell (p := ⟨w.heap.size, 1, none⟩) (by dsimp only; omega) (.slice a3 m c3)).setCell (p := ⟨w.heap.size + 1, 0, none⟩) (by dsimp only; omega) (.int .i64 (WD + 1))).setCell (p := ⟨w.heap.size + 1, 1, none⟩) (by dsimp only; omega) (.slice a5 m c5)))
    clear hbel
    have hlen_ := Lib.hid (show (xs).length = m by exact hxm.out)
    refine bodyPost_ret (v := .tuple #[.agg #[.int .i64 WD, .slice a3 m c3], .agg #[.int .i64 (WD + 1), .slice a5 m c5]]) (by simp [results, Tryz.results19, go_sem, *]) rfl ⟨WD, a3, c3, xs, (WD + 1), a5, c5, xs, by first | (rw [hxm.out]; done) | (rw [hlen_.out, hxm.out]; done), ⟨by omega, by omega, by rw [hxm.out]; omega, lay16 hP.out⟩, hrow.out, by rw [hxm.out]; exact hcap, ⟨by omega, by omega, by rw [hxm.out]; omega, lay16 hP.out⟩, hrow2.out, by have := hlen_.out; omega, hbl2.out⟩
  · by_cases hm0 : m = 0
    · have hd : decide ((0 : Int) < (m : Int)) = false := decide_eq_false (by omega)
      have hd2 : decide (0 < m) = false := decide_eq_false (by omega)
      replace hm0 := Lib.hid hm0
      obtain ⟨cD_0, cD_1, fD_0, fD_1⟩ := hkD.out.two
      go_wp2_with fail
      clear cD_0 cD_1 fD_0 fD_1
      obtain ⟨cL_0, cL_1, fL_0, fL_1⟩ := hkL.out.two
      obtain ⟨cD_0, cD_1, fD_0, fD_1⟩ := hkD.out.two
      obtain ⟨cR_0, cR_1, fR_0, fR_1⟩ := hkR.out.two
      obtain ⟨cQ_0, cQ_1, fQ_0, fQ_1⟩ := hkQ.out.two
      first | go_region_held3 (fun V => V.cell? ⟨v1.heap.size, 0, none⟩ = some (.int .i64 WD) ∧ V.cell? ⟨v1.heap.size, 1, none⟩ = some (.slice a3 m c3) ∧ V.cell? ⟨D, 0, none⟩ = some (.int .i64 WD) ∧ V.cell? ⟨D, 1, none⟩ = some (.slice a5 m c5)) (simp [go_sem, *]) (fail) | fail
      all_goals go_wp2_with fail
      have hcap := hoI.out.capn.1
      have hcap2 := hoJ.out.capn.1
      have hbel := (hT.out.win.below (B := w.heap.size) hB1.out (by omega) hB1.out.size)
      have hrow := Lib.hid (OV.row (((((hoI.out.setBelow (p := ⟨w.heap.size, 0, none⟩) (by dsimp only; omega) (.int .i64 WD)).setBelow (p := ⟨w.heap.size, 1, none⟩) (by dsimp only; omega) (.slice a3 m c3)).setBelow (p := ⟨w.heap.size + 1, 0, none⟩) (by dsimp only; omega) (.int .i64 WD)).setBelow (p := ⟨w.heap.size + 1, 1, none⟩) (by dsimp only; omega) (.slice a5 m c5)).kept (Below.refl _ _).drew))
      have hrow2 := Lib.hid (OV.row (((((hoJ.out.setBelow (p := ⟨w.heap.size, 0, none⟩) (by dsimp only; omega) (.int .i64 WD)).setBelow (p := ⟨w.heap.size, 1, none⟩) (by dsimp only; omega) (.slice a3 m c3)).setBelow (p := ⟨w.heap.size + 1, 0, none⟩) (by dsimp only; omega) (.int .i64 WD)).setBelow (p := ⟨w.heap.size + 1, 1, none⟩) (by dsimp only; omega) (.slice a5 m c5)).kept (Below.refl _ _).drew))
      have hbl2 := Lib.hid (Below.drew ((((hbel.setCell (p := ⟨w.heap.size, 0, none⟩) (by dsimp only; omega) (.int .i64 WD)).setCell (p := ⟨w.heap.size, 1, none⟩) (by dsimp only; omega) (.slice a3 m c3)).setCell (p := ⟨w.heap.size + 1, 0, none⟩) (by dsimp only; omega) (.int .i64 WD)).setCell (p := ⟨w.heap.size + 1, 1, none⟩) (by dsimp only; omega) (.slice a5 m c5)))
      clear hbel
      have hlen_ := Lib.hid (show (xs).length = m by exact hxm.out)
      refine bodyPost_ret (v := .tuple #[.agg #[.int .i64 WD, .slice a3 m c3], .agg #[.int .i64 WD, .slice a5 m c5]]) (by simp [results, Tryz.results19, go_sem, *]) rfl ⟨WD, a3, c3, xs, WD, a5, c5, xs, by first | (rw [hxm.out]; done) | (rw [hlen_.out, hxm.out]; done), ⟨by omega, by omega, by rw [hxm.out]; omega, lay16 hP.out⟩, hrow.out, by rw [hxm.out]; exact hcap, ⟨by omega, by omega, by rw [hxm.out]; omega, lay16 hP.out⟩, hrow2.out, by have := hlen_.out; omega, hbl2.out⟩
    · have hd : decide ((0 : Int) < (m : Int)) = true := decide_eq_true (by omega)
      have hd2 : decide (0 < m) = true := decide_eq_true (by omega)
      have hm0i : (0 : Int) < (m : Int) := by omega
      have hm0n : 0 < m := by omega
      obtain ⟨x, hx⟩ := get_some (l := xs) (k := 0) (by rw [hxm.out]; omega)
      obtain ⟨g, rfl, hg1, hg2⟩ := OV.addr hoJ.out (by omega)
      have hgD := hne5'.out _ rfl
      have hgD2 : ¬ D = g := fun e => hgD e.symm
      obtain ⟨⟨y0, y1, y2, y3⟩, hfg⟩ := row_item (a := none) hoJ.out hx
      simp only [Nat.zero_mul, Nat.zero_add] at y0 y1 y2 y3
      have f3_ := hfg 3
      have hxI := hP.out x (List.mem_of_getElem? hx)
      obtain ⟨_, _, hx0, hx1, hx2⟩ := hxI
      have hwr := (IntWalk.i64_in (x.to + 1) (by omega) : IntKind.i64.wrap (x.to + 1) = x.to + 1)
      obtain ⟨cD_0, cD_1, fD_0, fD_1⟩ := hkD.out.two
      go_wp2_with fail
      clear y0 y1 y2 y3 f3_ hfg cD_0 cD_1 fD_0 fD_1
      replace hoI := Lib.hid (hoI.out.below (M := g) ((Below.refl _ _).setCell (p := ⟨g, 3, none⟩) (Nat.le_refl _) (.int .i64 (x.to + 1))) (by omega))
      replace hT := Lib.hid (hT.out.set (p := ⟨g, 3, none⟩) (by dsimp only; omega) (.int .i64 (x.to + 1)))
      replace hkR := Lib.hid (hkR.out.far (p := ⟨g, 3, none⟩) (by dsimp only; omega) (.int .i64 (x.to + 1)))
      replace hkQ := Lib.hid (hkQ.out.far (p := ⟨g, 3, none⟩) (by dsimp only; omega) (.int .i64 (x.to + 1)))
      replace hkL := Lib.hid (hkL.out.far (p := ⟨g, 3, none⟩) (by dsimp only; omega) (.int .i64 (x.to + 1)))
      replace hkD := Lib.hid (hkD.out.far (p := ⟨g, 3, none⟩) (by dsimp only; omega) (.int .i64 (x.to + 1)))
      replace hoJ := Lib.hid (OV.store hoJ.out 3 (.int .i64 (x.to + 1)))
      have hqz1 : v3.heap.size ≤ (v3.setCell ⟨g, 3, none⟩ (.int .i64 (x.to + 1))).heap.size ∧ (v3.setCell ⟨g, 3, none⟩ (.int .i64 (x.to + 1))).heap.size ≤ v3.heap.size := by simp only [World.size_setCell]; exact ⟨Nat.le_refl _, Nat.le_refl _⟩
      generalize (v3.setCell ⟨g, 3, none⟩ (.int .i64 (x.to + 1))) = v4 at *
      have hzv4 := hT.out.size
      replace hoJ := Lib.hid (show OV _ _ v4 63 4 (some ⟨g, 0, none⟩) m c5 (itemsV (xs.set 0 ⟨x.name, x.kind, x.fr, x.to + 1⟩)) by
        have e := items_to hx (x.to + 1)
        simp only [Nat.zero_mul, Nat.zero_add] at e
        rw [← e]; exact hoJ.out)
      obtain ⟨cL_0, cL_1, fL_0, fL_1⟩ := hkL.out.two
      obtain ⟨cD_0, cD_1, fD_0, fD_1⟩ := hkD.out.two
      obtain ⟨cR_0, cR_1, fR_0, fR_1⟩ := hkR.out.two
      obtain ⟨cQ_0, cQ_1, fQ_0, fQ_1⟩ := hkQ.out.two
      first | go_region_held3 (fun V => V.cell? ⟨v1.heap.size, 0, none⟩ = some (.int .i64 WD) ∧ V.cell? ⟨v1.heap.size, 1, none⟩ = some (.slice a3 m c3) ∧ V.cell? ⟨D, 0, none⟩ = some (.int .i64 WD) ∧ V.cell? ⟨D, 1, none⟩ = some (.slice (some ⟨g, 0, none⟩) m c5)) (simp [go_sem, *]) (fail) | fail
      all_goals go_wp2_with fail
      have hcap := hoI.out.capn.1
      have hcap2 := hoJ.out.capn.1
      have hbel := (hT.out.win.below (B := w.heap.size) hB1.out (by omega) hB1.out.size)
      have hrow := Lib.hid (OV.row (((((hoI.out.setBelow (p := ⟨w.heap.size, 0, none⟩) (by dsimp only; omega) (.int .i64 WD)).setBelow (p := ⟨w.heap.size, 1, none⟩) (by dsimp only; omega) (.slice a3 m c3)).setBelow (p := ⟨w.heap.size + 1, 0, none⟩) (by dsimp only; omega) (.int .i64 WD)).setBelow (p := ⟨w.heap.size + 1, 1, none⟩) (by dsimp only; omega) (.slice (some ⟨g, 0, none⟩) m c5)).kept (Below.refl _ _).drew))
      have hrow2 := Lib.hid (OV.row (((((hoJ.out.setBelow (p := ⟨w.heap.size, 0, none⟩) (by dsimp only; omega) (.int .i64 WD)).setBelow (p := ⟨w.heap.size, 1, none⟩) (by dsimp only; omega) (.slice a3 m c3)).setBelow (p := ⟨w.heap.size + 1, 0, none⟩) (by dsimp only; omega) (.int .i64 WD)).setBelow (p := ⟨w.heap.size + 1, 1, none⟩) (by dsimp only; omega) (.slice (some ⟨g, 0, none⟩) m c5)).kept (Below.refl _ _).drew))
      have hbl2 := Lib.hid (Below.drew ((((hbel.setCell (p := ⟨w.heap.size, 0, none⟩) (by dsimp only; omega) (.int .i64 WD)).setCell (p := ⟨w.heap.size, 1, none⟩) (by dsimp only; omega) (.slice a3 m c3)).setCell (p := ⟨w.heap.size + 1, 0, none⟩) (by dsimp only; omega) (.int .i64 WD)).setCell (p := ⟨w.heap.size + 1, 1, none⟩) (by dsimp only; omega) (.slice (some ⟨g, 0, none⟩) m c5)))
      clear hbel
      have hlen_ := Lib.hid (show ((xs.set 0 ⟨x.name, x.kind, x.fr, x.to + 1⟩)).length = m by rw [List.length_set]; exact hxm.out)
      refine bodyPost_ret (v := .tuple #[.agg #[.int .i64 WD, .slice a3 m c3], .agg #[.int .i64 WD, .slice (some ⟨g, 0, none⟩) m c5]]) (by simp [results, Tryz.results19, go_sem, *]) rfl ⟨WD, a3, c3, xs, WD, (some ⟨g, 0, none⟩), c5, (xs.set 0 ⟨x.name, x.kind, x.fr, x.to + 1⟩), by first | (rw [hxm.out]; done) | (rw [hlen_.out, hxm.out]; done), ⟨by omega, by omega, by rw [hxm.out]; omega, lay16 hP.out⟩, hrow.out, by rw [hxm.out]; exact hcap, ⟨by omega, by omega, by rw [List.length_set, hxm.out]; omega, lay_set (lay16 hP.out) (show x.name.size ≤ 16 from lay16 hP.out x (List.mem_of_getElem? hx))⟩, hrow2.out, by have := hlen_.out; omega, hbl2.out⟩
  · skip
    have hnews := Lib.hid (show Row (v3.alloc (.cells #[.string ⟨#[]⟩, .int .i64 0, .int .i64 0, .int .i64 0] 63)) (some ⟨v3.heap.size, 0, none⟩) ((⟨⟨#[]⟩, 0, 0, 0⟩ : Itm)).cells from row_block (heap_alloc_new v3 (.cells #[.string ⟨#[]⟩, .int .i64 0, .int .i64 0, .int .i64 0] 63)))
    have hSle : v2.heap.size ≤ v3.heap.size := by omega
    obtain ⟨cD_0, cD_1, fD_0, fD_1⟩ := hkD.out.two
    go_wp2_with (at_builtin; refine wpList_append_own _ rfl _ _ 24 rfl (v2.heap.size) 63 i0 _ 4 40 Tryz.underlying24 hi hz0 hz1 hz2 rfl (by decide) _ m (itemsV xs) rfl (hoJ.out.1.alloc _) ⟨v3.heap.size, 0, none⟩ 1 1 ((⟨⟨#[]⟩, 0, 0, 0⟩ : Itm)).cells rfl rfl (Row.add hnews.out) (item_one _) hm64.out (by omega) (by simp only [World.size_alloc]; omega) ?_; intro v5_ w5 hown5 hg5 _; have hb5 := (((Below.refl (v2.heap.size) _).alloc hSle _).grown hg5 (by simp only [World.size_alloc]; omega) (fun k hk => (hoJ.out.1.lt k hk).1)); replace hT := Lib.hid (hT.out.below (hb5.mono (by omega))); replace hkD := Lib.hid (show Bk w5 _ _ _ from blk_far ((heap_alloc_old _ _ hltDv3).trans hkD.out) hg5 (own_ne hne5'.out)); replace hkR := Lib.hid (hkR.out.below hb5 (by omega)); replace hkQ := Lib.hid (hkQ.out.below hb5 (by omega)); replace hkL := Lib.hid (hkL.out.below hb5 (by omega)); replace hoI := Lib.hid (hoI.out.below hb5 (by omega)); have hsz5 := hb5.size; obtain ⟨a6, c6, hv5, _, _⟩ := own_slice hown5; subst hv5; replace hoJ := Lib.hid (OV.of hown5); clear hown5 hg5 hb5 cD_0 cD_1 fD_0 fD_1; obtain ⟨cD_0, cD_1, fD_0, fD_1⟩ := hkD.out.two)
    clear cD_0 cD_1 fD_0 fD_1 hnews
    replace hoJ := Lib.hid (OV.far hoJ.out hkD.out (by decide) 1 (.slice a6 (m + 1) c6))
    replace hT := Lib.hid (hT.out.set (p := ⟨D, 1, none⟩) (by dsimp only; omega) (.slice a6 (m + 1) c6))
    replace hkR := Lib.hid (hkR.out.far (p := ⟨D, 1, none⟩) (by dsimp only; omega) (.slice a6 (m + 1) c6))
    replace hkQ := Lib.hid (hkQ.out.far (p := ⟨D, 1, none⟩) (by dsimp only; omega) (.slice a6 (m + 1) c6))
    replace hkL := Lib.hid (hkL.out.far (p := ⟨D, 1, none⟩) (by dsimp only; omega) (.slice a6 (m + 1) c6))
    replace hkD := Lib.hid (show Bk (w5.setCell ⟨D, 1, none⟩ (.slice a6 (m + 1) c6)) (D) 26 #[.int .i64 WD, .slice a6 (m + 1) c6] from hkD.out.set 1 (.slice a6 (m + 1) c6))
    replace hoI := Lib.hid (hoI.out.below (M := D) ((Below.refl _ _).setCell (p := ⟨D, 1, none⟩) (Nat.le_refl _) (.slice a6 (m + 1) c6)) (by omega))
    have hqz1 : w5.heap.size ≤ (w5.setCell ⟨D, 1, none⟩ (.slice a6 (m + 1) c6)).heap.size ∧ (w5.setCell ⟨D, 1, none⟩ (.slice a6 (m + 1) c6)).heap.size ≤ w5.heap.size := by simp only [World.size_setCell]; exact ⟨Nat.le_refl _, Nat.le_refl _⟩
    generalize (w5.setCell ⟨D, 1, none⟩ (.slice a6 (m + 1) c6)) = v4 at *
    have hzv4 := hT.out.size
    replace hoJ := Lib.hid (show OV _ _ _ 63 4 a6 (m + 1) c6 (itemsV (xs ++ [(⟨⟨#[]⟩, 0, 0, 0⟩ : Itm)])) by rw [itemsV_append, itemsV_one]; exact hoJ.out)
    obtain ⟨cL_0, cL_1, fL_0, fL_1⟩ := hkL.out.two
    obtain ⟨cD_0, cD_1, fD_0, fD_1⟩ := hkD.out.two
    obtain ⟨cR_0, cR_1, fR_0, fR_1⟩ := hkR.out.two
    obtain ⟨cQ_0, cQ_1, fQ_0, fQ_1⟩ := hkQ.out.two
    first | go_region_held3 (fun V => V.cell? ⟨v1.heap.size, 0, none⟩ = some (.int .i64 WD) ∧ V.cell? ⟨v1.heap.size, 1, none⟩ = some (.slice a3 m c3) ∧ V.cell? ⟨D, 0, none⟩ = some (.int .i64 WD) ∧ V.cell? ⟨D, 1, none⟩ = some (.slice a6 (m + 1) c6)) (simp [go_sem, *]) (fail) | fail
    all_goals go_wp2_with fail
    have hcap := hoI.out.capn.1
    have hcap2 := hoJ.out.capn.1
    have hbel := (hT.out.win.below (B := w.heap.size) hB1.out (by omega) hB1.out.size)
    have hrow := Lib.hid (OV.row (((((hoI.out.setBelow (p := ⟨w.heap.size, 0, none⟩) (by dsimp only; omega) (.int .i64 WD)).setBelow (p := ⟨w.heap.size, 1, none⟩) (by dsimp only; omega) (.slice a3 m c3)).setBelow (p := ⟨w.heap.size + 1, 0, none⟩) (by dsimp only; omega) (.int .i64 WD)).setBelow (p := ⟨w.heap.size + 1, 1, none⟩) (by dsimp only; omega) (.slice a6 (m + 1) c6)).kept (Below.refl _ _).drew))
    have hrow2 := Lib.hid (OV.row (((((hoJ.out.setBelow (p := ⟨w.heap.size, 0, none⟩) (by dsimp only; omega) (.int .i64 WD)).setBelow (p := ⟨w.heap.size, 1, none⟩) (by dsimp only; omega) (.slice a3 m c3)).setBelow (p := ⟨w.heap.size + 1, 0, none⟩) (by dsimp only; omega) (.int .i64 WD)).setBelow (p := ⟨w.heap.size + 1, 1, none⟩) (by dsimp only; omega) (.slice a6 (m + 1) c6)).kept (Below.refl _ _).drew))
    have hbl2 := Lib.hid (Below.drew ((((hbel.setCell (p := ⟨w.heap.size, 0, none⟩) (by dsimp only; omega) (.int .i64 WD)).setCell (p := ⟨w.heap.size, 1, none⟩) (by dsimp only; omega) (.slice a3 m c3)).setCell (p := ⟨w.heap.size + 1, 0, none⟩) (by dsimp only; omega) (.int .i64 WD)).setCell (p := ⟨w.heap.size + 1, 1, none⟩) (by dsimp only; omega) (.slice a6 (m + 1) c6)))
    clear hbel
    have hlen_ := Lib.hid (show ((xs ++ [(⟨⟨#[]⟩, 0, 0, 0⟩ : Itm)])).length = (m + 1) by rw [List.length_append, hxm.out]; rfl)
    refine bodyPost_ret (v := .tuple #[.agg #[.int .i64 WD, .slice a3 m c3], .agg #[.int .i64 WD, .slice a6 (m + 1) c6]]) (by simp [results, Tryz.results19, go_sem, *]) rfl ⟨WD, a3, c3, xs, WD, a6, c6, (xs ++ [(⟨⟨#[]⟩, 0, 0, 0⟩ : Itm)]), by first | (rw [hxm.out]; done) | (rw [hlen_.out, hxm.out]; done), ⟨by omega, by omega, by rw [hxm.out]; omega, lay16 hP.out⟩, hrow.out, by rw [hxm.out]; exact hcap, ⟨by omega, by omega, by rw [List.length_append, hxm.out]; show m + 1 ≤ 16; omega, lay_snoc (lay16 hP.out) (by decide)⟩, hrow2.out, by have := hlen_.out; omega, hbl2.out⟩
  · skip
    go_wp2_with fail
    obtain ⟨cL_0, cL_1, fL_0, fL_1⟩ := hkL.out.two
    obtain ⟨cD_0, cD_1, fD_0, fD_1⟩ := hkD.out.two
    obtain ⟨cR_0, cR_1, fR_0, fR_1⟩ := hkR.out.two
    obtain ⟨cQ_0, cQ_1, fQ_0, fQ_1⟩ := hkQ.out.two
    first | go_region_held3 (fun V => V.cell? ⟨v1.heap.size, 0, none⟩ = some (.int .i64 WD) ∧ V.cell? ⟨v1.heap.size, 1, none⟩ = some (.slice a3 m c3) ∧ V.cell? ⟨D, 0, none⟩ = some (.int .i64 WD) ∧ V.cell? ⟨D, 1, none⟩ = some (.slice a5 m c5)) (simp [go_sem, *]) (fail) | fail
    all_goals go_wp2_with fail
    have hcap := hoI.out.capn.1
    have hcap2 := hoJ.out.capn.1
    have hbel := (hT.out.win.below (B := w.heap.size) hB1.out (by omega) hB1.out.size)
    have hrow := Lib.hid (OV.row (((((hoI.out.setBelow (p := ⟨w.heap.size, 0, none⟩) (by dsimp only; omega) (.int .i64 WD)).setBelow (p := ⟨w.heap.size, 1, none⟩) (by dsimp only; omega) (.slice a3 m c3)).setBelow (p := ⟨w.heap.size + 1, 0, none⟩) (by dsimp only; omega) (.int .i64 WD)).setBelow (p := ⟨w.heap.size + 1, 1, none⟩) (by dsimp only; omega) (.slice a5 m c5)).kept (Below.refl _ _).drew))
    have hrow2 := Lib.hid (OV.row (((((hoJ.out.setBelow (p := ⟨w.heap.size, 0, none⟩) (by dsimp only; omega) (.int .i64 WD)).setBelow (p := ⟨w.heap.size, 1, none⟩) (by dsimp only; omega) (.slice a3 m c3)).setBelow (p := ⟨w.heap.size + 1, 0, none⟩) (by dsimp only; omega) (.int .i64 WD)).setBelow (p := ⟨w.heap.size + 1, 1, none⟩) (by dsimp only; omega) (.slice a5 m c5)).kept (Below.refl _ _).drew))
    have hbl2 := Lib.hid (Below.drew ((((hbel.setCell (p := ⟨w.heap.size, 0, none⟩) (by dsimp only; omega) (.int .i64 WD)).setCell (p := ⟨w.heap.size, 1, none⟩) (by dsimp only; omega) (.slice a3 m c3)).setCell (p := ⟨w.heap.size + 1, 0, none⟩) (by dsimp only; omega) (.int .i64 WD)).setCell (p := ⟨w.heap.size + 1, 1, none⟩) (by dsimp only; omega) (.slice a5 m c5)))
    clear hbel
    have hlen_ := Lib.hid (show (xs).length = m by exact hxm.out)
    refine bodyPost_ret (v := .tuple #[.agg #[.int .i64 WD, .slice a3 m c3], .agg #[.int .i64 WD, .slice a5 m c5]]) (by simp [results, Tryz.results19, go_sem, *]) rfl ⟨WD, a3, c3, xs, WD, a5, c5, xs, by first | (rw [hxm.out]; done) | (rw [hlen_.out, hxm.out]; done), ⟨by omega, by omega, by rw [hxm.out]; omega, lay16 hP.out⟩, hrow.out, by rw [hxm.out]; exact hcap, ⟨by omega, by omega, by rw [hxm.out]; omega, lay16 hP.out⟩, hrow2.out, by have := hlen_.out; omega, hbl2.out⟩
end Go.Proofs.YtmpfnkheohlmiaaGreatDoor
