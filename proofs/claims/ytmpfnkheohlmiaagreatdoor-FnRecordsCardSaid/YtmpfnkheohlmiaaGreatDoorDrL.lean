/- The walk of the function that draws the text of a layout, sometimes spoiled. -/
import Derived.Test.YtmpfnkheohlmiaaGreatDoorDrC
import Derived.Test.YtmpfnkheohlmiaaGreatDoorDrK
import Derived.Test.YtmpfnkheohlmiaaGreatDoorLTg
namespace Go.Proofs.YtmpfnkheohlmiaaGreatDoor
open Go.RowKit
set_option maxRecDepth 100000
set_option linter.unusedVariables false
set_option linter.unusedSimpArgs false
set_option linter.unnecessarySimpa false

theorem lay_text_le {wd : Int} {xs : List Itm} (h : LayS wd xs) : (⟨(layUp wd xs xs.length).toArray⟩ : ByteArray).size ≤ 1024 := by
  have h1 := layUp_lenG h xs.length (Nat.le_refl _)
  obtain ⟨⟨_, _, h2⟩, _⟩ := h
  show (layUp wd xs xs.length).toArray.size ≤ 1024
  rw [List.size_toArray]; omega
set_option maxHeartbeats 4000000 in
theorem spec_DrawReadLayout (a : Option Addr) (c : Nat) (l : List UInt8) (w : World) (hx : RB w a l) (hl : l.length ≤ 1073741824) :
    Calls Tryz.prog 14 #[.slice a l.length c] w fun e w' => ∃ t : ByteArray, e = .returned (.string t) ∧ t.size ≤ 8200 ∧ Below w.heap.size w w' := by
  go_enter Tryz.func14, Tryz.ntmps14
  go_wp2_with fail
  refine (spec_l00From a c l _ hx).mono ?_
  rintro e w1 ⟨rfl, hs, hb⟩
  generalize hBe : w.heap.size = B at *
  have hB1 := Lib.hid hb
  have hT := Lib.hid (St.start hs)
  have hz := hT.out.size
  clear hs hb
  replace hBe := Lib.hid hBe
  go_wp2_with fail
  refine (spec_l04DrawS B a c l _ w1 hT.out.src (by omega) hl).mono ?_
  rintro e v1 ⟨WD, a3, c3, xs, rfl, ⟨hW0, hW1, hm5, hP0⟩, hoI, hs, hw⟩
  have hP := Lib.hid hP0
  replace hoI := Lib.hid hoI
  clear hP0
  have hmv1 := hw.size
  replace hT := Lib.hid (hT.out.step hs hw)
  have hzv1 := hT.out.size
  clear hs hw
  generalize hxm : xs.length = m at *
  replace hxm := Lib.hid hxm
  replace hoI := Lib.hid (show OV w1.heap.size v1.heap.size v1 63 4 a3 m c3 (itemsV xs) by have h := hoI.out; unfold OT at h; rw [hxm.out] at h; exact h)
  go_wp2_with fail
  have hA := Lib.hid (below_alloc (w := v1) (.cells #[.int .i64 WD, .slice a3 m c3] 26))
  have hkn := Lib.hid (show Bk (v1.alloc (.cells #[.int .i64 WD, .slice a3 m c3] 26)) (v1.heap.size) 26 #[.int .i64 WD, .slice a3 m c3] from (by first | exact Bk.new _ _ _ | simpa using Bk.new v1 #[.int .i64 WD, .slice a3 m c3] 26))
  replace hT := Lib.hid (hT.out.kept hA.out)
  replace hoI := Lib.hid (hoI.out.kept hA.out)
  have hqL : v1.heap.size + 1 ≤ (v1.alloc (.cells #[.int .i64 WD, .slice a3 m c3] 26)).heap.size ∧ (v1.alloc (.cells #[.int .i64 WD, .slice a3 m c3] 26)).heap.size ≤ v1.heap.size + 1 := by simp
  have hkL := hkn
  clear hkn hA
  generalize (v1.alloc (.cells #[.int .i64 WD, .slice a3 m c3] 26)) = v2 at *
  have hzv2 := hT.out.size
  have hLS : LayS WD xs := ⟨⟨hW0, by omega, by rw [hxm.out]; omega⟩, hP.out⟩
  have hts := lay_text_le hLS
  have hfd := Lib.hid (spec_l04TextG (v1.heap.size) WD a3 c3 xs v2 hkL.out.two.1 (by rw [hxm.out]; exact hkL.out.two.2.1) hoI.out.row hLS)
  refine (hfd.out).mono ?_
  rintro e v3 ⟨rfl, hb⟩
  replace hT := Lib.hid (hT.out.kept hb)
  replace hkL := Lib.hid (hkL.out.kept hb)
  replace hoI := Lib.hid (hoI.out.kept hb)
  have hzbv3 := hb.size
  have hzv3 := hT.out.size
  have hltLv3 := hkL.out.lt
  clear hb
  clear hfd hLS
  generalize (⟨(layUp WD xs xs.length).toArray⟩ : ByteArray) = t at *
  go_wp2_with fail
  refine (spec_one B a c l _ 3 v3 hT.out.src (by omega) hl (by omega) (by omega)).mono ?_
  rintro e v4 ⟨b, rfl, hs, hw⟩
  have hmv4 := hw.size
  replace hT := Lib.hid (hT.out.step hs hw)
  replace hkL := Lib.hid (hkL.out.within hw (by omega))
  replace hoI := Lib.hid (hoI.out.within hw (by omega))
  have hzv4 := hT.out.size
  have hltLv4 := hkL.out.lt
  clear hs hw
  clear hkL
  cases b
  · go_wp2_with fail
    go_ret
    exact ⟨t, rfl, by omega, by rw [hBe.out]; exact hT.out.win.below (B := B) hB1.out (by omega) (Nat.le_of_lt hz.1)⟩
  · go_wp2_with fail
    refine (spec_l01Spoil B a c l _ t v4 hT.out.src (by omega) hl (by omega)).mono ?_
    rintro e v5 ⟨s_, rfl, hs8, hs, hw⟩
    have hmv5 := hw.size
    replace hT := Lib.hid (hT.out.step hs hw)
    replace hoI := Lib.hid (hoI.out.within hw (by omega))
    have hzv5 := hT.out.size
    clear hs hw
    go_wp2_with fail
    go_ret
    exact ⟨s_, rfl, hs8, by rw [hBe.out]; exact hT.out.win.below (B := B) hB1.out (by omega) (Nat.le_of_lt hz.1)⟩
end Go.Proofs.YtmpfnkheohlmiaaGreatDoor
