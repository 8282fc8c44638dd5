/- FnRecords: for all arguments the law returns true, and memory that was there is as it was. No condition. -/
import Derived.Test.YtmpfnkheohlmiaaGreatDoorRows
import Derived.Test.YtmpfnkheohlmiaaGreatDoorCards
import Derived.Deep.DeepWitnessRowRef
import Derived.LaidMore
import Derived.Test.YtmpfnkheohlmiaaGreatDoorTie
import Derived.Deep.DeepHandedRow
import Derived.Lib.LaidTab
import Derived.Stop.LaidErr
import Derived.OpenVars
import Derived.Test.YtmpfnkheohlmiaaGreatDoorQA
import Derived.Test.YtmpfnkheohlmiaaGreatDoorQB
import Derived.Deep.RegionHeld3
import Derived.Deep.CutRange
import Derived.ShutString
import Derived.Test.YtmpfnkheohlmiaaGreatDoorQT
import Derived.Test.YtmpfnkheohlmiaaGreatDoorRecL
import Derived.Test.YtmpfnkheohlmiaaGreatDoorQC
import Derived.Test.YtmpfnkheohlmiaaGreatDoorCf
import Derived.Test.YtmpfnkheohlmiaaGreatDoorCfS
import Derived.Test.YtmpfnkheohlmiaaGreatDoorQL
import Derived.Test.YtmpfnkheohlmiaaGreatDoorQV
import Derived.Test.YtmpfnkheohlmiaaGreatDoorRlR
import Derived.Test.YtmpfnkheohlmiaaGreatDoorQS
import Derived.Test.YtmpfnkheohlmiaaGreatDoorChg
import Derived.Test.YtmpfnkheohlmiaaGreatDoorQY
import Derived.Test.YtmpfnkheohlmiaaGreatDoorQI
import Derived.Test.YtmpfnkheohlmiaaGreatDoorValid
import Derived.Test.YtmpfnkheohlmiaaGreatDoorQX
import Derived.Test.YtmpfnkheohlmiaaGreatDoorRlI
import Derived.Test.YtmpfnkheohlmiaaGreatDoorDrJ
import Derived.Test.YtmpfnkheohlmiaaGreatDoorDrL
import Derived.Test.YtmpfnkheohlmiaaGreatDoorDrM
namespace Go.Proofs.YtmpfnkheohlmiaaGreatDoor.fnRecords
open Go.ChangeShapes Go.WideShapes Go.ChangeAt Go.RowKit
open Go.ChangeMaps (open_string shut_string)
set_option linter.unusedVariables false
set_option linter.unusedSimpArgs false
set_option linter.unnecessarySimpa false
set_option maxRecDepth 100000

theorem own : ownKnob Tryz.prog.godebug = none := by kernel_rfl
theorem laidOut : laidOutB Tryz.prog = true := by kernel_rfl

set_option maxHeartbeats 40000000 in
/-- The Go text returns true; memory has at most new blocks. -/
theorem walk (a0 : Option Addr) (c0 : Nat) (x0 : List UInt8) (w : World) (hx0 : RB w a0 x0) (hm0 : x0.length ≤ maxLen) (ht : Pow10 w) (hE : Errs w) (hK : Kinds w) (hM : ∃ m, w.cell? ⟨1, 0, none⟩ = some (.int .i64 m)) :
    Calls Tryz.prog 3 #[.slice a0 x0.length c0] w fun e w' => e = .returned (.bool true) ∧ Below w.heap.size w w' := by
  -- MARK 0
  have hxl : x0.length ≤ 9223372036854775807 := by simpa [maxLen] using hm0
  by_cases hbig : 4096 < x0.length
  · have hd : decide (4096 < x0.length) = true := decide_eq_true hbig
    have hc := Lib.hid (laws_f6big a0 x0.length c0 w hm0)
    rw [hd] at hc
    clear hd hbig
    go_enter Tryz.func3, Tryz.ntmps3
    go_wp2_with fail
    refine hc.out.mono ?_
    rintro e w' ⟨rfl, rfl⟩
    go_wp2_with fail
    go_ret
    exact ⟨rfl, Below.refl _ _⟩
  have hd : decide (4096 < x0.length) = false := decide_eq_false hbig
  have hc := Lib.hid (laws_f6big a0 x0.length c0 w hm0)
  rw [hd] at hc
  clear hd
  have hl0 : x0.length ≤ 1073741824 := by omega
  have hrC := Lib.hid hx0
  have hB := Lib.hid (Below.refl w.heap.size w)
  replace ht := Lib.hid ht
  replace hE := Lib.hid hE
  replace hK := Lib.hid hK
  replace hM := Lib.hid hM
  clear hxl hbig
  go_enter Tryz.func3, Tryz.ntmps3
  go_wp2_with fail
  refine hc.out.mono ?_
  rintro e w' ⟨rfl, hww⟩
  obtain rfl := hww.symm
  clear hc
  -- MARK 1
  go_wp2_with fail
  refine (spec_DrawCardFor a0 c0 x0 w hrC.out hl0).mono ?_
  rintro e v1 ⟨WD1, a1, c1, xs1, b1, d1, vs1, rfl, hP1, hr1, hcap1, hrv1, htz1, hb⟩
  replace hB := Lib.hid (bthen hB.out hb)
  replace hrC := Lib.hid (hrC.out.kept hb)
  have hs1 := hP1.sz
  clear hP1
  replace hr1 := Lib.hid hr1
  replace hrv1 := Lib.hid hrv1
  clear hb
  go_wp2_with fail
  have hA := Lib.hid (below_alloc (w := v1) (.cells #[.int .i64 WD1, .slice a1 xs1.length c1] 26))
  have hkn := Lib.hid (show Bk (v1.alloc (.cells #[.int .i64 WD1, .slice a1 xs1.length c1] 26)) (v1.heap.size) 26 #[.int .i64 WD1, .slice a1 xs1.length c1] from (by first | exact Bk.new _ _ _ | simpa using Bk.new v1 #[.int .i64 WD1, .slice a1 xs1.length c1] 26))
  replace hB := Lib.hid (bthen hB.out hA.out)
  replace hrC := Lib.hid (hrC.out.kept hA.out)
  replace hr1 := Lib.hid (hr1.out.kept hA.out)
  replace hrv1 := Lib.hid (hrv1.out.kept hA.out)
  have hqL : v1.heap.size + 1 ≤ (v1.alloc (.cells #[.int .i64 WD1, .slice a1 xs1.length c1] 26)).heap.size ∧ (v1.alloc (.cells #[.int .i64 WD1, .slice a1 xs1.length c1] 26)).heap.size ≤ v1.heap.size + 1 := by simp
  have hkL := hkn
  clear hkn hA
  generalize (v1.alloc (.cells #[.int .i64 WD1, .slice a1 xs1.length c1] 26)) = v2 at *
  have hltLv2 := hkL.out.lt
  refine (impl_CardFor WD1 a1 c1 xs1 b1 d1 vs1 v2 hr1.out hrv1.out hs1 hcap1 htz1 (pow_kept ht.out hB.out) (Errs.kept hE.out hB.out)).mono ?_
  rintro e v3 ⟨a2, c2, rfl, ho, hb⟩
  replace hB := Lib.hid (bthen hB.out hb)
  replace hkL := Lib.hid (hkL.out.kept hb)
  replace hrC := Lib.hid (hrC.out.kept hb)
  replace hr1 := Lib.hid (hr1.out.kept hb)
  replace hrv1 := Lib.hid (hrv1.out.kept hb)
  have hcap2 := (OV.of ho).capn.1
  have hr2 := Lib.hid (own_RI ho)
  clear ho
  have hltLv3 := hkL.out.lt
  clear hb
  obtain ⟨cL_0, cL_1, fL_0, fL_1⟩ := hkL.out.two
  go_wp2_with fail
  clear cL_0 cL_1 fL_0 fL_1
  have hA := Lib.hid (below_alloc (w := v3) (.cells #[.slice a2 (cfL WD1 xs1 vs1).length c2] 32))
  have hkn := Lib.hid (show Bk (v3.alloc (.cells #[.slice a2 (cfL WD1 xs1 vs1).length c2] 32)) (v3.heap.size) 32 #[.slice a2 (cfL WD1 xs1 vs1).length c2] from (by first | exact Bk.new _ _ _ | simpa using Bk.new v3 #[.slice a2 (cfL WD1 xs1 vs1).length c2] 32))
  replace hB := Lib.hid (bthen hB.out hA.out)
  replace hkL := Lib.hid (hkL.out.kept hA.out)
  replace hrC := Lib.hid (hrC.out.kept hA.out)
  replace hr1 := Lib.hid (hr1.out.kept hA.out)
  replace hrv1 := Lib.hid (hrv1.out.kept hA.out)
  replace hr2 := Lib.hid (hr2.out.kept hA.out)
  have hqC : v3.heap.size + 1 ≤ (v3.alloc (.cells #[.slice a2 (cfL WD1 xs1 vs1).length c2] 32)).heap.size ∧ (v3.alloc (.cells #[.slice a2 (cfL WD1 xs1 vs1).length c2] 32)).heap.size ≤ v3.heap.size + 1 := by simp
  have hkC := hkn
  clear hkn hA
  generalize (v3.alloc (.cells #[.slice a2 (cfL WD1 xs1 vs1).length c2] 32)) = v4 at *
  have hltLv4 := hkL.out.lt
  have hltCv4 := hkC.out.lt
  refine (spec_CardFor WD1 a1 c1 xs1 b1 d1 vs1 v4 hr1.out hrv1.out hs1 hcap1 htz1).mono ?_
  rintro e v5 ⟨a3, c3, rfl, ho, hb⟩
  replace hB := Lib.hid (bthen hB.out hb)
  replace hkL := Lib.hid (hkL.out.kept hb)
  replace hkC := Lib.hid (hkC.out.kept hb)
  replace hrC := Lib.hid (hrC.out.kept hb)
  replace hr1 := Lib.hid (hr1.out.kept hb)
  replace hrv1 := Lib.hid (hrv1.out.kept hb)
  replace hr2 := Lib.hid (hr2.out.kept hb)
  have hcap3 := (OV.of ho).capn.1
  have hr3 := Lib.hid (own_RI ho)
  clear ho
  have hltLv5 := hkL.out.lt
  have hltCv5 := hkC.out.lt
  clear hb
  go_wp2_with fail
  have hA := Lib.hid (below_alloc (w := v5) (.cells #[.slice a3 (cfL WD1 xs1 vs1).length c3] 32))
  have hkn := Lib.hid (show Bk (v5.alloc (.cells #[.slice a3 (cfL WD1 xs1 vs1).length c3] 32)) (v5.heap.size) 32 #[.slice a3 (cfL WD1 xs1 vs1).length c3] from (by first | exact Bk.new _ _ _ | simpa using Bk.new v5 #[.slice a3 (cfL WD1 xs1 vs1).length c3] 32))
  replace hB := Lib.hid (bthen hB.out hA.out)
  replace hkL := Lib.hid (hkL.out.kept hA.out)
  replace hkC := Lib.hid (hkC.out.kept hA.out)
  replace hrC := Lib.hid (hrC.out.kept hA.out)
  replace hr1 := Lib.hid (hr1.out.kept hA.out)
  replace hrv1 := Lib.hid (hrv1.out.kept hA.out)
  replace hr2 := Lib.hid (hr2.out.kept hA.out)
  replace hr3 := Lib.hid (hr3.out.kept hA.out)
  have hqM : v5.heap.size + 1 ≤ (v5.alloc (.cells #[.slice a3 (cfL WD1 xs1 vs1).length c3] 32)).heap.size ∧ (v5.alloc (.cells #[.slice a3 (cfL WD1 xs1 vs1).length c3] 32)).heap.size ≤ v5.heap.size + 1 := by simp
  have hkM := hkn
  clear hkn hA
  generalize (v5.alloc (.cells #[.slice a3 (cfL WD1 xs1 vs1).length c3] 32)) = v6 at *
  have hltLv6 := hkL.out.lt
  have hltCv6 := hkC.out.lt
  have hltMv6 := hkM.out.lt
  -- MARK 2
  refine (spec_DrawRecordOf a0 c0 x0 v6 hrC.out hl0).mono ?_
  rintro e v7 ⟨WD4, a4, c4, xs4, b4, d4, ys4, rfl, hP4, hr4, hcap4, hry4, hcy4, hy21, hb⟩
  replace hB := Lib.hid (bthen hB.out hb)
  replace hkL := Lib.hid (hkL.out.kept hb)
  replace hkC := Lib.hid (hkC.out.kept hb)
  replace hkM := Lib.hid (hkM.out.kept hb)
  replace hrC := Lib.hid (hrC.out.kept hb)
  replace hr1 := Lib.hid (hr1.out.kept hb)
  replace hrv1 := Lib.hid (hrv1.out.kept hb)
  replace hr2 := Lib.hid (hr2.out.kept hb)
  replace hr3 := Lib.hid (hr3.out.kept hb)
  have hs4 := hP4.sz
  clear hP4
  replace hr4 := Lib.hid hr4
  replace hry4 := Lib.hid hry4
  have hyb4 : ys4.length ≤ 1048576 := by omega
  have hltLv7 := hkL.out.lt
  have hltCv7 := hkC.out.lt
  have hltMv7 := hkM.out.lt
  clear hb
  go_wp2_with fail
  have hA := Lib.hid (below_alloc (w := v7) (.cells #[.int .i64 WD4, .slice a4 xs4.length c4] 26))
  have hkn := Lib.hid (show Bk (v7.alloc (.cells #[.int .i64 WD4, .slice a4 xs4.length c4] 26)) (v7.heap.size) 26 #[.int .i64 WD4, .slice a4 xs4.length c4] from (by first | exact Bk.new _ _ _ | simpa using Bk.new v7 #[.int .i64 WD4, .slice a4 xs4.length c4] 26))
  replace hB := Lib.hid (bthen hB.out hA.out)
  replace hkL := Lib.hid (hkL.out.kept hA.out)
  replace hkC := Lib.hid (hkC.out.kept hA.out)
  replace hkM := Lib.hid (hkM.out.kept hA.out)
  replace hrC := Lib.hid (hrC.out.kept hA.out)
  replace hr1 := Lib.hid (hr1.out.kept hA.out)
  replace hrv1 := Lib.hid (hrv1.out.kept hA.out)
  replace hr2 := Lib.hid (hr2.out.kept hA.out)
  replace hr3 := Lib.hid (hr3.out.kept hA.out)
  replace hr4 := Lib.hid (hr4.out.kept hA.out)
  replace hry4 := Lib.hid (hry4.out.kept hA.out)
  have hqR : v7.heap.size + 1 ≤ (v7.alloc (.cells #[.int .i64 WD4, .slice a4 xs4.length c4] 26)).heap.size ∧ (v7.alloc (.cells #[.int .i64 WD4, .slice a4 xs4.length c4] 26)).heap.size ≤ v7.heap.size + 1 := by simp
  have hkR := hkn
  clear hkn hA
  have hA := Lib.hid (below_alloc (w := (v7.alloc (.cells #[.int .i64 WD4, .slice a4 xs4.length c4] 26))) (.cells #[.slice b4 ys4.length d4] 32))
  have hkn := Lib.hid (show Bk ((v7.alloc (.cells #[.int .i64 WD4, .slice a4 xs4.length c4] 26)).alloc (.cells #[.slice b4 ys4.length d4] 32)) (v7.heap.size + 1) 32 #[.slice b4 ys4.length d4] from (by first | exact Bk.new _ _ _ | simpa using Bk.new (v7.alloc (.cells #[.int .i64 WD4, .slice a4 xs4.length c4] 26)) #[.slice b4 ys4.length d4] 32))
  replace hB := Lib.hid (bthen hB.out hA.out)
  replace hkL := Lib.hid (hkL.out.kept hA.out)
  replace hkC := Lib.hid (hkC.out.kept hA.out)
  replace hkM := Lib.hid (hkM.out.kept hA.out)
  replace hkR := Lib.hid (hkR.out.kept hA.out)
  replace hrC := Lib.hid (hrC.out.kept hA.out)
  replace hr1 := Lib.hid (hr1.out.kept hA.out)
  replace hrv1 := Lib.hid (hrv1.out.kept hA.out)
  replace hr2 := Lib.hid (hr2.out.kept hA.out)
  replace hr3 := Lib.hid (hr3.out.kept hA.out)
  replace hr4 := Lib.hid (hr4.out.kept hA.out)
  replace hry4 := Lib.hid (hry4.out.kept hA.out)
  have hqK : (v7.alloc (.cells #[.int .i64 WD4, .slice a4 xs4.length c4] 26)).heap.size + 1 ≤ ((v7.alloc (.cells #[.int .i64 WD4, .slice a4 xs4.length c4] 26)).alloc (.cells #[.slice b4 ys4.length d4] 32)).heap.size ∧ ((v7.alloc (.cells #[.int .i64 WD4, .slice a4 xs4.length c4] 26)).alloc (.cells #[.slice b4 ys4.length d4] 32)).heap.size ≤ (v7.alloc (.cells #[.int .i64 WD4, .slice a4 xs4.length c4] 26)).heap.size + 1 := by simp
  have hkK := hkn
  clear hkn hA
  generalize ((v7.alloc (.cells #[.int .i64 WD4, .slice a4 xs4.length c4] 26)).alloc (.cells #[.slice b4 ys4.length d4] 32)) = v8 at *
  have hltLv8 := hkL.out.lt
  have hltCv8 := hkC.out.lt
  have hltMv8 := hkM.out.lt
  have hltRv8 := hkR.out.lt
  have hltKv8 := hkK.out.lt
  refine (impl_RecordOf WD4 a4 c4 xs4 b4 d4 ys4 v8 hr4.out hry4.out hs4 hcap4 hyb4 hcy4 (pow_kept ht.out hB.out)).mono ?_
  rintro e v9 ⟨a5, c5, rfl, ho, hb⟩
  replace hB := Lib.hid (bthen hB.out hb)
  replace hkL := Lib.hid (hkL.out.kept hb)
  replace hkC := Lib.hid (hkC.out.kept hb)
  replace hkM := Lib.hid (hkM.out.kept hb)
  replace hkR := Lib.hid (hkR.out.kept hb)
  replace hkK := Lib.hid (hkK.out.kept hb)
  replace hrC := Lib.hid (hrC.out.kept hb)
  replace hr1 := Lib.hid (hr1.out.kept hb)
  replace hrv1 := Lib.hid (hrv1.out.kept hb)
  replace hr2 := Lib.hid (hr2.out.kept hb)
  replace hr3 := Lib.hid (hr3.out.kept hb)
  replace hr4 := Lib.hid (hr4.out.kept hb)
  replace hry4 := Lib.hid (hry4.out.kept hb)
  have hr5 := Lib.hid (show RS _ a5 (recR WD4 xs4 ys4) from OV.row (OV.of ho))
  clear ho
  have hltLv9 := hkL.out.lt
  have hltCv9 := hkC.out.lt
  have hltMv9 := hkM.out.lt
  have hltRv9 := hkR.out.lt
  have hltKv9 := hkK.out.lt
  clear hb
  obtain ⟨cR_0, cR_1, fR_0, fR_1⟩ := hkR.out.two
  obtain ⟨cK_0, fK_0⟩ := hkK.out.one
  go_wp2_with fail
  clear cR_0 cR_1 fR_0 fR_1 cK_0 fK_0
  refine (spec_RecordOf WD4 a4 c4 xs4 b4 d4 ys4 v9 hr4.out hry4.out hs4 hcap4 hyb4 hcy4).mono ?_
  rintro e v10 ⟨a6, c6, rfl, ho, hb⟩
  replace hB := Lib.hid (bthen hB.out hb)
  replace hkL := Lib.hid (hkL.out.kept hb)
  replace hkC := Lib.hid (hkC.out.kept hb)
  replace hkM := Lib.hid (hkM.out.kept hb)
  replace hkR := Lib.hid (hkR.out.kept hb)
  replace hkK := Lib.hid (hkK.out.kept hb)
  replace hrC := Lib.hid (hrC.out.kept hb)
  replace hr1 := Lib.hid (hr1.out.kept hb)
  replace hrv1 := Lib.hid (hrv1.out.kept hb)
  replace hr2 := Lib.hid (hr2.out.kept hb)
  replace hr3 := Lib.hid (hr3.out.kept hb)
  replace hr4 := Lib.hid (hr4.out.kept hb)
  replace hry4 := Lib.hid (hry4.out.kept hb)
  replace hr5 := Lib.hid (hr5.out.kept hb)
  have hr6 := Lib.hid (show RS _ a6 (recR WD4 xs4 ys4) from OV.row (OV.of ho))
  clear ho
  have hltLv10 := hkL.out.lt
  have hltCv10 := hkC.out.lt
  have hltMv10 := hkM.out.lt
  have hltRv10 := hkR.out.lt
  have hltKv10 := hkK.out.lt
  clear hb
  have hl4 := recR_len WD4 xs4 ys4 hs4
  clear hkR
  clear hkK
  clear hr4
  clear hry4
  generalize recCode WD4 xs4 ys4 = RC4 at *
  generalize recR WD4 xs4 ys4 = RR4 at *
  -- MARK 3
  go_wp2_with fail
  refine (spec_DrawLayoutText a0 c0 x0 v10 hrC.out hl0).mono ?_
  rintro e v11 ⟨WD7, a7, c7, xs7, rfl, hP7, hr7, hcap7, hb⟩
  replace hB := Lib.hid (bthen hB.out hb)
  replace hkL := Lib.hid (hkL.out.kept hb)
  replace hkC := Lib.hid (hkC.out.kept hb)
  replace hkM := Lib.hid (hkM.out.kept hb)
  replace hrC := Lib.hid (hrC.out.kept hb)
  replace hr1 := Lib.hid (hr1.out.kept hb)
  replace hrv1 := Lib.hid (hrv1.out.kept hb)
  replace hr2 := Lib.hid (hr2.out.kept hb)
  replace hr3 := Lib.hid (hr3.out.kept hb)
  replace hr5 := Lib.hid (hr5.out.kept hb)
  replace hr6 := Lib.hid (hr6.out.kept hb)
  have hs7 := hP7.sz
  clear hP7
  replace hr7 := Lib.hid hr7
  have hltLv11 := hkL.out.lt
  have hltCv11 := hkC.out.lt
  have hltMv11 := hkM.out.lt
  clear hb
  go_wp2_with fail
  have hA := Lib.hid (below_alloc (w := v11) (.cells #[.int .i64 WD7, .slice a7 xs7.length c7] 26))
  have hkn := Lib.hid (show Bk (v11.alloc (.cells #[.int .i64 WD7, .slice a7 xs7.length c7] 26)) (v11.heap.size) 26 #[.int .i64 WD7, .slice a7 xs7.length c7] from (by first | exact Bk.new _ _ _ | simpa using Bk.new v11 #[.int .i64 WD7, .slice a7 xs7.length c7] 26))
  replace hB := Lib.hid (bthen hB.out hA.out)
  replace hkL := Lib.hid (hkL.out.kept hA.out)
  replace hkC := Lib.hid (hkC.out.kept hA.out)
  replace hkM := Lib.hid (hkM.out.kept hA.out)
  replace hrC := Lib.hid (hrC.out.kept hA.out)
  replace hr1 := Lib.hid (hr1.out.kept hA.out)
  replace hrv1 := Lib.hid (hrv1.out.kept hA.out)
  replace hr2 := Lib.hid (hr2.out.kept hA.out)
  replace hr3 := Lib.hid (hr3.out.kept hA.out)
  replace hr5 := Lib.hid (hr5.out.kept hA.out)
  replace hr6 := Lib.hid (hr6.out.kept hA.out)
  replace hr7 := Lib.hid (hr7.out.kept hA.out)
  have hqT : v11.heap.size + 1 ≤ (v11.alloc (.cells #[.int .i64 WD7, .slice a7 xs7.length c7] 26)).heap.size ∧ (v11.alloc (.cells #[.int .i64 WD7, .slice a7 xs7.length c7] 26)).heap.size ≤ v11.heap.size + 1 := by simp
  have hkT := hkn
  clear hkn hA
  generalize (v11.alloc (.cells #[.int .i64 WD7, .slice a7 xs7.length c7] 26)) = v12 at *
  have hltLv12 := hkL.out.lt
  have hltCv12 := hkC.out.lt
  have hltMv12 := hkM.out.lt
  have hltTv12 := hkT.out.lt
  refine (impl_LayoutText WD7 a7 c7 xs7 v12 hr7.out hs7 hcap7 (pow_kept ht.out hB.out) (Kinds.kept hK.out hB.out)).mono ?_
  rintro e v13 ⟨rfl, hb⟩
  replace hB := Lib.hid (bthen hB.out hb)
  replace hkL := Lib.hid (hkL.out.kept hb)
  replace hkC := Lib.hid (hkC.out.kept hb)
  replace hkM := Lib.hid (hkM.out.kept hb)
  replace hkT := Lib.hid (hkT.out.kept hb)
  replace hrC := Lib.hid (hrC.out.kept hb)
  replace hr1 := Lib.hid (hr1.out.kept hb)
  replace hrv1 := Lib.hid (hrv1.out.kept hb)
  replace hr2 := Lib.hid (hr2.out.kept hb)
  replace hr3 := Lib.hid (hr3.out.kept hb)
  replace hr5 := Lib.hid (hr5.out.kept hb)
  replace hr6 := Lib.hid (hr6.out.kept hb)
  replace hr7 := Lib.hid (hr7.out.kept hb)
  have hltLv13 := hkL.out.lt
  have hltCv13 := hkC.out.lt
  have hltMv13 := hkM.out.lt
  have hltTv13 := hkT.out.lt
  clear hb
  have hlt7 := Lib.hid (fun (V : World) (h : RT V a7 xs7) => spec_LayoutText WD7 a7 c7 xs7 V h hs7 hcap7)
  obtain ⟨W8, X8, o8, eW, eX, eO, hsz8, hcase8⟩ := text_back WD7 xs7
  have hrl7 := fun (V : World) (h1 : Pow10 V) (h2 : Errs V) (h3 : Kinds V) h4 => impl_ReadLayout (layoutText WD7 xs7) V hsz8 h1 h2 h3 h4
  have hs8 := layX_len (layoutText WD7 xs7) hsz8
  rw [eW, eX, eO] at hrl7
  rw [eX] at hs8
  clear eW eX eO
  generalize layoutText WD7 xs7 = t7 at *
  replace hrl7 := Lib.hid hrl7
  replace hcase8 := Lib.hid hcase8
  go_wp2_with fail
  refine (hrl7.out v13 (pow_kept ht.out hB.out) (Errs.kept hE.out hB.out) (Kinds.kept hK.out hB.out) (cell_kept hM.out hB.out)).mono ?_
  rintro e v14 ⟨a8, c8, rfl, ho, hb⟩
  replace hB := Lib.hid (bthen hB.out hb)
  replace hkL := Lib.hid (hkL.out.kept hb)
  replace hkC := Lib.hid (hkC.out.kept hb)
  replace hkM := Lib.hid (hkM.out.kept hb)
  replace hkT := Lib.hid (hkT.out.kept hb)
  replace hrC := Lib.hid (hrC.out.kept hb)
  replace hr1 := Lib.hid (hr1.out.kept hb)
  replace hrv1 := Lib.hid (hrv1.out.kept hb)
  replace hr2 := Lib.hid (hr2.out.kept hb)
  replace hr3 := Lib.hid (hr3.out.kept hb)
  replace hr5 := Lib.hid (hr5.out.kept hb)
  replace hr6 := Lib.hid (hr6.out.kept hb)
  replace hr7 := Lib.hid (hr7.out.kept hb)
  have hcap8 := (OT.capm (OT.of ho)).1
  have hr8 := Lib.hid (OT.RT (OT.of ho))
  clear ho
  have hltLv14 := hkL.out.lt
  have hltCv14 := hkC.out.lt
  have hltMv14 := hkM.out.lt
  have hltTv14 := hkT.out.lt
  clear hb
  clear hrl7
  go_wp2_with fail
  have hA := Lib.hid (below_alloc (w := v14) (.cells #[.int .i64 W8, .slice a8 X8.length c8] 26))
  have hkn := Lib.hid (show Bk (v14.alloc (.cells #[.int .i64 W8, .slice a8 X8.length c8] 26)) (v14.heap.size) 26 #[.int .i64 W8, .slice a8 X8.length c8] from (by first | exact Bk.new _ _ _ | simpa using Bk.new v14 #[.int .i64 W8, .slice a8 X8.length c8] 26))
  replace hB := Lib.hid (bthen hB.out hA.out)
  replace hkL := Lib.hid (hkL.out.kept hA.out)
  replace hkC := Lib.hid (hkC.out.kept hA.out)
  replace hkM := Lib.hid (hkM.out.kept hA.out)
  replace hkT := Lib.hid (hkT.out.kept hA.out)
  replace hrC := Lib.hid (hrC.out.kept hA.out)
  replace hr1 := Lib.hid (hr1.out.kept hA.out)
  replace hrv1 := Lib.hid (hrv1.out.kept hA.out)
  replace hr2 := Lib.hid (hr2.out.kept hA.out)
  replace hr3 := Lib.hid (hr3.out.kept hA.out)
  replace hr5 := Lib.hid (hr5.out.kept hA.out)
  replace hr6 := Lib.hid (hr6.out.kept hA.out)
  replace hr7 := Lib.hid (hr7.out.kept hA.out)
  replace hr8 := Lib.hid (hr8.out.kept hA.out)
  have hqU : v14.heap.size + 1 ≤ (v14.alloc (.cells #[.int .i64 W8, .slice a8 X8.length c8] 26)).heap.size ∧ (v14.alloc (.cells #[.int .i64 W8, .slice a8 X8.length c8] 26)).heap.size ≤ v14.heap.size + 1 := by simp
  have hkU := hkn
  clear hkn hA
  generalize (v14.alloc (.cells #[.int .i64 W8, .slice a8 X8.length c8] 26)) = v15 at *
  have hltLv15 := hkL.out.lt
  have hltCv15 := hkC.out.lt
  have hltMv15 := hkM.out.lt
  have hltTv15 := hkT.out.lt
  have hltUv15 := hkU.out.lt
  refine (spec_DrawReadLayout a0 c0 x0 v15 hrC.out hl0).mono ?_
  rintro e v16 ⟨s9, rfl, hs9, hb⟩
  replace hB := Lib.hid (bthen hB.out hb)
  replace hkL := Lib.hid (hkL.out.kept hb)
  replace hkC := Lib.hid (hkC.out.kept hb)
  replace hkM := Lib.hid (hkM.out.kept hb)
  replace hkT := Lib.hid (hkT.out.kept hb)
  replace hkU := Lib.hid (hkU.out.kept hb)
  replace hrC := Lib.hid (hrC.out.kept hb)
  replace hr1 := Lib.hid (hr1.out.kept hb)
  replace hrv1 := Lib.hid (hrv1.out.kept hb)
  replace hr2 := Lib.hid (hr2.out.kept hb)
  replace hr3 := Lib.hid (hr3.out.kept hb)
  replace hr5 := Lib.hid (hr5.out.kept hb)
  replace hr6 := Lib.hid (hr6.out.kept hb)
  replace hr7 := Lib.hid (hr7.out.kept hb)
  replace hr8 := Lib.hid (hr8.out.kept hb)
  have hltLv16 := hkL.out.lt
  have hltCv16 := hkC.out.lt
  have hltMv16 := hkM.out.lt
  have hltTv16 := hkT.out.lt
  have hltUv16 := hkU.out.lt
  clear hb
  have hz9 : s9.size ≤ 1048576 := by omega
  have hri := fun (V : World) (h1 : Pow10 V) (h2 : Errs V) (h3 : Kinds V) h4 => impl_ReadLayout s9 V hz9 h1 h2 h3 h4
  have hrs := fun (V : World) => spec_ReadLayout s9 V hz9
  have hs10 := layX_len s9 hz9
  generalize layW s9.data.toList = W10 at *
  generalize layX s9.data.toList = X10 at *
  generalize layOk s9.data.toList = o10 at *
  replace hri := Lib.hid hri
  replace hrs := Lib.hid hrs
  go_wp2_with fail
  refine (hri.out v16 (pow_kept ht.out hB.out) (Errs.kept hE.out hB.out) (Kinds.kept hK.out hB.out) (cell_kept hM.out hB.out)).mono ?_
  rintro e v17 ⟨a10, c10, rfl, ho, hb⟩
  replace hB := Lib.hid (bthen hB.out hb)
  replace hkL := Lib.hid (hkL.out.kept hb)
  replace hkC := Lib.hid (hkC.out.kept hb)
  replace hkM := Lib.hid (hkM.out.kept hb)
  replace hkT := Lib.hid (hkT.out.kept hb)
  replace hkU := Lib.hid (hkU.out.kept hb)
  replace hrC := Lib.hid (hrC.out.kept hb)
  replace hr1 := Lib.hid (hr1.out.kept hb)
  replace hrv1 := Lib.hid (hrv1.out.kept hb)
  replace hr2 := Lib.hid (hr2.out.kept hb)
  replace hr3 := Lib.hid (hr3.out.kept hb)
  replace hr5 := Lib.hid (hr5.out.kept hb)
  replace hr6 := Lib.hid (hr6.out.kept hb)
  replace hr7 := Lib.hid (hr7.out.kept hb)
  replace hr8 := Lib.hid (hr8.out.kept hb)
  have hcap10 := (OT.capm (OT.of ho)).1
  have hr10 := Lib.hid (OT.RT (OT.of ho))
  clear ho
  have hltLv17 := hkL.out.lt
  have hltCv17 := hkC.out.lt
  have hltMv17 := hkM.out.lt
  have hltTv17 := hkT.out.lt
  have hltUv17 := hkU.out.lt
  clear hb
  clear hri
  go_wp2_with fail
  have hA := Lib.hid (below_alloc (w := v17) (.cells #[.int .i64 W10, .slice a10 X10.length c10] 26))
  have hkn := Lib.hid (show Bk (v17.alloc (.cells #[.int .i64 W10, .slice a10 X10.length c10] 26)) (v17.heap.size) 26 #[.int .i64 W10, .slice a10 X10.length c10] from (by first | exact Bk.new _ _ _ | simpa using Bk.new v17 #[.int .i64 W10, .slice a10 X10.length c10] 26))
  replace hB := Lib.hid (bthen hB.out hA.out)
  replace hkL := Lib.hid (hkL.out.kept hA.out)
  replace hkC := Lib.hid (hkC.out.kept hA.out)
  replace hkM := Lib.hid (hkM.out.kept hA.out)
  replace hkT := Lib.hid (hkT.out.kept hA.out)
  replace hkU := Lib.hid (hkU.out.kept hA.out)
  replace hrC := Lib.hid (hrC.out.kept hA.out)
  replace hr1 := Lib.hid (hr1.out.kept hA.out)
  replace hrv1 := Lib.hid (hrv1.out.kept hA.out)
  replace hr2 := Lib.hid (hr2.out.kept hA.out)
  replace hr3 := Lib.hid (hr3.out.kept hA.out)
  replace hr5 := Lib.hid (hr5.out.kept hA.out)
  replace hr6 := Lib.hid (hr6.out.kept hA.out)
  replace hr7 := Lib.hid (hr7.out.kept hA.out)
  replace hr8 := Lib.hid (hr8.out.kept hA.out)
  replace hr10 := Lib.hid (hr10.out.kept hA.out)
  have hqV : v17.heap.size + 1 ≤ (v17.alloc (.cells #[.int .i64 W10, .slice a10 X10.length c10] 26)).heap.size ∧ (v17.alloc (.cells #[.int .i64 W10, .slice a10 X10.length c10] 26)).heap.size ≤ v17.heap.size + 1 := by simp
  have hkV := hkn
  clear hkn hA
  generalize (v17.alloc (.cells #[.int .i64 W10, .slice a10 X10.length c10] 26)) = v18 at *
  have hltLv18 := hkL.out.lt
  have hltCv18 := hkC.out.lt
  have hltMv18 := hkM.out.lt
  have hltTv18 := hkT.out.lt
  have hltUv18 := hkU.out.lt
  have hltVv18 := hkV.out.lt
  refine (hrs.out v18).mono ?_
  rintro e v19 ⟨a11, c11, rfl, ho, hb⟩
  replace hB := Lib.hid (bthen hB.out hb)
  replace hkL := Lib.hid (hkL.out.kept hb)
  replace hkC := Lib.hid (hkC.out.kept hb)
  replace hkM := Lib.hid (hkM.out.kept hb)
  replace hkT := Lib.hid (hkT.out.kept hb)
  replace hkU := Lib.hid (hkU.out.kept hb)
  replace hkV := Lib.hid (hkV.out.kept hb)
  replace hrC := Lib.hid (hrC.out.kept hb)
  replace hr1 := Lib.hid (hr1.out.kept hb)
  replace hrv1 := Lib.hid (hrv1.out.kept hb)
  replace hr2 := Lib.hid (hr2.out.kept hb)
  replace hr3 := Lib.hid (hr3.out.kept hb)
  replace hr5 := Lib.hid (hr5.out.kept hb)
  replace hr6 := Lib.hid (hr6.out.kept hb)
  replace hr7 := Lib.hid (hr7.out.kept hb)
  replace hr8 := Lib.hid (hr8.out.kept hb)
  replace hr10 := Lib.hid (hr10.out.kept hb)
  have hcap11 := (OT.capm (OT.of ho)).1
  have hr11 := Lib.hid (OT.RT (OT.of ho))
  clear ho
  have hltLv19 := hkL.out.lt
  have hltCv19 := hkC.out.lt
  have hltMv19 := hkM.out.lt
  have hltTv19 := hkT.out.lt
  have hltUv19 := hkU.out.lt
  have hltVv19 := hkV.out.lt
  clear hb
  clear hrs
  go_wp2_with fail
  have hA := Lib.hid (below_alloc (w := v19) (.cells #[.int .i64 W10, .slice a11 X10.length c11] 26))
  have hkn := Lib.hid (show Bk (v19.alloc (.cells #[.int .i64 W10, .slice a11 X10.length c11] 26)) (v19.heap.size) 26 #[.int .i64 W10, .slice a11 X10.length c11] from (by first | exact Bk.new _ _ _ | simpa using Bk.new v19 #[.int .i64 W10, .slice a11 X10.length c11] 26))
  replace hB := Lib.hid (bthen hB.out hA.out)
  replace hkL := Lib.hid (hkL.out.kept hA.out)
  replace hkC := Lib.hid (hkC.out.kept hA.out)
  replace hkM := Lib.hid (hkM.out.kept hA.out)
  replace hkT := Lib.hid (hkT.out.kept hA.out)
  replace hkU := Lib.hid (hkU.out.kept hA.out)
  replace hkV := Lib.hid (hkV.out.kept hA.out)
  replace hrC := Lib.hid (hrC.out.kept hA.out)
  replace hr1 := Lib.hid (hr1.out.kept hA.out)
  replace hrv1 := Lib.hid (hrv1.out.kept hA.out)
  replace hr2 := Lib.hid (hr2.out.kept hA.out)
  replace hr3 := Lib.hid (hr3.out.kept hA.out)
  replace hr5 := Lib.hid (hr5.out.kept hA.out)
  replace hr6 := Lib.hid (hr6.out.kept hA.out)
  replace hr7 := Lib.hid (hr7.out.kept hA.out)
  replace hr8 := Lib.hid (hr8.out.kept hA.out)
  replace hr10 := Lib.hid (hr10.out.kept hA.out)
  replace hr11 := Lib.hid (hr11.out.kept hA.out)
  have hqX : v19.heap.size + 1 ≤ (v19.alloc (.cells #[.int .i64 W10, .slice a11 X10.length c11] 26)).heap.size ∧ (v19.alloc (.cells #[.int .i64 W10, .slice a11 X10.length c11] 26)).heap.size ≤ v19.heap.size + 1 := by simp
  have hkX := hkn
  clear hkn hA
  generalize (v19.alloc (.cells #[.int .i64 W10, .slice a11 X10.length c11] 26)) = v20 at *
  have hltLv20 := hkL.out.lt
  have hltCv20 := hkC.out.lt
  have hltMv20 := hkM.out.lt
  have hltTv20 := hkT.out.lt
  have hltUv20 := hkU.out.lt
  have hltVv20 := hkV.out.lt
  have hltXv20 := hkX.out.lt
  -- MARK 4
  refine (spec_DrawChangeItem a0 c0 x0 v20 hrC.out hl0).mono ?_
  rintro e v21 ⟨WD12, a12, c12, xs12, b12, d12, ys12, nm, vl, rfl, hP12, hr12, hcap12, hry12, hcy12, hy21b, hnm24, hv24, hb⟩
  replace hB := Lib.hid (bthen hB.out hb)
  replace hkL := Lib.hid (hkL.out.kept hb)
  replace hkC := Lib.hid (hkC.out.kept hb)
  replace hkM := Lib.hid (hkM.out.kept hb)
  replace hkT := Lib.hid (hkT.out.kept hb)
  replace hkU := Lib.hid (hkU.out.kept hb)
  replace hkV := Lib.hid (hkV.out.kept hb)
  replace hkX := Lib.hid (hkX.out.kept hb)
  replace hrC := Lib.hid (hrC.out.kept hb)
  replace hr1 := Lib.hid (hr1.out.kept hb)
  replace hrv1 := Lib.hid (hrv1.out.kept hb)
  replace hr2 := Lib.hid (hr2.out.kept hb)
  replace hr3 := Lib.hid (hr3.out.kept hb)
  replace hr5 := Lib.hid (hr5.out.kept hb)
  replace hr6 := Lib.hid (hr6.out.kept hb)
  replace hr7 := Lib.hid (hr7.out.kept hb)
  replace hr8 := Lib.hid (hr8.out.kept hb)
  replace hr10 := Lib.hid (hr10.out.kept hb)
  replace hr11 := Lib.hid (hr11.out.kept hb)
  have hs12 := hP12.sz
  clear hP12
  replace hr12 := Lib.hid hr12
  replace hry12 := Lib.hid hry12
  have hyb12 : ys12.length ≤ 1048576 := by omega
  have hltLv21 := hkL.out.lt
  have hltCv21 := hkC.out.lt
  have hltMv21 := hkM.out.lt
  have hltTv21 := hkT.out.lt
  have hltUv21 := hkU.out.lt
  have hltVv21 := hkV.out.lt
  have hltXv21 := hkX.out.lt
  clear hb
  go_wp2_with fail
  have hA := Lib.hid (below_alloc (w := v21) (.cells #[.int .i64 WD12, .slice a12 xs12.length c12] 26))
  have hkn := Lib.hid (show Bk (v21.alloc (.cells #[.int .i64 WD12, .slice a12 xs12.length c12] 26)) (v21.heap.size) 26 #[.int .i64 WD12, .slice a12 xs12.length c12] from (by first | exact Bk.new _ _ _ | simpa using Bk.new v21 #[.int .i64 WD12, .slice a12 xs12.length c12] 26))
  replace hB := Lib.hid (bthen hB.out hA.out)
  replace hkL := Lib.hid (hkL.out.kept hA.out)
  replace hkC := Lib.hid (hkC.out.kept hA.out)
  replace hkM := Lib.hid (hkM.out.kept hA.out)
  replace hkT := Lib.hid (hkT.out.kept hA.out)
  replace hkU := Lib.hid (hkU.out.kept hA.out)
  replace hkV := Lib.hid (hkV.out.kept hA.out)
  replace hkX := Lib.hid (hkX.out.kept hA.out)
  replace hrC := Lib.hid (hrC.out.kept hA.out)
  replace hr1 := Lib.hid (hr1.out.kept hA.out)
  replace hrv1 := Lib.hid (hrv1.out.kept hA.out)
  replace hr2 := Lib.hid (hr2.out.kept hA.out)
  replace hr3 := Lib.hid (hr3.out.kept hA.out)
  replace hr5 := Lib.hid (hr5.out.kept hA.out)
  replace hr6 := Lib.hid (hr6.out.kept hA.out)
  replace hr7 := Lib.hid (hr7.out.kept hA.out)
  replace hr8 := Lib.hid (hr8.out.kept hA.out)
  replace hr10 := Lib.hid (hr10.out.kept hA.out)
  replace hr11 := Lib.hid (hr11.out.kept hA.out)
  replace hr12 := Lib.hid (hr12.out.kept hA.out)
  replace hry12 := Lib.hid (hry12.out.kept hA.out)
  have hqN : v21.heap.size + 1 ≤ (v21.alloc (.cells #[.int .i64 WD12, .slice a12 xs12.length c12] 26)).heap.size ∧ (v21.alloc (.cells #[.int .i64 WD12, .slice a12 xs12.length c12] 26)).heap.size ≤ v21.heap.size + 1 := by simp
  have hkN := hkn
  clear hkn hA
  have hA := Lib.hid (below_alloc (w := (v21.alloc (.cells #[.int .i64 WD12, .slice a12 xs12.length c12] 26))) (.cells #[.slice b12 ys12.length d12] 32))
  have hkn := Lib.hid (show Bk ((v21.alloc (.cells #[.int .i64 WD12, .slice a12 xs12.length c12] 26)).alloc (.cells #[.slice b12 ys12.length d12] 32)) (v21.heap.size + 1) 32 #[.slice b12 ys12.length d12] from (by first | exact Bk.new _ _ _ | simpa using Bk.new (v21.alloc (.cells #[.int .i64 WD12, .slice a12 xs12.length c12] 26)) #[.slice b12 ys12.length d12] 32))
  replace hB := Lib.hid (bthen hB.out hA.out)
  replace hkL := Lib.hid (hkL.out.kept hA.out)
  replace hkC := Lib.hid (hkC.out.kept hA.out)
  replace hkM := Lib.hid (hkM.out.kept hA.out)
  replace hkT := Lib.hid (hkT.out.kept hA.out)
  replace hkU := Lib.hid (hkU.out.kept hA.out)
  replace hkV := Lib.hid (hkV.out.kept hA.out)
  replace hkX := Lib.hid (hkX.out.kept hA.out)
  replace hkN := Lib.hid (hkN.out.kept hA.out)
  replace hrC := Lib.hid (hrC.out.kept hA.out)
  replace hr1 := Lib.hid (hr1.out.kept hA.out)
  replace hrv1 := Lib.hid (hrv1.out.kept hA.out)
  replace hr2 := Lib.hid (hr2.out.kept hA.out)
  replace hr3 := Lib.hid (hr3.out.kept hA.out)
  replace hr5 := Lib.hid (hr5.out.kept hA.out)
  replace hr6 := Lib.hid (hr6.out.kept hA.out)
  replace hr7 := Lib.hid (hr7.out.kept hA.out)
  replace hr8 := Lib.hid (hr8.out.kept hA.out)
  replace hr10 := Lib.hid (hr10.out.kept hA.out)
  replace hr11 := Lib.hid (hr11.out.kept hA.out)
  replace hr12 := Lib.hid (hr12.out.kept hA.out)
  replace hry12 := Lib.hid (hry12.out.kept hA.out)
  have hqD : (v21.alloc (.cells #[.int .i64 WD12, .slice a12 xs12.length c12] 26)).heap.size + 1 ≤ ((v21.alloc (.cells #[.int .i64 WD12, .slice a12 xs12.length c12] 26)).alloc (.cells #[.slice b12 ys12.length d12] 32)).heap.size ∧ ((v21.alloc (.cells #[.int .i64 WD12, .slice a12 xs12.length c12] 26)).alloc (.cells #[.slice b12 ys12.length d12] 32)).heap.size ≤ (v21.alloc (.cells #[.int .i64 WD12, .slice a12 xs12.length c12] 26)).heap.size + 1 := by simp
  have hkD := hkn
  clear hkn hA
  generalize ((v21.alloc (.cells #[.int .i64 WD12, .slice a12 xs12.length c12] 26)).alloc (.cells #[.slice b12 ys12.length d12] 32)) = v22 at *
  have hltLv22 := hkL.out.lt
  have hltCv22 := hkC.out.lt
  have hltMv22 := hkM.out.lt
  have hltTv22 := hkT.out.lt
  have hltUv22 := hkU.out.lt
  have hltVv22 := hkV.out.lt
  have hltXv22 := hkX.out.lt
  have hltNv22 := hkN.out.lt
  have hltDv22 := hkD.out.lt
  refine (impl_ChangeItem WD12 a12 c12 xs12 b12 d12 ys12 nm vl v22 hr12.out hry12.out hs12 hcap12 hyb12 hcy12 (by omega) (by omega) (pow_kept ht.out hB.out) (Errs.kept hE.out hB.out)).mono ?_
  rintro e v23 ⟨a13, c13, rfl, ho, hb⟩
  replace hB := Lib.hid (bthen hB.out hb)
  replace hkL := Lib.hid (hkL.out.kept hb)
  replace hkC := Lib.hid (hkC.out.kept hb)
  replace hkM := Lib.hid (hkM.out.kept hb)
  replace hkT := Lib.hid (hkT.out.kept hb)
  replace hkU := Lib.hid (hkU.out.kept hb)
  replace hkV := Lib.hid (hkV.out.kept hb)
  replace hkX := Lib.hid (hkX.out.kept hb)
  replace hkN := Lib.hid (hkN.out.kept hb)
  replace hkD := Lib.hid (hkD.out.kept hb)
  replace hrC := Lib.hid (hrC.out.kept hb)
  replace hr1 := Lib.hid (hr1.out.kept hb)
  replace hrv1 := Lib.hid (hrv1.out.kept hb)
  replace hr2 := Lib.hid (hr2.out.kept hb)
  replace hr3 := Lib.hid (hr3.out.kept hb)
  replace hr5 := Lib.hid (hr5.out.kept hb)
  replace hr6 := Lib.hid (hr6.out.kept hb)
  replace hr7 := Lib.hid (hr7.out.kept hb)
  replace hr8 := Lib.hid (hr8.out.kept hb)
  replace hr10 := Lib.hid (hr10.out.kept hb)
  replace hr11 := Lib.hid (hr11.out.kept hb)
  replace hr12 := Lib.hid (hr12.out.kept hb)
  replace hry12 := Lib.hid (hry12.out.kept hb)
  have hcap13 := (OV.of ho).capn.1
  have hr13 := Lib.hid (own_RI ho)
  clear ho
  have hltLv23 := hkL.out.lt
  have hltCv23 := hkC.out.lt
  have hltMv23 := hkM.out.lt
  have hltTv23 := hkT.out.lt
  have hltUv23 := hkU.out.lt
  have hltVv23 := hkV.out.lt
  have hltXv23 := hkX.out.lt
  have hltNv23 := hkN.out.lt
  have hltDv23 := hkD.out.lt
  clear hb
  have hch := Lib.hid (fun h => chg_law (wd := WD12) (xs := xs12) (ys := ys12) (nm := nm) (v := vl) h)
  have hchl := chgL_len WD12 xs12 ys12 nm vl hyb12
  obtain ⟨cN_0, cN_1, fN_0, fN_1⟩ := hkN.out.two
  obtain ⟨cD_0, fD_0⟩ := hkD.out.one
  go_wp2_with fail
  clear cN_0 cN_1 fN_0 fN_1 cD_0 fD_0
  have hA := Lib.hid (below_alloc (w := v23) (.cells #[.slice a13 (chgL WD12 xs12 ys12 nm vl).length c13] 32))
  have hkn := Lib.hid (show Bk (v23.alloc (.cells #[.slice a13 (chgL WD12 xs12 ys12 nm vl).length c13] 32)) (v23.heap.size) 32 #[.slice a13 (chgL WD12 xs12 ys12 nm vl).length c13] from (by first | exact Bk.new _ _ _ | simpa using Bk.new v23 #[.slice a13 (chgL WD12 xs12 ys12 nm vl).length c13] 32))
  replace hB := Lib.hid (bthen hB.out hA.out)
  replace hkL := Lib.hid (hkL.out.kept hA.out)
  replace hkC := Lib.hid (hkC.out.kept hA.out)
  replace hkM := Lib.hid (hkM.out.kept hA.out)
  replace hkT := Lib.hid (hkT.out.kept hA.out)
  replace hkU := Lib.hid (hkU.out.kept hA.out)
  replace hkV := Lib.hid (hkV.out.kept hA.out)
  replace hkX := Lib.hid (hkX.out.kept hA.out)
  replace hkN := Lib.hid (hkN.out.kept hA.out)
  replace hkD := Lib.hid (hkD.out.kept hA.out)
  replace hrC := Lib.hid (hrC.out.kept hA.out)
  replace hr1 := Lib.hid (hr1.out.kept hA.out)
  replace hrv1 := Lib.hid (hrv1.out.kept hA.out)
  replace hr2 := Lib.hid (hr2.out.kept hA.out)
  replace hr3 := Lib.hid (hr3.out.kept hA.out)
  replace hr5 := Lib.hid (hr5.out.kept hA.out)
  replace hr6 := Lib.hid (hr6.out.kept hA.out)
  replace hr7 := Lib.hid (hr7.out.kept hA.out)
  replace hr8 := Lib.hid (hr8.out.kept hA.out)
  replace hr10 := Lib.hid (hr10.out.kept hA.out)
  replace hr11 := Lib.hid (hr11.out.kept hA.out)
  replace hr12 := Lib.hid (hr12.out.kept hA.out)
  replace hry12 := Lib.hid (hry12.out.kept hA.out)
  replace hr13 := Lib.hid (hr13.out.kept hA.out)
  have hqE : v23.heap.size + 1 ≤ (v23.alloc (.cells #[.slice a13 (chgL WD12 xs12 ys12 nm vl).length c13] 32)).heap.size ∧ (v23.alloc (.cells #[.slice a13 (chgL WD12 xs12 ys12 nm vl).length c13] 32)).heap.size ≤ v23.heap.size + 1 := by simp
  have hkE := hkn
  clear hkn hA
  generalize (v23.alloc (.cells #[.slice a13 (chgL WD12 xs12 ys12 nm vl).length c13] 32)) = v24 at *
  have hltLv24 := hkL.out.lt
  have hltCv24 := hkC.out.lt
  have hltMv24 := hkM.out.lt
  have hltTv24 := hkT.out.lt
  have hltUv24 := hkU.out.lt
  have hltVv24 := hkV.out.lt
  have hltXv24 := hkX.out.lt
  have hltNv24 := hkN.out.lt
  have hltDv24 := hkD.out.lt
  have hltEv24 := hkE.out.lt
  refine (spec_ChangeItem WD12 a12 c12 xs12 b12 d12 ys12 nm vl v24 hr12.out hry12.out hs12 hcap12 hyb12 hcy12 (by omega) (by omega)).mono ?_
  rintro e v25 ⟨a14, c14, rfl, ho, hb⟩
  replace hB := Lib.hid (bthen hB.out hb)
  replace hkL := Lib.hid (hkL.out.kept hb)
  replace hkC := Lib.hid (hkC.out.kept hb)
  replace hkM := Lib.hid (hkM.out.kept hb)
  replace hkT := Lib.hid (hkT.out.kept hb)
  replace hkU := Lib.hid (hkU.out.kept hb)
  replace hkV := Lib.hid (hkV.out.kept hb)
  replace hkX := Lib.hid (hkX.out.kept hb)
  replace hkN := Lib.hid (hkN.out.kept hb)
  replace hkD := Lib.hid (hkD.out.kept hb)
  replace hkE := Lib.hid (hkE.out.kept hb)
  replace hrC := Lib.hid (hrC.out.kept hb)
  replace hr1 := Lib.hid (hr1.out.kept hb)
  replace hrv1 := Lib.hid (hrv1.out.kept hb)
  replace hr2 := Lib.hid (hr2.out.kept hb)
  replace hr3 := Lib.hid (hr3.out.kept hb)
  replace hr5 := Lib.hid (hr5.out.kept hb)
  replace hr6 := Lib.hid (hr6.out.kept hb)
  replace hr7 := Lib.hid (hr7.out.kept hb)
  replace hr8 := Lib.hid (hr8.out.kept hb)
  replace hr10 := Lib.hid (hr10.out.kept hb)
  replace hr11 := Lib.hid (hr11.out.kept hb)
  replace hr12 := Lib.hid (hr12.out.kept hb)
  replace hry12 := Lib.hid (hry12.out.kept hb)
  replace hr13 := Lib.hid (hr13.out.kept hb)
  have hcap14 := (OV.of ho).capn.1
  have hr14 := Lib.hid (own_RI ho)
  clear ho
  have hltLv25 := hkL.out.lt
  have hltCv25 := hkC.out.lt
  have hltMv25 := hkM.out.lt
  have hltTv25 := hkT.out.lt
  have hltUv25 := hkU.out.lt
  have hltVv25 := hkV.out.lt
  have hltXv25 := hkX.out.lt
  have hltNv25 := hkN.out.lt
  have hltDv25 := hkD.out.lt
  have hltEv25 := hkE.out.lt
  clear hb
  generalize chgCode WD12 xs12 ys12 nm vl = HC at *
  generalize chgL WD12 xs12 ys12 nm vl = HL at *
  go_wp2_with fail
  have hA := Lib.hid (below_alloc (w := v25) (.cells #[.slice a14 HL.length c14] 32))
  have hkn := Lib.hid (show Bk (v25.alloc (.cells #[.slice a14 HL.length c14] 32)) (v25.heap.size) 32 #[.slice a14 HL.length c14] from (by first | exact Bk.new _ _ _ | simpa using Bk.new v25 #[.slice a14 HL.length c14] 32))
  replace hB := Lib.hid (bthen hB.out hA.out)
  replace hkL := Lib.hid (hkL.out.kept hA.out)
  replace hkC := Lib.hid (hkC.out.kept hA.out)
  replace hkM := Lib.hid (hkM.out.kept hA.out)
  replace hkT := Lib.hid (hkT.out.kept hA.out)
  replace hkU := Lib.hid (hkU.out.kept hA.out)
  replace hkV := Lib.hid (hkV.out.kept hA.out)
  replace hkX := Lib.hid (hkX.out.kept hA.out)
  replace hkN := Lib.hid (hkN.out.kept hA.out)
  replace hkD := Lib.hid (hkD.out.kept hA.out)
  replace hkE := Lib.hid (hkE.out.kept hA.out)
  replace hrC := Lib.hid (hrC.out.kept hA.out)
  replace hr1 := Lib.hid (hr1.out.kept hA.out)
  replace hrv1 := Lib.hid (hrv1.out.kept hA.out)
  replace hr2 := Lib.hid (hr2.out.kept hA.out)
  replace hr3 := Lib.hid (hr3.out.kept hA.out)
  replace hr5 := Lib.hid (hr5.out.kept hA.out)
  replace hr6 := Lib.hid (hr6.out.kept hA.out)
  replace hr7 := Lib.hid (hr7.out.kept hA.out)
  replace hr8 := Lib.hid (hr8.out.kept hA.out)
  replace hr10 := Lib.hid (hr10.out.kept hA.out)
  replace hr11 := Lib.hid (hr11.out.kept hA.out)
  replace hr12 := Lib.hid (hr12.out.kept hA.out)
  replace hry12 := Lib.hid (hry12.out.kept hA.out)
  replace hr13 := Lib.hid (hr13.out.kept hA.out)
  replace hr14 := Lib.hid (hr14.out.kept hA.out)
  have hqF : v25.heap.size + 1 ≤ (v25.alloc (.cells #[.slice a14 HL.length c14] 32)).heap.size ∧ (v25.alloc (.cells #[.slice a14 HL.length c14] 32)).heap.size ≤ v25.heap.size + 1 := by simp
  have hkF := hkn
  clear hkn hA
  generalize (v25.alloc (.cells #[.slice a14 HL.length c14] 32)) = v26 at *
  have hltLv26 := hkL.out.lt
  have hltCv26 := hkC.out.lt
  have hltMv26 := hkM.out.lt
  have hltTv26 := hkT.out.lt
  have hltUv26 := hkU.out.lt
  have hltVv26 := hkV.out.lt
  have hltXv26 := hkX.out.lt
  have hltNv26 := hkN.out.lt
  have hltDv26 := hkD.out.lt
  have hltEv26 := hkE.out.lt
  have hltFv26 := hkF.out.lt
  -- MARK 5
  refine (spec_DrawSameLayout a0 c0 x0 v26 hrC.out hl0).mono ?_
  rintro e v27 ⟨WD15, a15, c15, xs15, WD16, a16, c16, xs16, rfl, hP15, hr15, hcap15, hP16, hr16, hcap16, hb⟩
  replace hB := Lib.hid (bthen hB.out hb)
  replace hkL := Lib.hid (hkL.out.kept hb)
  replace hkC := Lib.hid (hkC.out.kept hb)
  replace hkM := Lib.hid (hkM.out.kept hb)
  replace hkT := Lib.hid (hkT.out.kept hb)
  replace hkU := Lib.hid (hkU.out.kept hb)
  replace hkV := Lib.hid (hkV.out.kept hb)
  replace hkX := Lib.hid (hkX.out.kept hb)
  replace hkN := Lib.hid (hkN.out.kept hb)
  replace hkD := Lib.hid (hkD.out.kept hb)
  replace hkE := Lib.hid (hkE.out.kept hb)
  replace hkF := Lib.hid (hkF.out.kept hb)
  replace hrC := Lib.hid (hrC.out.kept hb)
  replace hr1 := Lib.hid (hr1.out.kept hb)
  replace hrv1 := Lib.hid (hrv1.out.kept hb)
  replace hr2 := Lib.hid (hr2.out.kept hb)
  replace hr3 := Lib.hid (hr3.out.kept hb)
  replace hr5 := Lib.hid (hr5.out.kept hb)
  replace hr6 := Lib.hid (hr6.out.kept hb)
  replace hr7 := Lib.hid (hr7.out.kept hb)
  replace hr8 := Lib.hid (hr8.out.kept hb)
  replace hr10 := Lib.hid (hr10.out.kept hb)
  replace hr11 := Lib.hid (hr11.out.kept hb)
  replace hr12 := Lib.hid (hr12.out.kept hb)
  replace hry12 := Lib.hid (hry12.out.kept hb)
  replace hr13 := Lib.hid (hr13.out.kept hb)
  replace hr14 := Lib.hid (hr14.out.kept hb)
  have hs15 := hP15.sz
  clear hP15
  replace hr15 := Lib.hid hr15
  have hs16 := hP16.sz
  clear hP16
  replace hr16 := Lib.hid hr16
  clear hrC
  have hltLv27 := hkL.out.lt
  have hltCv27 := hkC.out.lt
  have hltMv27 := hkM.out.lt
  have hltTv27 := hkT.out.lt
  have hltUv27 := hkU.out.lt
  have hltVv27 := hkV.out.lt
  have hltXv27 := hkX.out.lt
  have hltNv27 := hkN.out.lt
  have hltDv27 := hkD.out.lt
  have hltEv27 := hkE.out.lt
  have hltFv27 := hkF.out.lt
  clear hb
  have hcf := Lib.hid (fun h => cf_law (wd := WD1) (xs := xs1) (vs := vs1) h)
  have hcl : (cfL WD1 xs1 vs1).length ≤ 20 := cfL_20 WD1 xs1 vs1
  generalize cfCode WD1 xs1 vs1 = CC at *
  generalize cfL WD1 xs1 vs1 = CL at *
  have hlm4 : RR4.length ≤ maxLen := by unfold maxLen; omega
  have hcm : CL.length ≤ maxLen := by unfold maxLen; omega
  have hhm : HL.length ≤ maxLen := by unfold maxLen; omega
  have hsame1 := Lib.hid (fun (V : World) (h2 : RI V a2 CL) (h3 : RI V a3 CL) => (show Calls Tryz.prog 20 #[.agg #[.slice a2 CL.length c2], .agg #[.slice a3 CL.length c3]] V fun e w' => e = .returned (.bool true) ∧ Below V.heap.size V w' by
    have h := spec_SameCard a2 c2 CL a3 c3 CL V h2 h3 hcm hcm
    rw [eqB_refl] at h; exact h))
  have hsame2 := Lib.hid (fun (V : World) (h2 : RI V a13 HL) (h3 : RI V a14 HL) => (show Calls Tryz.prog 20 #[.agg #[.slice a13 HL.length c13], .agg #[.slice a14 HL.length c14]] V fun e w' => e = .returned (.bool true) ∧ Below V.heap.size V w' by
    have h := spec_SameCard a13 c13 HL a14 c14 HL V h2 h3 hhm hhm
    rw [eqB_refl] at h; exact h))
  have hsame3 := Lib.hid (fun (V : World) (h2 : RS V a5 RR4) (h3 : RS V a6 RR4) => (show Calls Tryz.prog 21 #[.slice a5 RR4.length c5, .slice a6 RR4.length c6] V fun e w' => e = .returned (.bool true) ∧ Below V.heap.size V w' by
    have h := laws_f6texts a5 a6 c5 c6 RR4 RR4 V h2 h3 hlm4 hlm4
    rw [eqB_refl] at h; exact h))
  have hsame4 := Lib.hid (fun (V : World) (h2 : RT V a10 X10) (h3 : RT V a11 X10) => (show Calls Tryz.prog 23 #[.agg #[.int .i64 W10, .slice a10 X10.length c10], .agg #[.int .i64 W10, .slice a11 X10.length c11]] V fun e w' => e = .returned (.bool true) ∧ Below V.heap.size V w' by
    have h := spec_SameLayout W10 a10 c10 X10 W10 a11 c11 X10 V h2 h3 hs10 hs10
    rw [sameLay_2 _ _ (by simp), eqB_refl] at h; exact h))
  have hsame5 := Lib.hid (fun (V : World) (h2 : RT V a15 xs15) (h3 : RT V a16 xs16) => impl_SameLayout WD15 a15 c15 xs15 WD16 a16 c16 xs16 V h2 h3 hs15 hs16)
  have hsame6 := Lib.hid (fun (V : World) (h2 : RT V a15 xs15) (h3 : RT V a16 xs16) => spec_SameLayout WD15 a15 c15 xs15 WD16 a16 c16 xs16 V h2 h3 hs15 hs16)
  have hval1 := Lib.hid (fun (V : World) (h : RT V a1 xs1) => impl_ValidLayout WD1 a1 c1 xs1 V h hs1 hcap1)
  have hval2 := Lib.hid (fun (V : World) (h : RT V a1 xs1) => spec_ValidLayout WD1 a1 c1 xs1 V h hs1 hcap1)
  generalize sameLayB WD15 WD16 xs15 xs16 = SB at *
  generalize validLayB WD1 xs1 = VB at *
  go_wp2_with fail
  have hA := Lib.hid (below_alloc (w := v27) (.cells #[.int .i64 WD15, .slice a15 xs15.length c15] 26))
  have hkn := Lib.hid (show Bk (v27.alloc (.cells #[.int .i64 WD15, .slice a15 xs15.length c15] 26)) (v27.heap.size) 26 #[.int .i64 WD15, .slice a15 xs15.length c15] from (by first | exact Bk.new _ _ _ | simpa using Bk.new v27 #[.int .i64 WD15, .slice a15 xs15.length c15] 26))
  replace hB := Lib.hid (bthen hB.out hA.out)
  replace hkL := Lib.hid (hkL.out.kept hA.out)
  replace hkC := Lib.hid (hkC.out.kept hA.out)
  replace hkM := Lib.hid (hkM.out.kept hA.out)
  replace hkT := Lib.hid (hkT.out.kept hA.out)
  replace hkU := Lib.hid (hkU.out.kept hA.out)
  replace hkV := Lib.hid (hkV.out.kept hA.out)
  replace hkX := Lib.hid (hkX.out.kept hA.out)
  replace hkN := Lib.hid (hkN.out.kept hA.out)
  replace hkD := Lib.hid (hkD.out.kept hA.out)
  replace hkE := Lib.hid (hkE.out.kept hA.out)
  replace hkF := Lib.hid (hkF.out.kept hA.out)
  replace hr1 := Lib.hid (hr1.out.kept hA.out)
  replace hrv1 := Lib.hid (hrv1.out.kept hA.out)
  replace hr2 := Lib.hid (hr2.out.kept hA.out)
  replace hr3 := Lib.hid (hr3.out.kept hA.out)
  replace hr5 := Lib.hid (hr5.out.kept hA.out)
  replace hr6 := Lib.hid (hr6.out.kept hA.out)
  replace hr7 := Lib.hid (hr7.out.kept hA.out)
  replace hr8 := Lib.hid (hr8.out.kept hA.out)
  replace hr10 := Lib.hid (hr10.out.kept hA.out)
  replace hr11 := Lib.hid (hr11.out.kept hA.out)
  replace hr12 := Lib.hid (hr12.out.kept hA.out)
  replace hry12 := Lib.hid (hry12.out.kept hA.out)
  replace hr13 := Lib.hid (hr13.out.kept hA.out)
  replace hr14 := Lib.hid (hr14.out.kept hA.out)
  replace hr15 := Lib.hid (hr15.out.kept hA.out)
  replace hr16 := Lib.hid (hr16.out.kept hA.out)
  have hqG : v27.heap.size + 1 ≤ (v27.alloc (.cells #[.int .i64 WD15, .slice a15 xs15.length c15] 26)).heap.size ∧ (v27.alloc (.cells #[.int .i64 WD15, .slice a15 xs15.length c15] 26)).heap.size ≤ v27.heap.size + 1 := by simp
  have hkG := hkn
  clear hkn hA
  have hA := Lib.hid (below_alloc (w := (v27.alloc (.cells #[.int .i64 WD15, .slice a15 xs15.length c15] 26))) (.cells #[.int .i64 WD16, .slice a16 xs16.length c16] 26))
  have hkn := Lib.hid (show Bk ((v27.alloc (.cells #[.int .i64 WD15, .slice a15 xs15.length c15] 26)).alloc (.cells #[.int .i64 WD16, .slice a16 xs16.length c16] 26)) (v27.heap.size + 1) 26 #[.int .i64 WD16, .slice a16 xs16.length c16] from (by first | exact Bk.new _ _ _ | simpa using Bk.new (v27.alloc (.cells #[.int .i64 WD15, .slice a15 xs15.length c15] 26)) #[.int .i64 WD16, .slice a16 xs16.length c16] 26))
  replace hB := Lib.hid (bthen hB.out hA.out)
  replace hkL := Lib.hid (hkL.out.kept hA.out)
  replace hkC := Lib.hid (hkC.out.kept hA.out)
  replace hkM := Lib.hid (hkM.out.kept hA.out)
  replace hkT := Lib.hid (hkT.out.kept hA.out)
  replace hkU := Lib.hid (hkU.out.kept hA.out)
  replace hkV := Lib.hid (hkV.out.kept hA.out)
  replace hkX := Lib.hid (hkX.out.kept hA.out)
  replace hkN := Lib.hid (hkN.out.kept hA.out)
  replace hkD := Lib.hid (hkD.out.kept hA.out)
  replace hkE := Lib.hid (hkE.out.kept hA.out)
  replace hkF := Lib.hid (hkF.out.kept hA.out)
  replace hkG := Lib.hid (hkG.out.kept hA.out)
  replace hr1 := Lib.hid (hr1.out.kept hA.out)
  replace hrv1 := Lib.hid (hrv1.out.kept hA.out)
  replace hr2 := Lib.hid (hr2.out.kept hA.out)
  replace hr3 := Lib.hid (hr3.out.kept hA.out)
  replace hr5 := Lib.hid (hr5.out.kept hA.out)
  replace hr6 := Lib.hid (hr6.out.kept hA.out)
  replace hr7 := Lib.hid (hr7.out.kept hA.out)
  replace hr8 := Lib.hid (hr8.out.kept hA.out)
  replace hr10 := Lib.hid (hr10.out.kept hA.out)
  replace hr11 := Lib.hid (hr11.out.kept hA.out)
  replace hr12 := Lib.hid (hr12.out.kept hA.out)
  replace hry12 := Lib.hid (hry12.out.kept hA.out)
  replace hr13 := Lib.hid (hr13.out.kept hA.out)
  replace hr14 := Lib.hid (hr14.out.kept hA.out)
  replace hr15 := Lib.hid (hr15.out.kept hA.out)
  replace hr16 := Lib.hid (hr16.out.kept hA.out)
  have hqH : (v27.alloc (.cells #[.int .i64 WD15, .slice a15 xs15.length c15] 26)).heap.size + 1 ≤ ((v27.alloc (.cells #[.int .i64 WD15, .slice a15 xs15.length c15] 26)).alloc (.cells #[.int .i64 WD16, .slice a16 xs16.length c16] 26)).heap.size ∧ ((v27.alloc (.cells #[.int .i64 WD15, .slice a15 xs15.length c15] 26)).alloc (.cells #[.int .i64 WD16, .slice a16 xs16.length c16] 26)).heap.size ≤ (v27.alloc (.cells #[.int .i64 WD15, .slice a15 xs15.length c15] 26)).heap.size + 1 := by simp
  have hkH := hkn
  clear hkn hA
  generalize ((v27.alloc (.cells #[.int .i64 WD15, .slice a15 xs15.length c15] 26)).alloc (.cells #[.int .i64 WD16, .slice a16 xs16.length c16] 26)) = v28 at *
  have hltLv28 := hkL.out.lt
  have hltCv28 := hkC.out.lt
  have hltMv28 := hkM.out.lt
  have hltTv28 := hkT.out.lt
  have hltUv28 := hkU.out.lt
  have hltVv28 := hkV.out.lt
  have hltXv28 := hkX.out.lt
  have hltNv28 := hkN.out.lt
  have hltDv28 := hkD.out.lt
  have hltEv28 := hkE.out.lt
  have hltFv28 := hkF.out.lt
  have hltGv28 := hkG.out.lt
  have hltHv28 := hkH.out.lt
  -- MARK 6
  go_upto_region 19 with (fail)
  -- MARK 7
  go_cut [206] from 128 (fun s206 wx => s206 = .bool false ∧ Below v28.heap.size v28 wx)
  case first =>
    have hB0 := Lib.hid (Below.refl v28.heap.size v28)
    simp only [List.append_eq, List.cons_append, List.nil_append]
    -- MARK 8
    obtain ⟨cC_0, fC_0⟩ := hkC.out.one
    obtain ⟨cM_0, fM_0⟩ := hkM.out.one
    obtain ⟨cT_0, cT_1, fT_0, fT_1⟩ := hkT.out.two
    obtain ⟨cU_0, cU_1, fU_0, fU_1⟩ := hkU.out.two
    obtain ⟨cV_0, cV_1, fV_0, fV_1⟩ := hkV.out.two
    obtain ⟨cX_0, cX_1, fX_0, fX_1⟩ := hkX.out.two
    obtain ⟨cE_0, fE_0⟩ := hkE.out.one
    obtain ⟨cF_0, fF_0⟩ := hkF.out.one
    obtain ⟨cG_0, cG_1, fG_0, fG_1⟩ := hkG.out.two
    obtain ⟨cH_0, cH_1, fH_0, fH_1⟩ := hkH.out.two
    obtain ⟨cL_0, cL_1, fL_0, fL_1⟩ := hkL.out.two
    have hS := Lib.hid (fun (V_ : World) (hV_ : Below v28.heap.size v28 V_) => And.intro hV_ (And.intro (keep hV_ cC_0) (And.intro (keep hV_ cM_0) (And.intro (keep hV_ cT_0) (And.intro (keep hV_ cT_1) (And.intro (keep hV_ cU_0) (And.intro (keep hV_ cU_1) (And.intro (keep hV_ cV_0) (And.intro (keep hV_ cV_1) (And.intro (keep hV_ cX_0) (And.intro (keep hV_ cX_1) (And.intro (keep hV_ cE_0) (And.intro (keep hV_ cF_0) (And.intro (keep hV_ cG_0) (And.intro (keep hV_ cG_1) (And.intro (keep hV_ cH_0) (And.intro (keep hV_ cH_1) (And.intro (keep hV_ cL_0) (keep hV_ cL_1)))))))))))))))))))
    have hSt := Lib.hid (fun (V_ V1_ : World) (hV : Below v28.heap.size v28 V_) (hV1 : Below V_.heap.size V_ V1_) => (bthen hV hV1 : Below v28.heap.size v28 V1_))
    clear cC_0 fC_0 cM_0 fM_0 cT_0 cT_1 fT_0 fT_1 cU_0 cU_1 fU_0 fU_1 cV_0 cV_1 fV_0 fV_1 cX_0 cX_1 fX_0 fX_1 cE_0 fE_0 cF_0 fF_0 cG_0 cG_1 fG_0 fG_1 cH_0 cH_1 fH_0 fH_1 cL_0 cL_1 fL_0 fL_1
    try clear hxl
    try clear hd
    try clear hc
    try clear hl0
    try clear hrC
    try clear hB
    try clear hww
    try clear hP1
    try clear htz1
    try clear hb
    try clear hs1
    try clear hA
    try clear hkn
    try clear hqL
    try clear hkL
    try clear hltLv2
    try clear ho
    try clear hcap2
    try clear hltLv3
    try clear hqC
    try clear hkC
    try clear hltLv4
    try clear hltCv4
    try clear hcap3
    try clear hltLv5
    try clear hltCv5
    try clear hqM
    try clear hkM
    try clear hltLv6
    try clear hltCv6
    try clear hltMv6
    try clear hP4
    try clear hcap4
    try clear hcy4
    try clear hy21
    try clear hs4
    try clear hyb4
    try clear hltLv7
    try clear hltCv7
    try clear hltMv7
    try clear hqR
    try clear hkR
    try clear hqK
    try clear hkK
    try clear hltLv8
    try clear hltCv8
    try clear hltMv8
    try clear hltRv8
    try clear hltKv8
    try clear hltLv9
    try clear hltCv9
    try clear hltMv9
    try clear hltRv9
    try clear hltKv9
    try clear hltLv10
    try clear hltCv10
    try clear hltMv10
    try clear hltRv10
    try clear hltKv10
    try clear hl4
    try clear hP7
    try clear hcap7
    try clear hltLv11
    try clear hltCv11
    try clear hltMv11
    try clear hqT
    try clear hkT
    try clear hltLv12
    try clear hltCv12
    try clear hltMv12
    try clear hltTv12
    try clear hltLv13
    try clear hltCv13
    try clear hltMv13
    try clear hltTv13
    try clear hsz8
    try clear hrl7
    try clear hcap8
    try clear hltLv14
    try clear hltCv14
    try clear hltMv14
    try clear hltTv14
    try clear hqU
    try clear hkU
    try clear hltLv15
    try clear hltCv15
    try clear hltMv15
    try clear hltTv15
    try clear hltUv15
    try clear hs9
    try clear hltLv16
    try clear hltCv16
    try clear hltMv16
    try clear hltTv16
    try clear hltUv16
    try clear hz9
    try clear hri
    try clear hrs
    try clear hs10
    try clear hcap10
    try clear hltLv17
    try clear hltCv17
    try clear hltMv17
    try clear hltTv17
    try clear hltUv17
    try clear hqV
    try clear hkV
    try clear hltLv18
    try clear hltCv18
    try clear hltMv18
    try clear hltTv18
    try clear hltUv18
    try clear hltVv18
    try clear hcap11
    try clear hltLv19
    try clear hltCv19
    try clear hltMv19
    try clear hltTv19
    try clear hltUv19
    try clear hltVv19
    try clear hqX
    try clear hkX
    try clear hltLv20
    try clear hltCv20
    try clear hltMv20
    try clear hltTv20
    try clear hltUv20
    try clear hltVv20
    try clear hltXv20
    try clear hP12
    try clear hcap12
    try clear hcy12
    try clear hy21b
    try clear hnm24
    try clear hv24
    try clear hs12
    try clear hyb12
    try clear hltLv21
    try clear hltCv21
    try clear hltMv21
    try clear hltTv21
    try clear hltUv21
    try clear hltVv21
    try clear hltXv21
    try clear hqN
    try clear hkN
    try clear hqD
    try clear hkD
    try clear hltLv22
    try clear hltCv22
    try clear hltMv22
    try clear hltTv22
    try clear hltUv22
    try clear hltVv22
    try clear hltXv22
    try clear hltNv22
    try clear hltDv22
    try clear hcap13
    try clear hltLv23
    try clear hltCv23
    try clear hltMv23
    try clear hltTv23
    try clear hltUv23
    try clear hltVv23
    try clear hltXv23
    try clear hltNv23
    try clear hltDv23
    try clear hch
    try clear hchl
    try clear hqE
    try clear hkE
    try clear hltLv24
    try clear hltCv24
    try clear hltMv24
    try clear hltTv24
    try clear hltUv24
    try clear hltVv24
    try clear hltXv24
    try clear hltNv24
    try clear hltDv24
    try clear hltEv24
    try clear hcap14
    try clear hltLv25
    try clear hltCv25
    try clear hltMv25
    try clear hltTv25
    try clear hltUv25
    try clear hltVv25
    try clear hltXv25
    try clear hltNv25
    try clear hltDv25
    try clear hltEv25
    try clear hqF
    try clear hkF
    try clear hltLv26
    try clear hltCv26
    try clear hltMv26
    try clear hltTv26
    try clear hltUv26
    try clear hltVv26
    try clear hltXv26
    try clear hltNv26
    try clear hltDv26
    try clear hltEv26
    try clear hltFv26
    try clear hP15
    try clear hcap15
    try clear hP16
    try clear hcap16
    try clear hs15
    try clear hs16
    try clear hltLv27
    try clear hltCv27
    try clear hltMv27
    try clear hltTv27
    try clear hltUv27
    try clear hltVv27
    try clear hltXv27
    try clear hltNv27
    try clear hltDv27
    try clear hltEv27
    try clear hltFv27
    try clear hcf
    try clear hcl
    try clear hlm4
    try clear hcm
    try clear hhm
    try clear hqG
    try clear hkG
    try clear hqH
    try clear hkH
    try clear hltLv28
    try clear hltCv28
    try clear hltMv28
    try clear hltTv28
    try clear hltUv28
    try clear hltVv28
    try clear hltXv28
    try clear hltNv28
    try clear hltDv28
    try clear hltEv28
    try clear hltFv28
    try clear hltGv28
    try clear hltHv28
    try clear hkL
    try clear hkC
    try clear hkM
    try clear hkT
    try clear hkU
    try clear hkV
    try clear hkX
    try clear hkN
    try clear hkD
    try clear hkE
    try clear hkF
    try clear hkG
    try clear hkH
    as_aux_lemma =>
      have ho10 : (o10 != o10) = false := by simp
      have hsb0 : (SB != SB) = false := by simp
      have hvb0 : (VB != VB) = false := by simp
      refine wp_region_seq (S := (fun V_ => Below v28.heap.size v28 V_ ∧ V_.cell? ⟨v3.heap.size, 0, none⟩ = some (.slice a2 CL.length c2) ∧ V_.cell? ⟨v5.heap.size, 0, none⟩ = some (.slice a3 CL.length c3) ∧ V_.cell? ⟨v11.heap.size, 0, none⟩ = some (.int .i64 WD7) ∧ V_.cell? ⟨v11.heap.size, 1, none⟩ = some (.slice a7 xs7.length c7) ∧ V_.cell? ⟨v14.heap.size, 0, none⟩ = some (.int .i64 W8) ∧ V_.cell? ⟨v14.heap.size, 1, none⟩ = some (.slice a8 X8.length c8) ∧ V_.cell? ⟨v17.heap.size, 0, none⟩ = some (.int .i64 W10) ∧ V_.cell? ⟨v17.heap.size, 1, none⟩ = some (.slice a10 X10.length c10) ∧ V_.cell? ⟨v19.heap.size, 0, none⟩ = some (.int .i64 W10) ∧ V_.cell? ⟨v19.heap.size, 1, none⟩ = some (.slice a11 X10.length c11) ∧ V_.cell? ⟨v23.heap.size, 0, none⟩ = some (.slice a13 HL.length c13) ∧ V_.cell? ⟨v25.heap.size, 0, none⟩ = some (.slice a14 HL.length c14) ∧ V_.cell? ⟨v27.heap.size, 0, none⟩ = some (.int .i64 WD15) ∧ V_.cell? ⟨v27.heap.size, 1, none⟩ = some (.slice a15 xs15.length c15) ∧ V_.cell? ⟨v27.heap.size + 1, 0, none⟩ = some (.int .i64 WD16) ∧ V_.cell? ⟨v27.heap.size + 1, 1, none⟩ = some (.slice a16 xs16.length c16) ∧ V_.cell? ⟨v1.heap.size, 0, none⟩ = some (.int .i64 WD1) ∧ V_.cell? ⟨v1.heap.size, 1, none⟩ = some (.slice a1 xs1.length c1))) ORD (ops' := OPS) (by kernel_rfl) (by kernel_rfl) ops_noSelect ops_size ops_order (hS.out _ (Below.refl _ _).drew) (fun hH => ?_)
      unfold ORD
      refine wpSeq_take (i := 0) (oi := _) (v := ?vv1) rfl (fun _ _ _ h => h) (Or.inl ⟨by kernel_rfl, ?hy1⟩) hH ?tl1
      case hy1 => intro w_ hSw; (try dsimp only at hSw); go_simp; (try with_reducible rfl)
      try simp only [List.getElem_toArray, List.getElem_cons_succ, List.getElem_cons_zero, Act.put, List.setIfInBounds_toArray, List.set_cons_zero, List.set_cons_succ]
      refine wpSeq_take (i := 1) (oi := _) (v := ?vv2) rfl (fun _ _ _ h => h) (Or.inl ⟨by kernel_rfl, ?hy2⟩) hH ?tl2
      case hy2 => intro w_ hSw; (try dsimp only at hSw); go_simp; (try with_reducible rfl)
      try simp only [List.getElem_toArray, List.getElem_cons_succ, List.getElem_cons_zero, Act.put, List.setIfInBounds_toArray, List.set_cons_zero, List.set_cons_succ]
      refine wpSeq_take (i := 2) (oi := _) (v := ?vv3) rfl (fun _ _ _ h => h) (Or.inl ⟨by kernel_rfl, ?hy3⟩) hH ?tl3
      case hy3 => intro w_ hSw; (try dsimp only at hSw); go_simp; (try with_reducible rfl)
      try simp only [List.getElem_toArray, List.getElem_cons_succ, List.getElem_cons_zero, Act.put, List.setIfInBounds_toArray, List.set_cons_zero, List.set_cons_succ]
      refine wpSeq_take (i := 3) (oi := _) (v := ?vv4) rfl (fun _ _ _ h => h) (Or.inl ⟨by kernel_rfl, ?hy4⟩) hH ?tl4
      case hy4 => intro w_ hSw; (try dsimp only at hSw); go_simp; (try with_reducible rfl)
      try simp only [List.getElem_toArray, List.getElem_cons_succ, List.getElem_cons_zero, Act.put, List.setIfInBounds_toArray, List.set_cons_zero, List.set_cons_succ]
      refine wpSeq_take (i := 4) (oi := _) (v := ?vv5) rfl (fun _ _ _ h => h) (Or.inl ⟨by kernel_rfl, ?hy5⟩) hH ?tl5
      case hy5 => intro w_ hSw; (try dsimp only at hSw); go_simp; (try with_reducible rfl)
      try simp only [List.getElem_toArray, List.getElem_cons_succ, List.getElem_cons_zero, Act.put, List.setIfInBounds_toArray, List.set_cons_zero, List.set_cons_succ]
      refine wpSeq_take (i := 5) (oi := _) (v := ?vv6) rfl (fun _ _ _ h => h) (Or.inl ⟨by kernel_rfl, ?hy6⟩) hH ?tl6
      case hy6 => intro w_ hSw; (try dsimp only at hSw); go_simp; (try with_reducible rfl)
      try simp only [List.getElem_toArray, List.getElem_cons_succ, List.getElem_cons_zero, Act.put, List.setIfInBounds_toArray, List.set_cons_zero, List.set_cons_succ]
      refine wpSeq_call (i := 6) (oi := _) rfl (fun K hK => ?_)
      go_simp
      with_reducible refine (hsame1.out _ (hr2.out.kept hH.1) (hr3.out.kept hH.1)).mono ?_
      rintro e wq0 ⟨rfl, hbq0⟩
      have hq0 := hSt.out _ _ hH.1 hbq0
      clear hH hbq0
      try go_wp2_with fail
      refine hK.out _ _ (hS.out _ hq0) (fun hH => ?_)
      clear hK K
      try simp only [List.getElem_toArray, List.getElem_cons_succ, List.getElem_cons_zero, Act.put, List.setIfInBounds_toArray, List.set_cons_zero, List.set_cons_succ]
      refine wpSeq_take (i := 7) (oi := _) (v := ?vv7) rfl (fun _ _ _ h => h) (Or.inl ⟨by kernel_rfl, ?hy7⟩) hH ?tl7
      case hy7 => intro w_ hSw; (try dsimp only at hSw); go_simp; (try with_reducible rfl)
      try simp only [List.getElem_toArray, List.getElem_cons_succ, List.getElem_cons_zero, Act.put, List.setIfInBounds_toArray, List.set_cons_zero, List.set_cons_succ]
      refine wpSeq_take (i := 8) (oi := _) (v := ?vv8) rfl (fun _ _ _ h => h) (Or.inl ⟨by kernel_rfl, ?hy8⟩) hH ?tl8
      case hy8 => intro w_ hSw; (try dsimp only at hSw); go_simp; (try with_reducible rfl)
      try simp only [List.getElem_toArray, List.getElem_cons_succ, List.getElem_cons_zero, Act.put, List.setIfInBounds_toArray, List.set_cons_zero, List.set_cons_succ]
      refine wpSeq_take (i := 9) (oi := _) (v := ?vv9) rfl (fun _ _ _ h => h) (Or.inl ⟨by kernel_rfl, ?hy9⟩) hH ?tl9
      case hy9 => intro w_ hSw; (try dsimp only at hSw); go_simp; (try with_reducible rfl)
      try simp only [List.getElem_toArray, List.getElem_cons_succ, List.getElem_cons_zero, Act.put, List.setIfInBounds_toArray, List.set_cons_zero, List.set_cons_succ]
      refine wpSeq_take (i := 10) (oi := _) (v := ?vv10) rfl (fun _ _ _ h => h) (Or.inl ⟨by kernel_rfl, ?hy10⟩) hH ?tl10
      case hy10 => intro w_ hSw; (try dsimp only at hSw); go_simp; (try with_reducible rfl)
      try simp only [List.getElem_toArray, List.getElem_cons_succ, List.getElem_cons_zero, Act.put, List.setIfInBounds_toArray, List.set_cons_zero, List.set_cons_succ]
      refine wpSeq_take (i := 11) (oi := _) (v := ?vv11) rfl (fun _ _ _ h => h) (Or.inl ⟨by kernel_rfl, ?hy11⟩) hH ?tl11
      case hy11 => intro w_ hSw; (try dsimp only at hSw); go_simp; (try with_reducible rfl)
      try simp only [List.getElem_toArray, List.getElem_cons_succ, List.getElem_cons_zero, Act.put, List.setIfInBounds_toArray, List.set_cons_zero, List.set_cons_succ]
      refine wpSeq_take (i := 12) (oi := _) (v := ?vv12) rfl (fun _ _ _ h => h) (Or.inl ⟨by kernel_rfl, ?hy12⟩) hH ?tl12
      case hy12 => intro w_ hSw; (try dsimp only at hSw); go_simp; (try with_reducible rfl)
      try simp only [List.getElem_toArray, List.getElem_cons_succ, List.getElem_cons_zero, Act.put, List.setIfInBounds_toArray, List.set_cons_zero, List.set_cons_succ]
      refine wpSeq_take (i := 13) (oi := _) (v := ?vv13) rfl (fun _ _ _ h => h) (Or.inl ⟨by kernel_rfl, ?hy13⟩) hH ?tl13
      case hy13 => intro w_ hSw; (try dsimp only at hSw); go_simp; (try with_reducible rfl)
      try simp only [List.getElem_toArray, List.getElem_cons_succ, List.getElem_cons_zero, Act.put, List.setIfInBounds_toArray, List.set_cons_zero, List.set_cons_succ]
      refine wpSeq_take (i := 14) (oi := _) (v := ?vv14) rfl (fun _ _ _ h => h) (Or.inl ⟨by kernel_rfl, ?hy14⟩) hH ?tl14
      case hy14 => intro w_ hSw; (try dsimp only at hSw); go_simp; (try with_reducible rfl)
      try simp only [List.getElem_toArray, List.getElem_cons_succ, List.getElem_cons_zero, Act.put, List.setIfInBounds_toArray, List.set_cons_zero, List.set_cons_succ]
      refine wpSeq_take (i := 15) (oi := _) (v := ?vv15) rfl (fun _ _ _ h => h) (Or.inl ⟨by kernel_rfl, ?hy15⟩) hH ?tl15
      case hy15 => intro w_ hSw; (try dsimp only at hSw); go_simp; (try with_reducible rfl)
      try simp only [List.getElem_toArray, List.getElem_cons_succ, List.getElem_cons_zero, Act.put, List.setIfInBounds_toArray, List.set_cons_zero, List.set_cons_succ]
      refine wpSeq_take (i := 16) (oi := _) (v := ?vv16) rfl (fun _ _ _ h => h) (Or.inl ⟨by kernel_rfl, ?hy16⟩) hH ?tl16
      case hy16 => intro w_ hSw; (try dsimp only at hSw); go_simp; (try with_reducible rfl)
      try simp only [List.getElem_toArray, List.getElem_cons_succ, List.getElem_cons_zero, Act.put, List.setIfInBounds_toArray, List.set_cons_zero, List.set_cons_succ]
      refine wpSeq_call (i := 17) (oi := _) rfl (fun K hK => ?_)
      go_simp
      with_reducible refine (hsame3.out _ (hr5.out.kept hH.1) (hr6.out.kept hH.1)).mono ?_
      rintro e wq1 ⟨rfl, hbq1⟩
      have hq1 := hSt.out _ _ hH.1 hbq1
      clear hH hbq1
      try go_wp2_with fail
      refine hK.out _ _ (hS.out _ hq1) (fun hH => ?_)
      clear hK K
      try simp only [List.getElem_toArray, List.getElem_cons_succ, List.getElem_cons_zero, Act.put, List.setIfInBounds_toArray, List.set_cons_zero, List.set_cons_succ]
      refine wpSeq_take (i := 18) (oi := _) (v := ?vv17) rfl (fun _ _ _ h => h) (Or.inl ⟨by kernel_rfl, ?hy17⟩) hH ?tl17
      case hy17 => intro w_ hSw; (try dsimp only at hSw); go_simp; (try with_reducible rfl)
      try simp only [List.getElem_toArray, List.getElem_cons_succ, List.getElem_cons_zero, Act.put, List.setIfInBounds_toArray, List.set_cons_zero, List.set_cons_succ]
      refine wpSeq_take (i := 19) (oi := _) (v := ?vv18) rfl (fun _ _ _ h => h) (Or.inl ⟨by kernel_rfl, ?hy18⟩) hH ?tl18
      case hy18 => intro w_ hSw; (try dsimp only at hSw); go_simp; (try with_reducible rfl)
      try simp only [List.getElem_toArray, List.getElem_cons_succ, List.getElem_cons_zero, Act.put, List.setIfInBounds_toArray, List.set_cons_zero, List.set_cons_succ]
      refine wpSeq_take (i := 20) (oi := _) (v := ?vv19) rfl (fun _ _ _ h => h) (Or.inl ⟨by kernel_rfl, ?hy19⟩) hH ?tl19
      case hy19 => intro w_ hSw; (try dsimp only at hSw); go_simp; (try with_reducible rfl)
      try simp only [List.getElem_toArray, List.getElem_cons_succ, List.getElem_cons_zero, Act.put, List.setIfInBounds_toArray, List.set_cons_zero, List.set_cons_succ]
      refine wpSeq_take (i := 21) (oi := _) (v := ?vv20) rfl (fun _ _ _ h => h) (Or.inl ⟨by kernel_rfl, ?hy20⟩) hH ?tl20
      case hy20 => intro w_ hSw; (try dsimp only at hSw); go_simp; (try with_reducible rfl)
      try simp only [List.getElem_toArray, List.getElem_cons_succ, List.getElem_cons_zero, Act.put, List.setIfInBounds_toArray, List.set_cons_zero, List.set_cons_succ]
      refine wpSeq_take (i := 22) (oi := _) (v := ?vv21) rfl (fun _ _ _ h => h) (Or.inl ⟨by kernel_rfl, ?hy21⟩) hH ?tl21
      case hy21 => intro w_ hSw; (try dsimp only at hSw); go_simp; (try with_reducible rfl)
      try simp only [List.getElem_toArray, List.getElem_cons_succ, List.getElem_cons_zero, Act.put, List.setIfInBounds_toArray, List.set_cons_zero, List.set_cons_succ]
      refine wpSeq_call (i := 23) (oi := _) rfl (fun K hK => ?_)
      go_simp
      with_reducible refine (hlt7.out _ (hr7.out.kept hH.1)).mono ?_
      rintro e wq2 ⟨rfl, hbq2⟩
      have hq2 := hSt.out _ _ hH.1 hbq2
      clear hH hbq2
      try go_wp2_with fail
      refine hK.out _ _ (hS.out _ hq2) (fun hH => ?_)
      clear hK K
      try simp only [List.getElem_toArray, List.getElem_cons_succ, List.getElem_cons_zero, Act.put, List.setIfInBounds_toArray, List.set_cons_zero, List.set_cons_succ]
      refine wpSeq_take (i := 24) (oi := _) (v := ?vv22) rfl (fun _ _ _ h => h) (Or.inl ⟨by kernel_rfl, ?hy22⟩) hH ?tl22
      case hy22 => intro w_ hSw; (try dsimp only at hSw); go_simp; (try with_reducible rfl)
      try simp only [List.getElem_toArray, List.getElem_cons_succ, List.getElem_cons_zero, Act.put, List.setIfInBounds_toArray, List.set_cons_zero, List.set_cons_succ]
      refine wpSeq_take (i := 25) (oi := _) (v := ?vv23) rfl (fun _ _ _ h => h) (Or.inl ⟨by kernel_rfl, ?hy23⟩) hH ?tl23
      case hy23 => intro w_ hSw; (try dsimp only at hSw); go_simp; (try with_reducible rfl)
      try simp only [List.getElem_toArray, List.getElem_cons_succ, List.getElem_cons_zero, Act.put, List.setIfInBounds_toArray, List.set_cons_zero, List.set_cons_succ]
      refine wpSeq_take (i := 26) (oi := _) (v := ?vv24) rfl (fun _ _ _ h => h) (Or.inl ⟨by kernel_rfl, ?hy24⟩) hH ?tl24
      case hy24 => intro w_ hSw; (try dsimp only at hSw); go_simp; (try with_reducible rfl)
      try simp only [List.getElem_toArray, List.getElem_cons_succ, List.getElem_cons_zero, Act.put, List.setIfInBounds_toArray, List.set_cons_zero, List.set_cons_succ]
      -- MARK 9
      rcases hcase8.out with ⟨rfl, hw8, hx8, hne⟩ | ⟨rfl, hne⟩
      · as_aux_lemma =>
          obtain ⟨z1, z2⟩ := full_text hne
          replace hne := Lib.hid hne
          have hsame7 := Lib.hid (fun (V : World) (h2 : RT V a8 X8) (h3 : RT V a7 xs7) => (show Calls Tryz.prog 23 #[.agg #[.int .i64 W8, .slice a8 X8.length c8], .agg #[.int .i64 WD7, .slice a7 xs7.length c7]] V fun e w' => e = .returned (.bool true) ∧ Below V.heap.size V w' by
            have h := spec_SameLayout W8 a8 c8 X8 WD7 a7 c7 xs7 V h2 h3 hs8 hs7
            rw [hw8, hx8, sameLay_2 _ _ (by simp), eqB_refl] at h; rw [hw8, hx8]; exact h))
          clear hw8 hx8
          refine wpSeq_take (i := 27) (oi := _) (v := ?vv25) rfl (fun _ _ _ h => h) (Or.inl ⟨by kernel_rfl, ?hy25⟩) hH ?tl25
          case hy25 => intro w_ hSw; (try dsimp only at hSw); go_simp; (try with_reducible rfl)
          try simp only [List.getElem_toArray, List.getElem_cons_succ, List.getElem_cons_zero, Act.put, List.setIfInBounds_toArray, List.set_cons_zero, List.set_cons_succ]
          refine wpSeq_take (i := 28) (oi := _) (v := ?vv26) rfl (fun _ _ _ h => h) (Or.inl ⟨by kernel_rfl, ?hy26⟩) hH ?tl26
          case hy26 => intro w_ hSw; (try dsimp only at hSw); go_simp; (try with_reducible rfl)
          try simp only [List.getElem_toArray, List.getElem_cons_succ, List.getElem_cons_zero, Act.put, List.setIfInBounds_toArray, List.set_cons_zero, List.set_cons_succ]
          refine wpSeq_take (i := 29) (oi := _) (v := ?vv27) rfl (fun _ _ _ h => h) (Or.inl ⟨by kernel_rfl, ?hy27⟩) hH ?tl27
          case hy27 => intro w_ hSw; (try dsimp only at hSw); go_simp; (try with_reducible rfl)
          try simp only [List.getElem_toArray, List.getElem_cons_succ, List.getElem_cons_zero, Act.put, List.setIfInBounds_toArray, List.set_cons_zero, List.set_cons_succ]
          refine wpSeq_take (i := 30) (oi := _) (v := ?vv28) rfl (fun _ _ _ h => h) (Or.inl ⟨by kernel_rfl, ?hy28⟩) hH ?tl28
          case hy28 => intro w_ hSw; (try dsimp only at hSw); go_simp; (try with_reducible rfl)
          try simp only [List.getElem_toArray, List.getElem_cons_succ, List.getElem_cons_zero, Act.put, List.setIfInBounds_toArray, List.set_cons_zero, List.set_cons_succ]
          refine wpSeq_take (i := 31) (oi := _) (v := ?vv29) rfl (fun _ _ _ h => h) (Or.inl ⟨by kernel_rfl, ?hy29⟩) hH ?tl29
          case hy29 => intro w_ hSw; (try dsimp only at hSw); go_simp; (try with_reducible rfl)
          try simp only [List.getElem_toArray, List.getElem_cons_succ, List.getElem_cons_zero, Act.put, List.setIfInBounds_toArray, List.set_cons_zero, List.set_cons_succ]
          refine wpSeq_take (i := 32) (oi := _) (v := ?vv30) rfl (fun _ _ _ h => h) (Or.inl ⟨by kernel_rfl, ?hy30⟩) hH ?tl30
          case hy30 => intro w_ hSw; (try dsimp only at hSw); go_simp; (try with_reducible rfl)
          try simp only [List.getElem_toArray, List.getElem_cons_succ, List.getElem_cons_zero, Act.put, List.setIfInBounds_toArray, List.set_cons_zero, List.set_cons_succ]
          refine wpSeq_take (i := 33) (oi := _) (v := ?vv31) rfl (fun _ _ _ h => h) (Or.inl ⟨by kernel_rfl, ?hy31⟩) hH ?tl31
          case hy31 => intro w_ hSw; (try dsimp only at hSw); go_simp; (try with_reducible rfl)
          try simp only [List.getElem_toArray, List.getElem_cons_succ, List.getElem_cons_zero, Act.put, List.setIfInBounds_toArray, List.set_cons_zero, List.set_cons_succ]
          refine wpSeq_take (i := 34) (oi := _) (v := ?vv32) rfl (fun _ _ _ h => h) (Or.inl ⟨by kernel_rfl, ?hy32⟩) hH ?tl32
          case hy32 => intro w_ hSw; (try dsimp only at hSw); go_simp; (try with_reducible rfl)
          try simp only [List.getElem_toArray, List.getElem_cons_succ, List.getElem_cons_zero, Act.put, List.setIfInBounds_toArray, List.set_cons_zero, List.set_cons_succ]
          refine wpSeq_take (i := 35) (oi := _) (v := ?vv33) rfl (fun _ _ _ h => h) (Or.inl ⟨by kernel_rfl, ?hy33⟩) hH ?tl33
          case hy33 => intro w_ hSw; (try dsimp only at hSw); go_simp; (try with_reducible rfl)
          try simp only [List.getElem_toArray, List.getElem_cons_succ, List.getElem_cons_zero, Act.put, List.setIfInBounds_toArray, List.set_cons_zero, List.set_cons_succ]
          refine wpSeq_take (i := 36) (oi := _) (v := ?vv34) rfl (fun _ _ _ h => h) (Or.inl ⟨by kernel_rfl, ?hy34⟩) hH ?tl34
          case hy34 => intro w_ hSw; (try dsimp only at hSw); go_simp; (try with_reducible rfl)
          try simp only [List.getElem_toArray, List.getElem_cons_succ, List.getElem_cons_zero, Act.put, List.setIfInBounds_toArray, List.set_cons_zero, List.set_cons_succ]
          refine wpSeq_call (i := 37) (oi := _) rfl (fun K hK => ?_)
          go_simp
          with_reducible refine (hsame7.out _ (hr8.out.kept hH.1) (hr7.out.kept hH.1)).mono ?_
          rintro e wq3 ⟨rfl, hbq3⟩
          have hq3 := hSt.out _ _ hH.1 hbq3
          clear hH hbq3
          try go_wp2_with fail
          refine hK.out _ _ (hS.out _ hq3) (fun hH => ?_)
          clear hK K
          try simp only [List.getElem_toArray, List.getElem_cons_succ, List.getElem_cons_zero, Act.put, List.setIfInBounds_toArray, List.set_cons_zero, List.set_cons_succ]
          refine wpSeq_take (i := 38) (oi := _) (v := ?vv35) rfl (fun _ _ _ h => h) (Or.inl ⟨by kernel_rfl, ?hy35⟩) hH ?tl35
          case hy35 => intro w_ hSw; (try dsimp only at hSw); go_simp; (try with_reducible rfl)
          try simp only [List.getElem_toArray, List.getElem_cons_succ, List.getElem_cons_zero, Act.put, List.setIfInBounds_toArray, List.set_cons_zero, List.set_cons_succ]
          refine wpSeq_take (i := 39) (oi := _) (v := ?vv36) rfl (fun _ _ _ h => h) (Or.inl ⟨by kernel_rfl, ?hy36⟩) hH ?tl36
          case hy36 => intro w_ hSw; (try dsimp only at hSw); go_simp; (try with_reducible rfl)
          try simp only [List.getElem_toArray, List.getElem_cons_succ, List.getElem_cons_zero, Act.put, List.setIfInBounds_toArray, List.set_cons_zero, List.set_cons_succ]
          refine wpSeq_take (i := 40) (oi := _) (v := ?vv37) rfl (fun _ _ _ h => h) (Or.inl ⟨by kernel_rfl, ?hy37⟩) hH ?tl37
          case hy37 => intro w_ hSw; (try dsimp only at hSw); go_simp; (try with_reducible rfl)
          try simp only [List.getElem_toArray, List.getElem_cons_succ, List.getElem_cons_zero, Act.put, List.setIfInBounds_toArray, List.set_cons_zero, List.set_cons_succ]
          refine wpSeq_take (i := 41) (oi := _) (v := ?vv38) rfl (fun _ _ _ h => h) (Or.inl ⟨by kernel_rfl, ?hy38⟩) hH ?tl38
          case hy38 => intro w_ hSw; (try dsimp only at hSw); go_simp; (try with_reducible rfl)
          try simp only [List.getElem_toArray, List.getElem_cons_succ, List.getElem_cons_zero, Act.put, List.setIfInBounds_toArray, List.set_cons_zero, List.set_cons_succ]
          refine wpSeq_take (i := 42) (oi := _) (v := ?vv39) rfl (fun _ _ _ h => h) (Or.inl ⟨by kernel_rfl, ?hy39⟩) hH ?tl39
          case hy39 => intro w_ hSw; (try dsimp only at hSw); go_simp; (try with_reducible rfl)
          try simp only [List.getElem_toArray, List.getElem_cons_succ, List.getElem_cons_zero, Act.put, List.setIfInBounds_toArray, List.set_cons_zero, List.set_cons_succ]
          refine wpSeq_take (i := 43) (oi := _) (v := ?vv40) rfl (fun _ _ _ h => h) (Or.inl ⟨by kernel_rfl, ?hy40⟩) hH ?tl40
          case hy40 => intro w_ hSw; (try dsimp only at hSw); go_simp; (try with_reducible rfl)
          try simp only [List.getElem_toArray, List.getElem_cons_succ, List.getElem_cons_zero, Act.put, List.setIfInBounds_toArray, List.set_cons_zero, List.set_cons_succ]
          refine wpSeq_take (i := 44) (oi := _) (v := ?vv41) rfl (fun _ _ _ h => h) (Or.inl ⟨by kernel_rfl, ?hy41⟩) hH ?tl41
          case hy41 => intro w_ hSw; (try dsimp only at hSw); go_simp; (try with_reducible rfl)
          try simp only [List.getElem_toArray, List.getElem_cons_succ, List.getElem_cons_zero, Act.put, List.setIfInBounds_toArray, List.set_cons_zero, List.set_cons_succ]
          refine wpSeq_take (i := 45) (oi := _) (v := ?vv42) rfl (fun _ _ _ h => h) (Or.inl ⟨by kernel_rfl, ?hy42⟩) hH ?tl42
          case hy42 => intro w_ hSw; (try dsimp only at hSw); go_simp; (try with_reducible rfl)
          try simp only [List.getElem_toArray, List.getElem_cons_succ, List.getElem_cons_zero, Act.put, List.setIfInBounds_toArray, List.set_cons_zero, List.set_cons_succ]
          refine wpSeq_take (i := 46) (oi := _) (v := ?vv43) rfl (fun _ _ _ h => h) (Or.inl ⟨by kernel_rfl, ?hy43⟩) hH ?tl43
          case hy43 => intro w_ hSw; (try dsimp only at hSw); go_simp; (try with_reducible rfl)
          try simp only [List.getElem_toArray, List.getElem_cons_succ, List.getElem_cons_zero, Act.put, List.setIfInBounds_toArray, List.set_cons_zero, List.set_cons_succ]
          refine wpSeq_take (i := 47) (oi := _) (v := ?vv44) rfl (fun _ _ _ h => h) (Or.inl ⟨by kernel_rfl, ?hy44⟩) hH ?tl44
          case hy44 => intro w_ hSw; (try dsimp only at hSw); go_simp; (try with_reducible rfl)
          try simp only [List.getElem_toArray, List.getElem_cons_succ, List.getElem_cons_zero, Act.put, List.setIfInBounds_toArray, List.set_cons_zero, List.set_cons_succ]
          refine wpSeq_take (i := 48) (oi := _) (v := ?vv45) rfl (fun _ _ _ h => h) (Or.inl ⟨by kernel_rfl, ?hy45⟩) hH ?tl45
          case hy45 => intro w_ hSw; (try dsimp only at hSw); go_simp; (try with_reducible rfl)
          try simp only [List.getElem_toArray, List.getElem_cons_succ, List.getElem_cons_zero, Act.put, List.setIfInBounds_toArray, List.set_cons_zero, List.set_cons_succ]
          refine wpSeq_call (i := 49) (oi := _) rfl (fun K hK => ?_)
          go_simp
          with_reducible refine (hsame4.out _ (hr10.out.kept hH.1) (hr11.out.kept hH.1)).mono ?_
          rintro e wq4 ⟨rfl, hbq4⟩
          have hq4 := hSt.out _ _ hH.1 hbq4
          clear hH hbq4
          try go_wp2_with fail
          refine hK.out _ _ (hS.out _ hq4) (fun hH => ?_)
          clear hK K
          try simp only [List.getElem_toArray, List.getElem_cons_succ, List.getElem_cons_zero, Act.put, List.setIfInBounds_toArray, List.set_cons_zero, List.set_cons_succ]
          refine wpSeq_take (i := 50) (oi := _) (v := ?vv46) rfl (fun _ _ _ h => h) (Or.inl ⟨by kernel_rfl, ?hy46⟩) hH ?tl46
          case hy46 => intro w_ hSw; (try dsimp only at hSw); go_simp; (try with_reducible rfl)
          try simp only [List.getElem_toArray, List.getElem_cons_succ, List.getElem_cons_zero, Act.put, List.setIfInBounds_toArray, List.set_cons_zero, List.set_cons_succ]
          refine wpSeq_take (i := 51) (oi := _) (v := ?vv47) rfl (fun _ _ _ h => h) (Or.inl ⟨by kernel_rfl, ?hy47⟩) hH ?tl47
          case hy47 => intro w_ hSw; (try dsimp only at hSw); go_simp; (try with_reducible rfl)
          try simp only [List.getElem_toArray, List.getElem_cons_succ, List.getElem_cons_zero, Act.put, List.setIfInBounds_toArray, List.set_cons_zero, List.set_cons_succ]
          refine wpSeq_take (i := 52) (oi := _) (v := ?vv48) rfl (fun _ _ _ h => h) (Or.inl ⟨by kernel_rfl, ?hy48⟩) hH ?tl48
          case hy48 => intro w_ hSw; (try dsimp only at hSw); go_simp; (try with_reducible rfl)
          try simp only [List.getElem_toArray, List.getElem_cons_succ, List.getElem_cons_zero, Act.put, List.setIfInBounds_toArray, List.set_cons_zero, List.set_cons_succ]
          refine wpSeq_take (i := 53) (oi := _) (v := ?vv49) rfl (fun _ _ _ h => h) (Or.inl ⟨by kernel_rfl, ?hy49⟩) hH ?tl49
          case hy49 => intro w_ hSw; (try dsimp only at hSw); go_simp; (try with_reducible rfl)
          try simp only [List.getElem_toArray, List.getElem_cons_succ, List.getElem_cons_zero, Act.put, List.setIfInBounds_toArray, List.set_cons_zero, List.set_cons_succ]
          refine wpSeq_take (i := 54) (oi := _) (v := ?vv50) rfl (fun _ _ _ h => h) (Or.inl ⟨by kernel_rfl, ?hy50⟩) hH ?tl50
          case hy50 => intro w_ hSw; (try dsimp only at hSw); go_simp; (try with_reducible rfl)
          try simp only [List.getElem_toArray, List.getElem_cons_succ, List.getElem_cons_zero, Act.put, List.setIfInBounds_toArray, List.set_cons_zero, List.set_cons_succ]
          refine wpSeq_take (i := 55) (oi := _) (v := ?vv51) rfl (fun _ _ _ h => h) (Or.inl ⟨by kernel_rfl, ?hy51⟩) hH ?tl51
          case hy51 => intro w_ hSw; (try dsimp only at hSw); go_simp; (try with_reducible rfl)
          try simp only [List.getElem_toArray, List.getElem_cons_succ, List.getElem_cons_zero, Act.put, List.setIfInBounds_toArray, List.set_cons_zero, List.set_cons_succ]
          refine wpSeq_take (i := 56) (oi := _) (v := ?vv52) rfl (fun _ _ _ h => h) (Or.inl ⟨by kernel_rfl, ?hy52⟩) hH ?tl52
          case hy52 => intro w_ hSw; (try dsimp only at hSw); go_simp; (try with_reducible rfl)
          try simp only [List.getElem_toArray, List.getElem_cons_succ, List.getElem_cons_zero, Act.put, List.setIfInBounds_toArray, List.set_cons_zero, List.set_cons_succ]
          refine wpSeq_take (i := 57) (oi := _) (v := ?vv53) rfl (fun _ _ _ h => h) (Or.inl ⟨by kernel_rfl, ?hy53⟩) hH ?tl53
          case hy53 => intro w_ hSw; (try dsimp only at hSw); go_simp; (try with_reducible rfl)
          try simp only [List.getElem_toArray, List.getElem_cons_succ, List.getElem_cons_zero, Act.put, List.setIfInBounds_toArray, List.set_cons_zero, List.set_cons_succ]
          refine wpSeq_take (i := 58) (oi := _) (v := ?vv54) rfl (fun _ _ _ h => h) (Or.inl ⟨by kernel_rfl, ?hy54⟩) hH ?tl54
          case hy54 => intro w_ hSw; (try dsimp only at hSw); go_simp; (try with_reducible rfl)
          try simp only [List.getElem_toArray, List.getElem_cons_succ, List.getElem_cons_zero, Act.put, List.setIfInBounds_toArray, List.set_cons_zero, List.set_cons_succ]
          refine wpSeq_take (i := 59) (oi := _) (v := ?vv55) rfl (fun _ _ _ h => h) (Or.inl ⟨by kernel_rfl, ?hy55⟩) hH ?tl55
          case hy55 => intro w_ hSw; (try dsimp only at hSw); go_simp; (try with_reducible rfl)
          try simp only [List.getElem_toArray, List.getElem_cons_succ, List.getElem_cons_zero, Act.put, List.setIfInBounds_toArray, List.set_cons_zero, List.set_cons_succ]
          refine wpSeq_call (i := 60) (oi := _) rfl (fun K hK => ?_)
          go_simp
          with_reducible refine (hsame2.out _ (hr13.out.kept hH.1) (hr14.out.kept hH.1)).mono ?_
          rintro e wq5 ⟨rfl, hbq5⟩
          have hq5 := hSt.out _ _ hH.1 hbq5
          clear hH hbq5
          try go_wp2_with fail
          refine hK.out _ _ (hS.out _ hq5) (fun hH => ?_)
          clear hK K
          try simp only [List.getElem_toArray, List.getElem_cons_succ, List.getElem_cons_zero, Act.put, List.setIfInBounds_toArray, List.set_cons_zero, List.set_cons_succ]
          refine wpSeq_take (i := 61) (oi := _) (v := ?vv56) rfl (fun _ _ _ h => h) (Or.inl ⟨by kernel_rfl, ?hy56⟩) hH ?tl56
          case hy56 => intro w_ hSw; (try dsimp only at hSw); go_simp; (try with_reducible rfl)
          try simp only [List.getElem_toArray, List.getElem_cons_succ, List.getElem_cons_zero, Act.put, List.setIfInBounds_toArray, List.set_cons_zero, List.set_cons_succ]
          refine wpSeq_take (i := 62) (oi := _) (v := ?vv57) rfl (fun _ _ _ h => h) (Or.inl ⟨by kernel_rfl, ?hy57⟩) hH ?tl57
          case hy57 => intro w_ hSw; (try dsimp only at hSw); go_simp; (try with_reducible rfl)
          try simp only [List.getElem_toArray, List.getElem_cons_succ, List.getElem_cons_zero, Act.put, List.setIfInBounds_toArray, List.set_cons_zero, List.set_cons_succ]
          refine wpSeq_take (i := 63) (oi := _) (v := ?vv58) rfl (fun _ _ _ h => h) (Or.inl ⟨by kernel_rfl, ?hy58⟩) hH ?tl58
          case hy58 => intro w_ hSw; (try dsimp only at hSw); go_simp; (try with_reducible rfl)
          try simp only [List.getElem_toArray, List.getElem_cons_succ, List.getElem_cons_zero, Act.put, List.setIfInBounds_toArray, List.set_cons_zero, List.set_cons_succ]
          refine wpSeq_take (i := 64) (oi := _) (v := ?vv59) rfl (fun _ _ _ h => h) (Or.inl ⟨by kernel_rfl, ?hy59⟩) hH ?tl59
          case hy59 => intro w_ hSw; (try dsimp only at hSw); go_simp; (try with_reducible rfl)
          try simp only [List.getElem_toArray, List.getElem_cons_succ, List.getElem_cons_zero, Act.put, List.setIfInBounds_toArray, List.set_cons_zero, List.set_cons_succ]
          refine wpSeq_take (i := 65) (oi := _) (v := ?vv60) rfl (fun _ _ _ h => h) (Or.inl ⟨by kernel_rfl, ?hy60⟩) hH ?tl60
          case hy60 => intro w_ hSw; (try dsimp only at hSw); go_simp; (try with_reducible rfl)
          try simp only [List.getElem_toArray, List.getElem_cons_succ, List.getElem_cons_zero, Act.put, List.setIfInBounds_toArray, List.set_cons_zero, List.set_cons_succ]
          refine wpSeq_take (i := 67) (oi := _) (v := ?vv61) rfl (fun _ _ _ h => h) (Or.inl ⟨by kernel_rfl, ?hy61⟩) hH ?tl61
          case hy61 => intro w_ hSw; (try dsimp only at hSw); go_simp; (try with_reducible rfl)
          try simp only [List.getElem_toArray, List.getElem_cons_succ, List.getElem_cons_zero, Act.put, List.setIfInBounds_toArray, List.set_cons_zero, List.set_cons_succ]
          refine wpSeq_take (i := 68) (oi := _) (v := ?vv62) rfl (fun _ _ _ h => h) (Or.inl ⟨by kernel_rfl, ?hy62⟩) hH ?tl62
          case hy62 => intro w_ hSw; (try dsimp only at hSw); go_simp; (try with_reducible rfl)
          try simp only [List.getElem_toArray, List.getElem_cons_succ, List.getElem_cons_zero, Act.put, List.setIfInBounds_toArray, List.set_cons_zero, List.set_cons_succ]
          refine wpSeq_call (i := 66) (oi := _) rfl (fun K hK => ?_)
          go_simp
          with_reducible refine (hsame5.out _ (hr15.out.kept hH.1) (hr16.out.kept hH.1)).mono ?_
          rintro e wq6 ⟨rfl, hbq6⟩
          have hq6 := hSt.out _ _ hH.1 hbq6
          clear hH hbq6
          try go_wp2_with fail
          refine hK.out _ _ (hS.out _ hq6) (fun hH => ?_)
          clear hK K
          try simp only [List.getElem_toArray, List.getElem_cons_succ, List.getElem_cons_zero, Act.put, List.setIfInBounds_toArray, List.set_cons_zero, List.set_cons_succ]
          refine wpSeq_call (i := 69) (oi := _) rfl (fun K hK => ?_)
          go_simp
          with_reducible refine (hsame6.out _ (hr15.out.kept hH.1) (hr16.out.kept hH.1)).mono ?_
          rintro e wq7 ⟨rfl, hbq7⟩
          have hq7 := hSt.out _ _ hH.1 hbq7
          clear hH hbq7
          try go_wp2_with fail
          refine hK.out _ _ (hS.out _ hq7) (fun hH => ?_)
          clear hK K
          try simp only [List.getElem_toArray, List.getElem_cons_succ, List.getElem_cons_zero, Act.put, List.setIfInBounds_toArray, List.set_cons_zero, List.set_cons_succ]
          refine wpSeq_take (i := 70) (oi := _) (v := ?vv63) rfl (fun _ _ _ h => h) (Or.inl ⟨by kernel_rfl, ?hy63⟩) hH ?tl63
          case hy63 => intro w_ hSw; (try dsimp only at hSw); go_simp; (try with_reducible rfl)
          try simp only [List.getElem_toArray, List.getElem_cons_succ, List.getElem_cons_zero, Act.put, List.setIfInBounds_toArray, List.set_cons_zero, List.set_cons_succ]
          refine wpSeq_take (i := 71) (oi := _) (v := ?vv64) rfl (fun _ _ _ h => h) (Or.inl ⟨by kernel_rfl, ?hy64⟩) hH ?tl64
          case hy64 => intro w_ hSw; (try dsimp only at hSw); go_simp; (try with_reducible rfl)
          try simp only [List.getElem_toArray, List.getElem_cons_succ, List.getElem_cons_zero, Act.put, List.setIfInBounds_toArray, List.set_cons_zero, List.set_cons_succ]
          refine wpSeq_take (i := 72) (oi := _) (v := ?vv65) rfl (fun _ _ _ h => h) (Or.inl ⟨by kernel_rfl, ?hy65⟩) hH ?tl65
          case hy65 => intro w_ hSw; (try dsimp only at hSw); go_simp; (try with_reducible rfl)
          try simp only [List.getElem_toArray, List.getElem_cons_succ, List.getElem_cons_zero, Act.put, List.setIfInBounds_toArray, List.set_cons_zero, List.set_cons_succ]
          refine wpSeq_take (i := 73) (oi := _) (v := ?vv66) rfl (fun _ _ _ h => h) (Or.inl ⟨by kernel_rfl, ?hy66⟩) hH ?tl66
          case hy66 => intro w_ hSw; (try dsimp only at hSw); go_simp; (try with_reducible rfl)
          try simp only [List.getElem_toArray, List.getElem_cons_succ, List.getElem_cons_zero, Act.put, List.setIfInBounds_toArray, List.set_cons_zero, List.set_cons_succ]
          refine wpSeq_take (i := 75) (oi := _) (v := ?vv67) rfl (fun _ _ _ h => h) (Or.inl ⟨by kernel_rfl, ?hy67⟩) hH ?tl67
          case hy67 => intro w_ hSw; (try dsimp only at hSw); go_simp; (try with_reducible rfl)
          try simp only [List.getElem_toArray, List.getElem_cons_succ, List.getElem_cons_zero, Act.put, List.setIfInBounds_toArray, List.set_cons_zero, List.set_cons_succ]
          refine wpSeq_call (i := 74) (oi := _) rfl (fun K hK => ?_)
          go_simp
          with_reducible refine (hval1.out _ (hr1.out.kept hH.1)).mono ?_
          rintro e wq8 ⟨rfl, hbq8⟩
          have hq8 := hSt.out _ _ hH.1 hbq8
          clear hH hbq8
          try go_wp2_with fail
          refine hK.out _ _ (hS.out _ hq8) (fun hH => ?_)
          clear hK K
          try simp only [List.getElem_toArray, List.getElem_cons_succ, List.getElem_cons_zero, Act.put, List.setIfInBounds_toArray, List.set_cons_zero, List.set_cons_succ]
          refine wpSeq_call (i := 76) (oi := _) rfl (fun K hK => ?_)
          go_simp
          with_reducible refine (hval2.out _ (hr1.out.kept hH.1)).mono ?_
          rintro e wq9 ⟨rfl, hbq9⟩
          have hq9 := hSt.out _ _ hH.1 hbq9
          clear hH hbq9
          try go_wp2_with fail
          refine hK.out _ _ (hS.out _ hq9) (fun hH => ?_)
          clear hK K
          try simp only [List.getElem_toArray, List.getElem_cons_succ, List.getElem_cons_zero, Act.put, List.setIfInBounds_toArray, List.set_cons_zero, List.set_cons_succ]
          refine wpSeq_take (i := 77) (oi := _) (v := ?vv68) rfl (fun _ _ _ h => h) (Or.inl ⟨by kernel_rfl, ?hy68⟩) hH ?tl68
          case hy68 => intro w_ hSw; (try dsimp only at hSw); go_simp; (try with_reducible rfl)
          try simp only [List.getElem_toArray, List.getElem_cons_succ, List.getElem_cons_zero, Act.put, List.setIfInBounds_toArray, List.set_cons_zero, List.set_cons_succ]
          refine wpSeq_take (i := 78) (oi := _) (v := ?vv69) rfl (fun _ _ _ h => h) (Or.inl ⟨by kernel_rfl, ?hy69⟩) hH ?tl69
          case hy69 => intro w_ hSw; (try dsimp only at hSw); go_simp; (try with_reducible rfl)
          try simp only [List.getElem_toArray, List.getElem_cons_succ, List.getElem_cons_zero, Act.put, List.setIfInBounds_toArray, List.set_cons_zero, List.set_cons_succ]
          refine wpSeq_done ?_
          try simp only [List.getElem_toArray, List.getElem_cons_succ, List.getElem_cons_zero, Act.put, List.setIfInBounds_toArray, List.set_cons_zero, List.set_cons_succ]
          go_wp2_with fail
          go_meet
          exact ⟨rfl, hq9⟩
      · as_aux_lemma =>
          obtain ⟨z1, z2⟩ := empty_text hne
          replace hne := Lib.hid hne
          refine wpSeq_take (i := 27) (oi := _) (v := ?vv70) rfl (fun _ _ _ h => h) (Or.inl ⟨by kernel_rfl, ?hy70⟩) hH ?tl70
          case hy70 => intro w_ hSw; (try dsimp only at hSw); go_simp; (try with_reducible rfl)
          try simp only [List.getElem_toArray, List.getElem_cons_succ, List.getElem_cons_zero, Act.put, List.setIfInBounds_toArray, List.set_cons_zero, List.set_cons_succ]
          refine wpSeq_take (i := 28) (oi := _) (v := ?vv71) rfl (fun _ _ _ h => h) (Or.inl ⟨by kernel_rfl, ?hy71⟩) hH ?tl71
          case hy71 => intro w_ hSw; (try dsimp only at hSw); go_simp; (try with_reducible rfl)
          try simp only [List.getElem_toArray, List.getElem_cons_succ, List.getElem_cons_zero, Act.put, List.setIfInBounds_toArray, List.set_cons_zero, List.set_cons_succ]
          refine wpSeq_take (i := 29) (oi := _) (v := ?vv72) rfl (fun _ _ _ h => h) (Or.inl ⟨by kernel_rfl, ?hy72⟩) hH ?tl72
          case hy72 => intro w_ hSw; (try dsimp only at hSw); go_simp; (try with_reducible rfl)
          try simp only [List.getElem_toArray, List.getElem_cons_succ, List.getElem_cons_zero, Act.put, List.setIfInBounds_toArray, List.set_cons_zero, List.set_cons_succ]
          refine wpSeq_take (i := 30) (oi := _) (v := ?vv73) rfl (fun _ _ _ h => h) (Or.inl ⟨by kernel_rfl, ?hy73⟩) hH ?tl73
          case hy73 => intro w_ hSw; (try dsimp only at hSw); go_simp; (try with_reducible rfl)
          try simp only [List.getElem_toArray, List.getElem_cons_succ, List.getElem_cons_zero, Act.put, List.setIfInBounds_toArray, List.set_cons_zero, List.set_cons_succ]
          refine wpSeq_take (i := 31) (oi := _) (v := ?vv74) rfl (fun _ _ _ h => h) (Or.inl ⟨by kernel_rfl, ?hy74⟩) hH ?tl74
          case hy74 => intro w_ hSw; (try dsimp only at hSw); go_simp; (try with_reducible rfl)
          try simp only [List.getElem_toArray, List.getElem_cons_succ, List.getElem_cons_zero, Act.put, List.setIfInBounds_toArray, List.set_cons_zero, List.set_cons_succ]
          refine wpSeq_take (i := 32) (oi := _) (v := ?vv75) rfl (fun _ _ _ h => h) (Or.inl ⟨by kernel_rfl, ?hy75⟩) hH ?tl75
          case hy75 => intro w_ hSw; (try dsimp only at hSw); go_simp; (try with_reducible rfl)
          try simp only [List.getElem_toArray, List.getElem_cons_succ, List.getElem_cons_zero, Act.put, List.setIfInBounds_toArray, List.set_cons_zero, List.set_cons_succ]
          refine wpSeq_take (i := 33) (oi := _) (v := ?vv76) rfl (fun _ _ _ h => h) (Or.inl ⟨by kernel_rfl, ?hy76⟩) hH ?tl76
          case hy76 => intro w_ hSw; (try dsimp only at hSw); go_simp; (try with_reducible rfl)
          try simp only [List.getElem_toArray, List.getElem_cons_succ, List.getElem_cons_zero, Act.put, List.setIfInBounds_toArray, List.set_cons_zero, List.set_cons_succ]
          refine wpSeq_take (i := 34) (oi := _) (v := ?vv77) rfl (fun _ _ _ h => h) (Or.inl ⟨by kernel_rfl, ?hy77⟩) hH ?tl77
          case hy77 => intro w_ hSw; (try dsimp only at hSw); go_simp; (try with_reducible rfl)
          try simp only [List.getElem_toArray, List.getElem_cons_succ, List.getElem_cons_zero, Act.put, List.setIfInBounds_toArray, List.set_cons_zero, List.set_cons_succ]
          refine wpSeq_take (i := 35) (oi := _) (v := undef) rfl (fun _ _ _ h => h) (Or.inr ⟨by kernel_rfl, rfl⟩) hH ?_
          try simp only [List.getElem_toArray, List.getElem_cons_succ, List.getElem_cons_zero, Act.put, List.setIfInBounds_toArray, List.set_cons_zero, List.set_cons_succ]
          refine wpSeq_take (i := 36) (oi := _) (v := undef) rfl (fun _ _ _ h => h) (Or.inr ⟨by kernel_rfl, rfl⟩) hH ?_
          try simp only [List.getElem_toArray, List.getElem_cons_succ, List.getElem_cons_zero, Act.put, List.setIfInBounds_toArray, List.set_cons_zero, List.set_cons_succ]
          refine wpSeq_skip (i := 37) (oi := _) rfl (by kernel_rfl) hH ?_
          try simp only [List.getElem_toArray, List.getElem_cons_succ, List.getElem_cons_zero, Act.put, List.setIfInBounds_toArray, List.set_cons_zero, List.set_cons_succ]
          refine wpSeq_take (i := 38) (oi := _) (v := undef) rfl (fun _ _ _ h => h) (Or.inr ⟨by kernel_rfl, rfl⟩) hH ?_
          try simp only [List.getElem_toArray, List.getElem_cons_succ, List.getElem_cons_zero, Act.put, List.setIfInBounds_toArray, List.set_cons_zero, List.set_cons_succ]
          refine wpSeq_take (i := 39) (oi := _) (v := ?vv78) rfl (fun _ _ _ h => h) (Or.inl ⟨by kernel_rfl, ?hy78⟩) hH ?tl78
          case hy78 => intro w_ hSw; (try dsimp only at hSw); go_simp; (try with_reducible rfl)
          try simp only [List.getElem_toArray, List.getElem_cons_succ, List.getElem_cons_zero, Act.put, List.setIfInBounds_toArray, List.set_cons_zero, List.set_cons_succ]
          refine wpSeq_take (i := 40) (oi := _) (v := ?vv79) rfl (fun _ _ _ h => h) (Or.inl ⟨by kernel_rfl, ?hy79⟩) hH ?tl79
          case hy79 => intro w_ hSw; (try dsimp only at hSw); go_simp; (try with_reducible rfl)
          try simp only [List.getElem_toArray, List.getElem_cons_succ, List.getElem_cons_zero, Act.put, List.setIfInBounds_toArray, List.set_cons_zero, List.set_cons_succ]
          refine wpSeq_take (i := 41) (oi := _) (v := ?vv80) rfl (fun _ _ _ h => h) (Or.inl ⟨by kernel_rfl, ?hy80⟩) hH ?tl80
          case hy80 => intro w_ hSw; (try dsimp only at hSw); go_simp; (try with_reducible rfl)
          try simp only [List.getElem_toArray, List.getElem_cons_succ, List.getElem_cons_zero, Act.put, List.setIfInBounds_toArray, List.set_cons_zero, List.set_cons_succ]
          refine wpSeq_take (i := 42) (oi := _) (v := ?vv81) rfl (fun _ _ _ h => h) (Or.inl ⟨by kernel_rfl, ?hy81⟩) hH ?tl81
          case hy81 => intro w_ hSw; (try dsimp only at hSw); go_simp; (try with_reducible rfl)
          try simp only [List.getElem_toArray, List.getElem_cons_succ, List.getElem_cons_zero, Act.put, List.setIfInBounds_toArray, List.set_cons_zero, List.set_cons_succ]
          refine wpSeq_take (i := 43) (oi := _) (v := ?vv82) rfl (fun _ _ _ h => h) (Or.inl ⟨by kernel_rfl, ?hy82⟩) hH ?tl82
          case hy82 => intro w_ hSw; (try dsimp only at hSw); go_simp; (try with_reducible rfl)
          try simp only [List.getElem_toArray, List.getElem_cons_succ, List.getElem_cons_zero, Act.put, List.setIfInBounds_toArray, List.set_cons_zero, List.set_cons_succ]
          refine wpSeq_take (i := 44) (oi := _) (v := ?vv83) rfl (fun _ _ _ h => h) (Or.inl ⟨by kernel_rfl, ?hy83⟩) hH ?tl83
          case hy83 => intro w_ hSw; (try dsimp only at hSw); go_simp; (try with_reducible rfl)
          try simp only [List.getElem_toArray, List.getElem_cons_succ, List.getElem_cons_zero, Act.put, List.setIfInBounds_toArray, List.set_cons_zero, List.set_cons_succ]
          refine wpSeq_take (i := 45) (oi := _) (v := ?vv84) rfl (fun _ _ _ h => h) (Or.inl ⟨by kernel_rfl, ?hy84⟩) hH ?tl84
          case hy84 => intro w_ hSw; (try dsimp only at hSw); go_simp; (try with_reducible rfl)
          try simp only [List.getElem_toArray, List.getElem_cons_succ, List.getElem_cons_zero, Act.put, List.setIfInBounds_toArray, List.set_cons_zero, List.set_cons_succ]
          refine wpSeq_take (i := 46) (oi := _) (v := ?vv85) rfl (fun _ _ _ h => h) (Or.inl ⟨by kernel_rfl, ?hy85⟩) hH ?tl85
          case hy85 => intro w_ hSw; (try dsimp only at hSw); go_simp; (try with_reducible rfl)
          try simp only [List.getElem_toArray, List.getElem_cons_succ, List.getElem_cons_zero, Act.put, List.setIfInBounds_toArray, List.set_cons_zero, List.set_cons_succ]
          refine wpSeq_take (i := 47) (oi := _) (v := ?vv86) rfl (fun _ _ _ h => h) (Or.inl ⟨by kernel_rfl, ?hy86⟩) hH ?tl86
          case hy86 => intro w_ hSw; (try dsimp only at hSw); go_simp; (try with_reducible rfl)
          try simp only [List.getElem_toArray, List.getElem_cons_succ, List.getElem_cons_zero, Act.put, List.setIfInBounds_toArray, List.set_cons_zero, List.set_cons_succ]
          refine wpSeq_take (i := 48) (oi := _) (v := ?vv87) rfl (fun _ _ _ h => h) (Or.inl ⟨by kernel_rfl, ?hy87⟩) hH ?tl87
          case hy87 => intro w_ hSw; (try dsimp only at hSw); go_simp; (try with_reducible rfl)
          try simp only [List.getElem_toArray, List.getElem_cons_succ, List.getElem_cons_zero, Act.put, List.setIfInBounds_toArray, List.set_cons_zero, List.set_cons_succ]
          refine wpSeq_call (i := 49) (oi := _) rfl (fun K hK => ?_)
          go_simp
          with_reducible refine (hsame4.out _ (hr10.out.kept hH.1) (hr11.out.kept hH.1)).mono ?_
          rintro e wq4 ⟨rfl, hbq4⟩
          have hq4 := hSt.out _ _ hH.1 hbq4
          clear hH hbq4
          try go_wp2_with fail
          refine hK.out _ _ (hS.out _ hq4) (fun hH => ?_)
          clear hK K
          try simp only [List.getElem_toArray, List.getElem_cons_succ, List.getElem_cons_zero, Act.put, List.setIfInBounds_toArray, List.set_cons_zero, List.set_cons_succ]
          refine wpSeq_take (i := 50) (oi := _) (v := ?vv88) rfl (fun _ _ _ h => h) (Or.inl ⟨by kernel_rfl, ?hy88⟩) hH ?tl88
          case hy88 => intro w_ hSw; (try dsimp only at hSw); go_simp; (try with_reducible rfl)
          try simp only [List.getElem_toArray, List.getElem_cons_succ, List.getElem_cons_zero, Act.put, List.setIfInBounds_toArray, List.set_cons_zero, List.set_cons_succ]
          refine wpSeq_take (i := 51) (oi := _) (v := ?vv89) rfl (fun _ _ _ h => h) (Or.inl ⟨by kernel_rfl, ?hy89⟩) hH ?tl89
          case hy89 => intro w_ hSw; (try dsimp only at hSw); go_simp; (try with_reducible rfl)
          try simp only [List.getElem_toArray, List.getElem_cons_succ, List.getElem_cons_zero, Act.put, List.setIfInBounds_toArray, List.set_cons_zero, List.set_cons_succ]
          refine wpSeq_take (i := 52) (oi := _) (v := ?vv90) rfl (fun _ _ _ h => h) (Or.inl ⟨by kernel_rfl, ?hy90⟩) hH ?tl90
          case hy90 => intro w_ hSw; (try dsimp only at hSw); go_simp; (try with_reducible rfl)
          try simp only [List.getElem_toArray, List.getElem_cons_succ, List.getElem_cons_zero, Act.put, List.setIfInBounds_toArray, List.set_cons_zero, List.set_cons_succ]
          refine wpSeq_take (i := 53) (oi := _) (v := ?vv91) rfl (fun _ _ _ h => h) (Or.inl ⟨by kernel_rfl, ?hy91⟩) hH ?tl91
          case hy91 => intro w_ hSw; (try dsimp only at hSw); go_simp; (try with_reducible rfl)
          try simp only [List.getElem_toArray, List.getElem_cons_succ, List.getElem_cons_zero, Act.put, List.setIfInBounds_toArray, List.set_cons_zero, List.set_cons_succ]
          refine wpSeq_take (i := 54) (oi := _) (v := ?vv92) rfl (fun _ _ _ h => h) (Or.inl ⟨by kernel_rfl, ?hy92⟩) hH ?tl92
          case hy92 => intro w_ hSw; (try dsimp only at hSw); go_simp; (try with_reducible rfl)
          try simp only [List.getElem_toArray, List.getElem_cons_succ, List.getElem_cons_zero, Act.put, List.setIfInBounds_toArray, List.set_cons_zero, List.set_cons_succ]
          refine wpSeq_take (i := 55) (oi := _) (v := ?vv93) rfl (fun _ _ _ h => h) (Or.inl ⟨by kernel_rfl, ?hy93⟩) hH ?tl93
          case hy93 => intro w_ hSw; (try dsimp only at hSw); go_simp; (try with_reducible rfl)
          try simp only [List.getElem_toArray, List.getElem_cons_succ, List.getElem_cons_zero, Act.put, List.setIfInBounds_toArray, List.set_cons_zero, List.set_cons_succ]
          refine wpSeq_take (i := 56) (oi := _) (v := ?vv94) rfl (fun _ _ _ h => h) (Or.inl ⟨by kernel_rfl, ?hy94⟩) hH ?tl94
          case hy94 => intro w_ hSw; (try dsimp only at hSw); go_simp; (try with_reducible rfl)
          try simp only [List.getElem_toArray, List.getElem_cons_succ, List.getElem_cons_zero, Act.put, List.setIfInBounds_toArray, List.set_cons_zero, List.set_cons_succ]
          refine wpSeq_take (i := 57) (oi := _) (v := ?vv95) rfl (fun _ _ _ h => h) (Or.inl ⟨by kernel_rfl, ?hy95⟩) hH ?tl95
          case hy95 => intro w_ hSw; (try dsimp only at hSw); go_simp; (try with_reducible rfl)
          try simp only [List.getElem_toArray, List.getElem_cons_succ, List.getElem_cons_zero, Act.put, List.setIfInBounds_toArray, List.set_cons_zero, List.set_cons_succ]
          refine wpSeq_take (i := 58) (oi := _) (v := ?vv96) rfl (fun _ _ _ h => h) (Or.inl ⟨by kernel_rfl, ?hy96⟩) hH ?tl96
          case hy96 => intro w_ hSw; (try dsimp only at hSw); go_simp; (try with_reducible rfl)
          try simp only [List.getElem_toArray, List.getElem_cons_succ, List.getElem_cons_zero, Act.put, List.setIfInBounds_toArray, List.set_cons_zero, List.set_cons_succ]
          refine wpSeq_take (i := 59) (oi := _) (v := ?vv97) rfl (fun _ _ _ h => h) (Or.inl ⟨by kernel_rfl, ?hy97⟩) hH ?tl97
          case hy97 => intro w_ hSw; (try dsimp only at hSw); go_simp; (try with_reducible rfl)
          try simp only [List.getElem_toArray, List.getElem_cons_succ, List.getElem_cons_zero, Act.put, List.setIfInBounds_toArray, List.set_cons_zero, List.set_cons_succ]
          refine wpSeq_call (i := 60) (oi := _) rfl (fun K hK => ?_)
          go_simp
          with_reducible refine (hsame2.out _ (hr13.out.kept hH.1) (hr14.out.kept hH.1)).mono ?_
          rintro e wq5 ⟨rfl, hbq5⟩
          have hq5 := hSt.out _ _ hH.1 hbq5
          clear hH hbq5
          try go_wp2_with fail
          refine hK.out _ _ (hS.out _ hq5) (fun hH => ?_)
          clear hK K
          try simp only [List.getElem_toArray, List.getElem_cons_succ, List.getElem_cons_zero, Act.put, List.setIfInBounds_toArray, List.set_cons_zero, List.set_cons_succ]
          refine wpSeq_take (i := 61) (oi := _) (v := ?vv98) rfl (fun _ _ _ h => h) (Or.inl ⟨by kernel_rfl, ?hy98⟩) hH ?tl98
          case hy98 => intro w_ hSw; (try dsimp only at hSw); go_simp; (try with_reducible rfl)
          try simp only [List.getElem_toArray, List.getElem_cons_succ, List.getElem_cons_zero, Act.put, List.setIfInBounds_toArray, List.set_cons_zero, List.set_cons_succ]
          refine wpSeq_take (i := 62) (oi := _) (v := ?vv99) rfl (fun _ _ _ h => h) (Or.inl ⟨by kernel_rfl, ?hy99⟩) hH ?tl99
          case hy99 => intro w_ hSw; (try dsimp only at hSw); go_simp; (try with_reducible rfl)
          try simp only [List.getElem_toArray, List.getElem_cons_succ, List.getElem_cons_zero, Act.put, List.setIfInBounds_toArray, List.set_cons_zero, List.set_cons_succ]
          refine wpSeq_take (i := 63) (oi := _) (v := ?vv100) rfl (fun _ _ _ h => h) (Or.inl ⟨by kernel_rfl, ?hy100⟩) hH ?tl100
          case hy100 => intro w_ hSw; (try dsimp only at hSw); go_simp; (try with_reducible rfl)
          try simp only [List.getElem_toArray, List.getElem_cons_succ, List.getElem_cons_zero, Act.put, List.setIfInBounds_toArray, List.set_cons_zero, List.set_cons_succ]
          refine wpSeq_take (i := 64) (oi := _) (v := ?vv101) rfl (fun _ _ _ h => h) (Or.inl ⟨by kernel_rfl, ?hy101⟩) hH ?tl101
          case hy101 => intro w_ hSw; (try dsimp only at hSw); go_simp; (try with_reducible rfl)
          try simp only [List.getElem_toArray, List.getElem_cons_succ, List.getElem_cons_zero, Act.put, List.setIfInBounds_toArray, List.set_cons_zero, List.set_cons_succ]
          refine wpSeq_take (i := 65) (oi := _) (v := ?vv102) rfl (fun _ _ _ h => h) (Or.inl ⟨by kernel_rfl, ?hy102⟩) hH ?tl102
          case hy102 => intro w_ hSw; (try dsimp only at hSw); go_simp; (try with_reducible rfl)
          try simp only [List.getElem_toArray, List.getElem_cons_succ, List.getElem_cons_zero, Act.put, List.setIfInBounds_toArray, List.set_cons_zero, List.set_cons_succ]
          refine wpSeq_take (i := 67) (oi := _) (v := ?vv103) rfl (fun _ _ _ h => h) (Or.inl ⟨by kernel_rfl, ?hy103⟩) hH ?tl103
          case hy103 => intro w_ hSw; (try dsimp only at hSw); go_simp; (try with_reducible rfl)
          try simp only [List.getElem_toArray, List.getElem_cons_succ, List.getElem_cons_zero, Act.put, List.setIfInBounds_toArray, List.set_cons_zero, List.set_cons_succ]
          refine wpSeq_take (i := 68) (oi := _) (v := ?vv104) rfl (fun _ _ _ h => h) (Or.inl ⟨by kernel_rfl, ?hy104⟩) hH ?tl104
          case hy104 => intro w_ hSw; (try dsimp only at hSw); go_simp; (try with_reducible rfl)
          try simp only [List.getElem_toArray, List.getElem_cons_succ, List.getElem_cons_zero, Act.put, List.setIfInBounds_toArray, List.set_cons_zero, List.set_cons_succ]
          refine wpSeq_call (i := 66) (oi := _) rfl (fun K hK => ?_)
          go_simp
          with_reducible refine (hsame5.out _ (hr15.out.kept hH.1) (hr16.out.kept hH.1)).mono ?_
          rintro e wq6 ⟨rfl, hbq6⟩
          have hq6 := hSt.out _ _ hH.1 hbq6
          clear hH hbq6
          try go_wp2_with fail
          refine hK.out _ _ (hS.out _ hq6) (fun hH => ?_)
          clear hK K
          try simp only [List.getElem_toArray, List.getElem_cons_succ, List.getElem_cons_zero, Act.put, List.setIfInBounds_toArray, List.set_cons_zero, List.set_cons_succ]
          refine wpSeq_call (i := 69) (oi := _) rfl (fun K hK => ?_)
          go_simp
          with_reducible refine (hsame6.out _ (hr15.out.kept hH.1) (hr16.out.kept hH.1)).mono ?_
          rintro e wq7 ⟨rfl, hbq7⟩
          have hq7 := hSt.out _ _ hH.1 hbq7
          clear hH hbq7
          try go_wp2_with fail
          refine hK.out _ _ (hS.out _ hq7) (fun hH => ?_)
          clear hK K
          try simp only [List.getElem_toArray, List.getElem_cons_succ, List.getElem_cons_zero, Act.put, List.setIfInBounds_toArray, List.set_cons_zero, List.set_cons_succ]
          refine wpSeq_take (i := 70) (oi := _) (v := ?vv105) rfl (fun _ _ _ h => h) (Or.inl ⟨by kernel_rfl, ?hy105⟩) hH ?tl105
          case hy105 => intro w_ hSw; (try dsimp only at hSw); go_simp; (try with_reducible rfl)
          try simp only [List.getElem_toArray, List.getElem_cons_succ, List.getElem_cons_zero, Act.put, List.setIfInBounds_toArray, List.set_cons_zero, List.set_cons_succ]
          refine wpSeq_take (i := 71) (oi := _) (v := ?vv106) rfl (fun _ _ _ h => h) (Or.inl ⟨by kernel_rfl, ?hy106⟩) hH ?tl106
          case hy106 => intro w_ hSw; (try dsimp only at hSw); go_simp; (try with_reducible rfl)
          try simp only [List.getElem_toArray, List.getElem_cons_succ, List.getElem_cons_zero, Act.put, List.setIfInBounds_toArray, List.set_cons_zero, List.set_cons_succ]
          refine wpSeq_take (i := 72) (oi := _) (v := ?vv107) rfl (fun _ _ _ h => h) (Or.inl ⟨by kernel_rfl, ?hy107⟩) hH ?tl107
          case hy107 => intro w_ hSw; (try dsimp only at hSw); go_simp; (try with_reducible rfl)
          try simp only [List.getElem_toArray, List.getElem_cons_succ, List.getElem_cons_zero, Act.put, List.setIfInBounds_toArray, List.set_cons_zero, List.set_cons_succ]
          refine wpSeq_take (i := 73) (oi := _) (v := ?vv108) rfl (fun _ _ _ h => h) (Or.inl ⟨by kernel_rfl, ?hy108⟩) hH ?tl108
          case hy108 => intro w_ hSw; (try dsimp only at hSw); go_simp; (try with_reducible rfl)
          try simp only [List.getElem_toArray, List.getElem_cons_succ, List.getElem_cons_zero, Act.put, List.setIfInBounds_toArray, List.set_cons_zero, List.set_cons_succ]
          refine wpSeq_take (i := 75) (oi := _) (v := ?vv109) rfl (fun _ _ _ h => h) (Or.inl ⟨by kernel_rfl, ?hy109⟩) hH ?tl109
          case hy109 => intro w_ hSw; (try dsimp only at hSw); go_simp; (try with_reducible rfl)
          try simp only [List.getElem_toArray, List.getElem_cons_succ, List.getElem_cons_zero, Act.put, List.setIfInBounds_toArray, List.set_cons_zero, List.set_cons_succ]
          refine wpSeq_call (i := 74) (oi := _) rfl (fun K hK => ?_)
          go_simp
          with_reducible refine (hval1.out _ (hr1.out.kept hH.1)).mono ?_
          rintro e wq8 ⟨rfl, hbq8⟩
          have hq8 := hSt.out _ _ hH.1 hbq8
          clear hH hbq8
          try go_wp2_with fail
          refine hK.out _ _ (hS.out _ hq8) (fun hH => ?_)
          clear hK K
          try simp only [List.getElem_toArray, List.getElem_cons_succ, List.getElem_cons_zero, Act.put, List.setIfInBounds_toArray, List.set_cons_zero, List.set_cons_succ]
          refine wpSeq_call (i := 76) (oi := _) rfl (fun K hK => ?_)
          go_simp
          with_reducible refine (hval2.out _ (hr1.out.kept hH.1)).mono ?_
          rintro e wq9 ⟨rfl, hbq9⟩
          have hq9 := hSt.out _ _ hH.1 hbq9
          clear hH hbq9
          try go_wp2_with fail
          refine hK.out _ _ (hS.out _ hq9) (fun hH => ?_)
          clear hK K
          try simp only [List.getElem_toArray, List.getElem_cons_succ, List.getElem_cons_zero, Act.put, List.setIfInBounds_toArray, List.set_cons_zero, List.set_cons_succ]
          refine wpSeq_take (i := 77) (oi := _) (v := ?vv110) rfl (fun _ _ _ h => h) (Or.inl ⟨by kernel_rfl, ?hy110⟩) hH ?tl110
          case hy110 => intro w_ hSw; (try dsimp only at hSw); go_simp; (try with_reducible rfl)
          try simp only [List.getElem_toArray, List.getElem_cons_succ, List.getElem_cons_zero, Act.put, List.setIfInBounds_toArray, List.set_cons_zero, List.set_cons_succ]
          refine wpSeq_take (i := 78) (oi := _) (v := ?vv111) rfl (fun _ _ _ h => h) (Or.inl ⟨by kernel_rfl, ?hy111⟩) hH ?tl111
          case hy111 => intro w_ hSw; (try dsimp only at hSw); go_simp; (try with_reducible rfl)
          try simp only [List.getElem_toArray, List.getElem_cons_succ, List.getElem_cons_zero, Act.put, List.setIfInBounds_toArray, List.set_cons_zero, List.set_cons_succ]
          refine wpSeq_done ?_
          try simp only [List.getElem_toArray, List.getElem_cons_succ, List.getElem_cons_zero, Act.put, List.setIfInBounds_toArray, List.set_cons_zero, List.set_cons_succ]
          go_wp2_with fail
          go_meet
          exact ⟨rfl, hq9⟩
  obtain ⟨rfl, hb⟩ := hcut
  rename World => wx
  clear hsame1 hsame2 hsame3 hsame4 hsame5 hsame6 hval1 hval2 hlt7 hcase8
  clear hkM
  clear hkT
  clear hkU
  clear hkV
  clear hkX
  clear hkF
  clear hkG
  clear hkH
  clear hr3
  clear hr5
  clear hr6
  clear hr7
  clear hr8
  clear hr10
  clear hr11
  clear hr14
  clear hr15
  clear hr16
  replace hB := Lib.hid (bthen hB.out hb)
  replace hkL := Lib.hid (hkL.out.kept hb)
  replace hkC := Lib.hid (hkC.out.kept hb)
  replace hkN := Lib.hid (hkN.out.kept hb)
  replace hkD := Lib.hid (hkD.out.kept hb)
  replace hkE := Lib.hid (hkE.out.kept hb)
  replace hr1 := Lib.hid (hr1.out.kept hb)
  replace hrv1 := Lib.hid (hrv1.out.kept hb)
  replace hr2 := Lib.hid (hr2.out.kept hb)
  replace hr12 := Lib.hid (hr12.out.kept hb)
  replace hry12 := Lib.hid (hry12.out.kept hb)
  replace hr13 := Lib.hid (hr13.out.kept hb)
  have hltLwx := hkL.out.lt
  have hltCwx := hkC.out.lt
  have hltNwx := hkN.out.lt
  have hltDwx := hkD.out.lt
  have hltEwx := hkE.out.lt
  clear hb
  go_upto_if 208 with (fail)
  go_cut [] from 207 (fun w8 => Below wx.heap.size wx w8)
  case first =>
    have hB0 := Lib.hid (Below.refl wx.heap.size wx)
    as_aux_lemma =>
      by_cases hc0 : HC = 0
      · obtain ⟨kk, e1, e2, e3, e4⟩ := hch.out hc0
        subst hc0
        have hno := Lib.hid (fun (V : World) (h : RT V a12 xs12) => impl_ItemNamed WD12 a12 c12 xs12 nm V h hs12 hcap12 (by omega))
        rw [e1, e2] at hno
        have hrb := Lib.hid (fun (V : World) (h1 : RT V a12 xs12) (h2 : RI V b12 ys12) (h3 : Pow10 V) => impl_RecordOf WD12 a12 c12 xs12 b12 d12 ys12 V h1 h2 hs12 hcap12 hyb12 hcy12 h3)
        have hra := Lib.hid (fun (V : World) (h1 : RT V a12 xs12) (h2 : RI V a13 HL) (h3 : Pow10 V) => impl_RecordOf WD12 a12 c12 xs12 a13 c13 HL V h1 h2 hs12 hcap12 hchl hcap13 h3)
        have hl1 := recR_len WD12 xs12 ys12 hs12
        have hl2 := recR_len WD12 xs12 HL hs12
        generalize recCode WD12 xs12 ys12 = RB at *
        generalize recR WD12 xs12 ys12 = R1 at *
        generalize recCode WD12 xs12 HL = RA at *
        generalize recR WD12 xs12 HL = R2 at *
        replace e4 := Lib.hid e4
        clear e1 e2
        obtain ⟨cN_0, cN_1, fN_0, fN_1⟩ := hkN.out.two
        obtain ⟨cD_0, fD_0⟩ := hkD.out.one
        go_wp2_with fail
        clear cN_0 cN_1 fN_0 fN_1 cD_0 fD_0
        refine (hrb.out _ hr12.out hry12.out (pow_kept ht.out (bthen hB.out hB0.out))).mono ?_
        rintro e v29 ⟨a20, c20, rfl, ho, hb⟩
        replace hB0 := Lib.hid (bthen hB0.out hb)
        replace hkL := Lib.hid (hkL.out.kept hb)
        replace hkC := Lib.hid (hkC.out.kept hb)
        replace hkN := Lib.hid (hkN.out.kept hb)
        replace hkD := Lib.hid (hkD.out.kept hb)
        replace hkE := Lib.hid (hkE.out.kept hb)
        replace hr1 := Lib.hid (hr1.out.kept hb)
        replace hrv1 := Lib.hid (hrv1.out.kept hb)
        replace hr2 := Lib.hid (hr2.out.kept hb)
        replace hr12 := Lib.hid (hr12.out.kept hb)
        replace hry12 := Lib.hid (hry12.out.kept hb)
        replace hr13 := Lib.hid (hr13.out.kept hb)
        have hr20 := Lib.hid (show RS _ a20 R1 from OV.row (OV.of ho))
        clear ho
        have hltLv29 := hkL.out.lt
        have hltCv29 := hkC.out.lt
        have hltNv29 := hkN.out.lt
        have hltDv29 := hkD.out.lt
        have hltEv29 := hkE.out.lt
        clear hb
        obtain ⟨cN_0, cN_1, fN_0, fN_1⟩ := hkN.out.two
        obtain ⟨cE_0, fE_0⟩ := hkE.out.one
        go_wp2_with fail
        clear cN_0 cN_1 fN_0 fN_1 cE_0 fE_0
        refine (hra.out _ hr12.out hr13.out (pow_kept ht.out (bthen hB.out hB0.out))).mono ?_
        rintro e v30 ⟨a21, c21, rfl, ho, hb⟩
        replace hB0 := Lib.hid (bthen hB0.out hb)
        replace hkL := Lib.hid (hkL.out.kept hb)
        replace hkC := Lib.hid (hkC.out.kept hb)
        replace hkN := Lib.hid (hkN.out.kept hb)
        replace hkD := Lib.hid (hkD.out.kept hb)
        replace hkE := Lib.hid (hkE.out.kept hb)
        replace hr1 := Lib.hid (hr1.out.kept hb)
        replace hrv1 := Lib.hid (hrv1.out.kept hb)
        replace hr2 := Lib.hid (hr2.out.kept hb)
        replace hr12 := Lib.hid (hr12.out.kept hb)
        replace hry12 := Lib.hid (hry12.out.kept hb)
        replace hr13 := Lib.hid (hr13.out.kept hb)
        replace hr20 := Lib.hid (hr20.out.kept hb)
        have hr21 := Lib.hid (show RS _ a21 R2 from OV.row (OV.of ho))
        clear ho
        have hltLv30 := hkL.out.lt
        have hltCv30 := hkC.out.lt
        have hltNv30 := hkN.out.lt
        have hltDv30 := hkD.out.lt
        have hltEv30 := hkE.out.lt
        clear hb
        obtain ⟨cN_0, cN_1, fN_0, fN_1⟩ := hkN.out.two
        go_wp2_with fail
        clear cN_0 cN_1 fN_0 fN_1
        refine (hno.out _ hr12.out).mono ?_
        rintro e v31 ⟨rfl, hb⟩
        replace hB0 := Lib.hid (bthen hB0.out hb)
        replace hkL := Lib.hid (hkL.out.kept hb)
        replace hkC := Lib.hid (hkC.out.kept hb)
        replace hkN := Lib.hid (hkN.out.kept hb)
        replace hkD := Lib.hid (hkD.out.kept hb)
        replace hkE := Lib.hid (hkE.out.kept hb)
        replace hr1 := Lib.hid (hr1.out.kept hb)
        replace hrv1 := Lib.hid (hrv1.out.kept hb)
        replace hr2 := Lib.hid (hr2.out.kept hb)
        replace hr12 := Lib.hid (hr12.out.kept hb)
        replace hry12 := Lib.hid (hry12.out.kept hb)
        replace hr13 := Lib.hid (hr13.out.kept hb)
        replace hr20 := Lib.hid (hr20.out.kept hb)
        replace hr21 := Lib.hid (hr21.out.kept hb)
        have hltLv31 := hkL.out.lt
        have hltCv31 := hkC.out.lt
        have hltNv31 := hkN.out.lt
        have hltDv31 := hkD.out.lt
        have hltEv31 := hkE.out.lt
        clear hb
        clear hno hrb hra
        by_cases hb0 : RB = 0
        · obtain ⟨e5, e6, e7, e8⟩ := e4.out hb0
          subst hb0
          subst e5
          
          replace e8 := Lib.hid e8
          rw [e6, e7]
          replace e6 := Lib.hid e6
          replace e7 := Lib.hid e7
          clear e4 hl1 hl2
          have hnb : xs12.length ≤ 1048576 := Nat.le_trans (itemsSz_len xs12) hs12
          generalize hN : xs12.length = n at *
          replace hN := Lib.hid hN
          obtain ⟨cN_0, cN_1, fN_0, fN_1⟩ := hkN.out.two
          go_wp2_with fail
          clear cN_0 cN_1 fN_0 fN_1
          go_loopw [40] (fun i wr => ∃ k : Nat, k ≤ n ∧ i = .int .i64 k ∧ Below v31.heap.size v31 wr) (fun i _ => n - (intOf i).toNat)
          case atStart => exact ⟨0, by omega, rfl, Below.refl _ _⟩
          case round =>
            obtain ⟨k, hk, rfl, hb⟩ := hrel
            try clear hxl
            try clear hd
            try clear hc
            try clear hl0
            try clear hrC
            try clear hww
            try clear hP1
            try clear htz1
            try clear hs1
            try clear hA
            try clear hqL
            try clear hltLv2
            try clear ho
            try clear hcap2
            try clear hltLv3
            try clear hqC
            try clear hltLv4
            try clear hltCv4
            try clear hcap3
            try clear hltLv5
            try clear hltCv5
            try clear hqM
            try clear hltLv6
            try clear hltCv6
            try clear hltMv6
            try clear hP4
            try clear hcap4
            try clear hcy4
            try clear hy21
            try clear hs4
            try clear hyb4
            try clear hltLv7
            try clear hltCv7
            try clear hltMv7
            try clear hqR
            try clear hqK
            try clear hltLv8
            try clear hltCv8
            try clear hltMv8
            try clear hltRv8
            try clear hltKv8
            try clear hltLv9
            try clear hltCv9
            try clear hltMv9
            try clear hltRv9
            try clear hltKv9
            try clear hltLv10
            try clear hltCv10
            try clear hltMv10
            try clear hltRv10
            try clear hltKv10
            try clear hl4
            try clear hP7
            try clear hcap7
            try clear hltLv11
            try clear hltCv11
            try clear hltMv11
            try clear hqT
            try clear hltLv12
            try clear hltCv12
            try clear hltMv12
            try clear hltTv12
            try clear hltLv13
            try clear hltCv13
            try clear hltMv13
            try clear hltTv13
            try clear hsz8
            try clear hrl7
            try clear hcap8
            try clear hltLv14
            try clear hltCv14
            try clear hltMv14
            try clear hltTv14
            try clear hqU
            try clear hltLv15
            try clear hltCv15
            try clear hltMv15
            try clear hltTv15
            try clear hltUv15
            try clear hs9
            try clear hltLv16
            try clear hltCv16
            try clear hltMv16
            try clear hltTv16
            try clear hltUv16
            try clear hz9
            try clear hri
            try clear hrs
            try clear hs10
            try clear hcap10
            try clear hltLv17
            try clear hltCv17
            try clear hltMv17
            try clear hltTv17
            try clear hltUv17
            try clear hqV
            try clear hltLv18
            try clear hltCv18
            try clear hltMv18
            try clear hltTv18
            try clear hltUv18
            try clear hltVv18
            try clear hcap11
            try clear hltLv19
            try clear hltCv19
            try clear hltMv19
            try clear hltTv19
            try clear hltUv19
            try clear hltVv19
            try clear hqX
            try clear hltLv20
            try clear hltCv20
            try clear hltMv20
            try clear hltTv20
            try clear hltUv20
            try clear hltVv20
            try clear hltXv20
            try clear hP12
            try clear hcap12
            try clear hcy12
            try clear hy21b
            try clear hnm24
            try clear hv24
            try clear hs12
            try clear hyb12
            try clear hltLv21
            try clear hltCv21
            try clear hltMv21
            try clear hltTv21
            try clear hltUv21
            try clear hltVv21
            try clear hltXv21
            try clear hqN
            try clear hqD
            try clear hltLv22
            try clear hltCv22
            try clear hltMv22
            try clear hltTv22
            try clear hltUv22
            try clear hltVv22
            try clear hltXv22
            try clear hltNv22
            try clear hltDv22
            try clear hcap13
            try clear hltLv23
            try clear hltCv23
            try clear hltMv23
            try clear hltTv23
            try clear hltUv23
            try clear hltVv23
            try clear hltXv23
            try clear hltNv23
            try clear hltDv23
            try clear hch
            try clear hchl
            try clear hqE
            try clear hltLv24
            try clear hltCv24
            try clear hltMv24
            try clear hltTv24
            try clear hltUv24
            try clear hltVv24
            try clear hltXv24
            try clear hltNv24
            try clear hltDv24
            try clear hltEv24
            try clear hcap14
            try clear hltLv25
            try clear hltCv25
            try clear hltMv25
            try clear hltTv25
            try clear hltUv25
            try clear hltVv25
            try clear hltXv25
            try clear hltNv25
            try clear hltDv25
            try clear hltEv25
            try clear hqF
            try clear hltLv26
            try clear hltCv26
            try clear hltMv26
            try clear hltTv26
            try clear hltUv26
            try clear hltVv26
            try clear hltXv26
            try clear hltNv26
            try clear hltDv26
            try clear hltEv26
            try clear hltFv26
            try clear hP15
            try clear hcap15
            try clear hP16
            try clear hcap16
            try clear hs15
            try clear hs16
            try clear hltLv27
            try clear hltCv27
            try clear hltMv27
            try clear hltTv27
            try clear hltUv27
            try clear hltVv27
            try clear hltXv27
            try clear hltNv27
            try clear hltDv27
            try clear hltEv27
            try clear hltFv27
            try clear hcf
            try clear hcl
            try clear hlm4
            try clear hcm
            try clear hhm
            try clear hqG
            try clear hqH
            try clear hltLv28
            try clear hltCv28
            try clear hltMv28
            try clear hltTv28
            try clear hltUv28
            try clear hltVv28
            try clear hltXv28
            try clear hltNv28
            try clear hltDv28
            try clear hltEv28
            try clear hltFv28
            try clear hltGv28
            try clear hltHv28
            replace hB0 := Lib.hid (bthen hB0.out hb)
            replace hkL := Lib.hid (hkL.out.kept hb)
            replace hkC := Lib.hid (hkC.out.kept hb)
            replace hkN := Lib.hid (hkN.out.kept hb)
            replace hkD := Lib.hid (hkD.out.kept hb)
            replace hkE := Lib.hid (hkE.out.kept hb)
            replace hr1 := Lib.hid (hr1.out.kept hb)
            replace hrv1 := Lib.hid (hrv1.out.kept hb)
            replace hr2 := Lib.hid (hr2.out.kept hb)
            replace hr12 := Lib.hid (hr12.out.kept hb)
            replace hry12 := Lib.hid (hry12.out.kept hb)
            replace hr13 := Lib.hid (hr13.out.kept hb)
            replace hr20 := Lib.hid (hr20.out.kept hb)
            replace hr21 := Lib.hid (hr21.out.kept hb)
            have hB1 := Lib.hid hb
            clear hb
            by_cases hlt : k < n
            · obtain ⟨s, hsk⟩ := get_some (l := R1) (k := k) (by rw [e6.out]; exact hlt)
              obtain ⟨t, htk⟩ := get_some (l := R2) (k := k) (by rw [e7.out]; exact hlt)
              have hst := e8.out k s t hsk htk
              obtain ⟨p1, o1, rfl, y1⟩ := hr20.out.at hsk
              obtain ⟨p2, o2, rfl, y2⟩ := hr21.out.at htk
              clear hsk htk
              have hlt' : (k : Int) < (n : Int) := by omega
              by_cases hkk : k = kk
              · obtain rfl := hst.1 hkk
                subst hkk
                clear hst
                obtain ⟨cN_0, cN_1, fN_0, fN_1⟩ := hkN.out.two
                go_upto_region 31 with (fail)
                as_aux_lemma =>
                  refine wp_region_seq (S := (fun V_ => V_.cell? ⟨v21.heap.size, 1, none⟩ = some (.slice a12 n c12) ∧ V_.cell? ⟨p2, o2 + k, none⟩ = some (.string t))) ORD2 (ops' := OPS2) (by kernel_rfl) (by kernel_rfl) ops2_noSelect ops2_size ops2_order ⟨keep (Below.refl _ _).drew cN_1, keep (Below.refl _ _).drew y2⟩ (fun hH => ?_)
                  unfold ORD2
                  clear cN_0 cN_1 fN_0 fN_1 y1 y2
                  refine wpSeq_take (i := 0) (oi := _) (v := ?vv112) rfl (fun _ _ _ h => h) (Or.inl ⟨by kernel_rfl, ?hy112⟩) hH ?tl112
                  case hy112 => intro w_ hSw; (try dsimp only at hSw); go_simp; (try with_reducible rfl)
                  try simp only [List.getElem_toArray, List.getElem_cons_succ, List.getElem_cons_zero, Act.put, List.setIfInBounds_toArray, List.set_cons_zero, List.set_cons_succ]
                  refine wpSeq_take (i := 1) (oi := _) (v := ?vv113) rfl (fun _ _ _ h => h) (Or.inl ⟨by kernel_rfl, ?hy113⟩) hH ?tl113
                  case hy113 => intro w_ hSw; (try dsimp only at hSw); go_simp; (try with_reducible rfl)
                  try simp only [List.getElem_toArray, List.getElem_cons_succ, List.getElem_cons_zero, Act.put, List.setIfInBounds_toArray, List.set_cons_zero, List.set_cons_succ]
                  refine wpSeq_take (i := 2) (oi := _) (v := ?vv114) rfl (fun _ _ _ h => h) (Or.inl ⟨by kernel_rfl, ?hy114⟩) hH ?tl114
                  case hy114 => intro w_ hSw; (try dsimp only at hSw); go_simp; (try with_reducible rfl)
                  try simp only [List.getElem_toArray, List.getElem_cons_succ, List.getElem_cons_zero, Act.put, List.setIfInBounds_toArray, List.set_cons_zero, List.set_cons_succ]
                  refine wpSeq_take (i := 3) (oi := _) (v := ?vv115) rfl (fun _ _ _ h => h) (Or.inl ⟨by kernel_rfl, ?hy115⟩) hH ?tl115
                  case hy115 => intro w_ hSw; (try dsimp only at hSw); go_simp; (try with_reducible rfl)
                  try simp only [List.getElem_toArray, List.getElem_cons_succ, List.getElem_cons_zero, Act.put, List.setIfInBounds_toArray, List.set_cons_zero, List.set_cons_succ]
                  refine wpSeq_take (i := 4) (oi := _) (v := ?vv116) rfl (fun _ _ _ h => h) (Or.inl ⟨by kernel_rfl, ?hy116⟩) hH ?tl116
                  case hy116 => intro w_ hSw; (try dsimp only at hSw); go_simp; (try with_reducible rfl)
                  try simp only [List.getElem_toArray, List.getElem_cons_succ, List.getElem_cons_zero, Act.put, List.setIfInBounds_toArray, List.set_cons_zero, List.set_cons_succ]
                  refine wpSeq_take (i := 5) (oi := _) (v := ?vv117) rfl (fun _ _ _ h => h) (Or.inl ⟨by kernel_rfl, ?hy117⟩) hH ?tl117
                  case hy117 => intro w_ hSw; (try dsimp only at hSw); go_simp; (try with_reducible rfl)
                  try simp only [List.getElem_toArray, List.getElem_cons_succ, List.getElem_cons_zero, Act.put, List.setIfInBounds_toArray, List.set_cons_zero, List.set_cons_succ]
                  refine wpSeq_take (i := 6) (oi := _) (v := ?vv118) rfl (fun _ _ _ h => h) (Or.inl ⟨by kernel_rfl, ?hy118⟩) hH ?tl118
                  case hy118 => intro w_ hSw; (try dsimp only at hSw); go_simp; (try with_reducible rfl)
                  try simp only [List.getElem_toArray, List.getElem_cons_succ, List.getElem_cons_zero, Act.put, List.setIfInBounds_toArray, List.set_cons_zero, List.set_cons_succ]
                  refine wpSeq_take (i := 7) (oi := _) (v := ?vv119) rfl (fun _ _ _ h => h) (Or.inl ⟨by kernel_rfl, ?hy119⟩) hH ?tl119
                  case hy119 => intro w_ hSw; (try dsimp only at hSw); go_simp; (try with_reducible rfl)
                  try simp only [List.getElem_toArray, List.getElem_cons_succ, List.getElem_cons_zero, Act.put, List.setIfInBounds_toArray, List.set_cons_zero, List.set_cons_succ]
                  refine wpSeq_take (i := 8) (oi := _) (v := ?vv120) rfl (fun _ _ _ h => h) (Or.inl ⟨by kernel_rfl, ?hy120⟩) hH ?tl120
                  case hy120 => intro w_ hSw; (try dsimp only at hSw); go_simp; (try with_reducible rfl)
                  try simp only [List.getElem_toArray, List.getElem_cons_succ, List.getElem_cons_zero, Act.put, List.setIfInBounds_toArray, List.set_cons_zero, List.set_cons_succ]
                  refine wpSeq_take (i := 9) (oi := _) (v := ?vv121) rfl (fun _ _ _ h => h) (Or.inl ⟨by kernel_rfl, ?hy121⟩) hH ?tl121
                  case hy121 => intro w_ hSw; (try dsimp only at hSw); go_simp; (try with_reducible rfl)
                  try simp only [List.getElem_toArray, List.getElem_cons_succ, List.getElem_cons_zero, Act.put, List.setIfInBounds_toArray, List.set_cons_zero, List.set_cons_succ]
                  refine wpSeq_take (i := 10) (oi := _) (v := ?vv122) rfl (fun _ _ _ h => h) (Or.inl ⟨by kernel_rfl, ?hy122⟩) hH ?tl122
                  case hy122 => intro w_ hSw; (try dsimp only at hSw); go_simp; (try with_reducible rfl)
                  try simp only [List.getElem_toArray, List.getElem_cons_succ, List.getElem_cons_zero, Act.put, List.setIfInBounds_toArray, List.set_cons_zero, List.set_cons_succ]
                  refine wpSeq_take (i := 11) (oi := _) (v := ?vv123) rfl (fun _ _ _ h => h) (Or.inl ⟨by kernel_rfl, ?hy123⟩) hH ?tl123
                  case hy123 => intro w_ hSw; (try dsimp only at hSw); go_simp; (try with_reducible rfl)
                  try simp only [List.getElem_toArray, List.getElem_cons_succ, List.getElem_cons_zero, Act.put, List.setIfInBounds_toArray, List.set_cons_zero, List.set_cons_succ]
                  refine wpSeq_take (i := 12) (oi := _) (v := ?vv124) rfl (fun _ _ _ h => h) (Or.inl ⟨by kernel_rfl, ?hy124⟩) hH ?tl124
                  case hy124 => intro w_ hSw; (try dsimp only at hSw); go_simp; (try with_reducible rfl)
                  try simp only [List.getElem_toArray, List.getElem_cons_succ, List.getElem_cons_zero, Act.put, List.setIfInBounds_toArray, List.set_cons_zero, List.set_cons_succ]
                  refine wpSeq_take (i := 13) (oi := _) (v := ?vv125) rfl (fun _ _ _ h => h) (Or.inl ⟨by kernel_rfl, ?hy125⟩) hH ?tl125
                  case hy125 => intro w_ hSw; (try dsimp only at hSw); go_simp; (try with_reducible rfl)
                  try simp only [List.getElem_toArray, List.getElem_cons_succ, List.getElem_cons_zero, Act.put, List.setIfInBounds_toArray, List.set_cons_zero, List.set_cons_succ]
                  refine wpSeq_take (i := 14) (oi := _) (v := ?vv126) rfl (fun _ _ _ h => h) (Or.inl ⟨by kernel_rfl, ?hy126⟩) hH ?tl126
                  case hy126 => intro w_ hSw; (try dsimp only at hSw); go_simp; (try with_reducible rfl)
                  try simp only [List.getElem_toArray, List.getElem_cons_succ, List.getElem_cons_zero, Act.put, List.setIfInBounds_toArray, List.set_cons_zero, List.set_cons_succ]
                  refine wpSeq_take (i := 15) (oi := _) (v := ?vv127) rfl (fun _ _ _ h => h) (Or.inl ⟨by kernel_rfl, ?hy127⟩) hH ?tl127
                  case hy127 => intro w_ hSw; (try dsimp only at hSw); go_simp; (try with_reducible rfl)
                  try simp only [List.getElem_toArray, List.getElem_cons_succ, List.getElem_cons_zero, Act.put, List.setIfInBounds_toArray, List.set_cons_zero, List.set_cons_succ]
                  refine wpSeq_take (i := 16) (oi := _) (v := ?vv128) rfl (fun _ _ _ h => h) (Or.inl ⟨by kernel_rfl, ?hy128⟩) hH ?tl128
                  case hy128 => intro w_ hSw; (try dsimp only at hSw); go_simp; (try with_reducible rfl)
                  try simp only [List.getElem_toArray, List.getElem_cons_succ, List.getElem_cons_zero, Act.put, List.setIfInBounds_toArray, List.set_cons_zero, List.set_cons_succ]
                  refine wpSeq_take (i := 17) (oi := _) (v := ?vv129) rfl (fun _ _ _ h => h) (Or.inl ⟨by kernel_rfl, ?hy129⟩) hH ?tl129
                  case hy129 => intro w_ hSw; (try dsimp only at hSw); go_simp; (try with_reducible rfl)
                  try simp only [List.getElem_toArray, List.getElem_cons_succ, List.getElem_cons_zero, Act.put, List.setIfInBounds_toArray, List.set_cons_zero, List.set_cons_succ]
                  refine wpSeq_take (i := 18) (oi := _) (v := ?vv130) rfl (fun _ _ _ h => h) (Or.inl ⟨by kernel_rfl, ?hy130⟩) hH ?tl130
                  case hy130 => intro w_ hSw; (try dsimp only at hSw); go_simp; (try with_reducible rfl)
                  try simp only [List.getElem_toArray, List.getElem_cons_succ, List.getElem_cons_zero, Act.put, List.setIfInBounds_toArray, List.set_cons_zero, List.set_cons_succ]
                  refine wpSeq_take (i := 19) (oi := _) (v := ?vv131) rfl (fun _ _ _ h => h) (Or.inl ⟨by kernel_rfl, ?hy131⟩) hH ?tl131
                  case hy131 => intro w_ hSw; (try dsimp only at hSw); go_simp; (try with_reducible rfl)
                  try simp only [List.getElem_toArray, List.getElem_cons_succ, List.getElem_cons_zero, Act.put, List.setIfInBounds_toArray, List.set_cons_zero, List.set_cons_succ]
                  refine wpSeq_take (i := 20) (oi := _) (v := ?vv132) rfl (fun _ _ _ h => h) (Or.inl ⟨by kernel_rfl, ?hy132⟩) hH ?tl132
                  case hy132 => intro w_ hSw; (try dsimp only at hSw); go_simp; (try with_reducible rfl)
                  try simp only [List.getElem_toArray, List.getElem_cons_succ, List.getElem_cons_zero, Act.put, List.setIfInBounds_toArray, List.set_cons_zero, List.set_cons_succ]
                  refine wpSeq_take (i := 21) (oi := _) (v := ?vv133) rfl (fun _ _ _ h => h) (Or.inl ⟨by kernel_rfl, ?hy133⟩) hH ?tl133
                  case hy133 => intro w_ hSw; (try dsimp only at hSw); go_simp; (try with_reducible rfl)
                  try simp only [List.getElem_toArray, List.getElem_cons_succ, List.getElem_cons_zero, Act.put, List.setIfInBounds_toArray, List.set_cons_zero, List.set_cons_succ]
                  refine wpSeq_take (i := 22) (oi := _) (v := ?vv134) rfl (fun _ _ _ h => h) (Or.inl ⟨by kernel_rfl, ?hy134⟩) hH ?tl134
                  case hy134 => intro w_ hSw; (try dsimp only at hSw); go_simp; (try with_reducible rfl)
                  try simp only [List.getElem_toArray, List.getElem_cons_succ, List.getElem_cons_zero, Act.put, List.setIfInBounds_toArray, List.set_cons_zero, List.set_cons_succ]
                  refine wpSeq_take (i := 23) (oi := _) (v := ?vv135) rfl (fun _ _ _ h => h) (Or.inl ⟨by kernel_rfl, ?hy135⟩) hH ?tl135
                  case hy135 => intro w_ hSw; (try dsimp only at hSw); go_simp; (try with_reducible rfl)
                  try simp only [List.getElem_toArray, List.getElem_cons_succ, List.getElem_cons_zero, Act.put, List.setIfInBounds_toArray, List.set_cons_zero, List.set_cons_succ]
                  refine wpSeq_take (i := 24) (oi := _) (v := ?vv136) rfl (fun _ _ _ h => h) (Or.inl ⟨by kernel_rfl, ?hy136⟩) hH ?tl136
                  case hy136 => intro w_ hSw; (try dsimp only at hSw); go_simp; (try with_reducible rfl)
                  try simp only [List.getElem_toArray, List.getElem_cons_succ, List.getElem_cons_zero, Act.put, List.setIfInBounds_toArray, List.set_cons_zero, List.set_cons_succ]
                  refine wpSeq_take (i := 25) (oi := _) (v := ?vv137) rfl (fun _ _ _ h => h) (Or.inl ⟨by kernel_rfl, ?hy137⟩) hH ?tl137
                  case hy137 => intro w_ hSw; (try dsimp only at hSw); go_simp; (try with_reducible rfl)
                  try simp only [List.getElem_toArray, List.getElem_cons_succ, List.getElem_cons_zero, Act.put, List.setIfInBounds_toArray, List.set_cons_zero, List.set_cons_succ]
                  refine wpSeq_take (i := 26) (oi := _) (v := ?vv138) rfl (fun _ _ _ h => h) (Or.inl ⟨by kernel_rfl, ?hy138⟩) hH ?tl138
                  case hy138 => intro w_ hSw; (try dsimp only at hSw); go_simp; (try with_reducible rfl)
                  try simp only [List.getElem_toArray, List.getElem_cons_succ, List.getElem_cons_zero, Act.put, List.setIfInBounds_toArray, List.set_cons_zero, List.set_cons_succ]
                  refine wpSeq_take (i := 27) (oi := _) (v := ?vv139) rfl (fun _ _ _ h => h) (Or.inl ⟨by kernel_rfl, ?hy139⟩) hH ?tl139
                  case hy139 => intro w_ hSw; (try dsimp only at hSw); go_simp; (try with_reducible rfl)
                  try simp only [List.getElem_toArray, List.getElem_cons_succ, List.getElem_cons_zero, Act.put, List.setIfInBounds_toArray, List.set_cons_zero, List.set_cons_succ]
                  refine wpSeq_take (i := 28) (oi := _) (v := ?vv140) rfl (fun _ _ _ h => h) (Or.inl ⟨by kernel_rfl, ?hy140⟩) hH ?tl140
                  case hy140 => intro w_ hSw; (try dsimp only at hSw); go_simp; (try with_reducible rfl)
                  try simp only [List.getElem_toArray, List.getElem_cons_succ, List.getElem_cons_zero, Act.put, List.setIfInBounds_toArray, List.set_cons_zero, List.set_cons_succ]
                  refine wpSeq_take (i := 29) (oi := _) (v := ?vv141) rfl (fun _ _ _ h => h) (Or.inl ⟨by kernel_rfl, ?hy141⟩) hH ?tl141
                  case hy141 => intro w_ hSw; (try dsimp only at hSw); go_simp; (try with_reducible rfl)
                  try simp only [List.getElem_toArray, List.getElem_cons_succ, List.getElem_cons_zero, Act.put, List.setIfInBounds_toArray, List.set_cons_zero, List.set_cons_succ]
                  refine wpSeq_take (i := 30) (oi := _) (v := ?vv142) rfl (fun _ _ _ h => h) (Or.inl ⟨by kernel_rfl, ?hy142⟩) hH ?tl142
                  case hy142 => intro w_ hSw; (try dsimp only at hSw); go_simp; (try with_reducible rfl)
                  try simp only [List.getElem_toArray, List.getElem_cons_succ, List.getElem_cons_zero, Act.put, List.setIfInBounds_toArray, List.set_cons_zero, List.set_cons_succ]
                  refine wpSeq_take (i := 31) (oi := _) (v := ?vv143) rfl (fun _ _ _ h => h) (Or.inl ⟨by kernel_rfl, ?hy143⟩) hH ?tl143
                  case hy143 => intro w_ hSw; (try dsimp only at hSw); go_simp; (try with_reducible rfl)
                  try simp only [List.getElem_toArray, List.getElem_cons_succ, List.getElem_cons_zero, Act.put, List.setIfInBounds_toArray, List.set_cons_zero, List.set_cons_succ]
                  refine wpSeq_take (i := 32) (oi := _) (v := undef) rfl (fun _ _ _ h => h) (Or.inr ⟨by kernel_rfl, rfl⟩) hH ?_
                  try simp only [List.getElem_toArray, List.getElem_cons_succ, List.getElem_cons_zero, Act.put, List.setIfInBounds_toArray, List.set_cons_zero, List.set_cons_succ]
                  refine wpSeq_take (i := 33) (oi := _) (v := undef) rfl (fun _ _ _ h => h) (Or.inr ⟨by kernel_rfl, rfl⟩) hH ?_
                  try simp only [List.getElem_toArray, List.getElem_cons_succ, List.getElem_cons_zero, Act.put, List.setIfInBounds_toArray, List.set_cons_zero, List.set_cons_succ]
                  refine wpSeq_take (i := 34) (oi := _) (v := undef) rfl (fun _ _ _ h => h) (Or.inr ⟨by kernel_rfl, rfl⟩) hH ?_
                  try simp only [List.getElem_toArray, List.getElem_cons_succ, List.getElem_cons_zero, Act.put, List.setIfInBounds_toArray, List.set_cons_zero, List.set_cons_succ]
                  refine wpSeq_take (i := 35) (oi := _) (v := undef) rfl (fun _ _ _ h => h) (Or.inr ⟨by kernel_rfl, rfl⟩) hH ?_
                  try simp only [List.getElem_toArray, List.getElem_cons_succ, List.getElem_cons_zero, Act.put, List.setIfInBounds_toArray, List.set_cons_zero, List.set_cons_succ]
                  refine wpSeq_take (i := 36) (oi := _) (v := undef) rfl (fun _ _ _ h => h) (Or.inr ⟨by kernel_rfl, rfl⟩) hH ?_
                  try simp only [List.getElem_toArray, List.getElem_cons_succ, List.getElem_cons_zero, Act.put, List.setIfInBounds_toArray, List.set_cons_zero, List.set_cons_succ]
                  refine wpSeq_take (i := 37) (oi := _) (v := undef) rfl (fun _ _ _ h => h) (Or.inr ⟨by kernel_rfl, rfl⟩) hH ?_
                  try simp only [List.getElem_toArray, List.getElem_cons_succ, List.getElem_cons_zero, Act.put, List.setIfInBounds_toArray, List.set_cons_zero, List.set_cons_succ]
                  refine wpSeq_take (i := 38) (oi := _) (v := undef) rfl (fun _ _ _ h => h) (Or.inr ⟨by kernel_rfl, rfl⟩) hH ?_
                  try simp only [List.getElem_toArray, List.getElem_cons_succ, List.getElem_cons_zero, Act.put, List.setIfInBounds_toArray, List.set_cons_zero, List.set_cons_succ]
                  refine wpSeq_take (i := 39) (oi := _) (v := undef) rfl (fun _ _ _ h => h) (Or.inr ⟨by kernel_rfl, rfl⟩) hH ?_
                  try simp only [List.getElem_toArray, List.getElem_cons_succ, List.getElem_cons_zero, Act.put, List.setIfInBounds_toArray, List.set_cons_zero, List.set_cons_succ]
                  refine wpSeq_take (i := 40) (oi := _) (v := undef) rfl (fun _ _ _ h => h) (Or.inr ⟨by kernel_rfl, rfl⟩) hH ?_
                  try simp only [List.getElem_toArray, List.getElem_cons_succ, List.getElem_cons_zero, Act.put, List.setIfInBounds_toArray, List.set_cons_zero, List.set_cons_succ]
                  refine wpSeq_take (i := 41) (oi := _) (v := ?vv144) rfl (fun _ _ _ h => h) (Or.inl ⟨by kernel_rfl, ?hy144⟩) hH ?tl144
                  case hy144 => intro w_ hSw; (try dsimp only at hSw); go_simp; (try with_reducible rfl)
                  try simp only [List.getElem_toArray, List.getElem_cons_succ, List.getElem_cons_zero, Act.put, List.setIfInBounds_toArray, List.set_cons_zero, List.set_cons_succ]
                  refine wpSeq_take (i := 42) (oi := _) (v := ?vv145) rfl (fun _ _ _ h => h) (Or.inl ⟨by kernel_rfl, ?hy145⟩) hH ?tl145
                  case hy145 => intro w_ hSw; (try dsimp only at hSw); go_simp; (try with_reducible rfl)
                  try simp only [List.getElem_toArray, List.getElem_cons_succ, List.getElem_cons_zero, Act.put, List.setIfInBounds_toArray, List.set_cons_zero, List.set_cons_succ]
                  refine wpSeq_done ?_
                  try simp only [List.getElem_toArray, List.getElem_cons_succ, List.getElem_cons_zero, Act.put, List.setIfInBounds_toArray, List.set_cons_zero, List.set_cons_succ]
                  go_wp2_with fail
                  go_roundw
                  case rel => exact ⟨k + 1, by omega, by go_num, hB1.out.drew⟩
                  case measure => simp [intOf]; omega
              · obtain rfl := hst.2 hkk
                clear hst
                have hki : ¬ (k : Int) = (kk : Int) := by omega
                have hkb : ((k : Int) == (kk : Int)) = false := by simp; omega
                have hkc : ((k : Int) != (kk : Int)) = true := by rw [bne_iff_ne]; exact hki
                have hkd : decide ((k : Int) = (kk : Int)) = false := decide_eq_false hki
                obtain ⟨cN_0, cN_1, fN_0, fN_1⟩ := hkN.out.two
                go_upto_region 31 with (fail)
                as_aux_lemma =>
                  refine wp_region_seq (S := (fun V_ => V_.cell? ⟨v21.heap.size, 1, none⟩ = some (.slice a12 n c12) ∧ V_.cell? ⟨p2, o2 + k, none⟩ = some (.string t) ∧ V_.cell? ⟨p1, o1 + k, none⟩ = some (.string t))) ORD2 (ops' := OPS2) (by kernel_rfl) (by kernel_rfl) ops2_noSelect ops2_size ops2_order ⟨keep (Below.refl _ _).drew cN_1, keep (Below.refl _ _).drew y2, keep (Below.refl _ _).drew y1⟩ (fun hH => ?_)
                  unfold ORD2
                  clear cN_0 cN_1 fN_0 fN_1 y1 y2
                  refine wpSeq_take (i := 0) (oi := _) (v := ?vv146) rfl (fun _ _ _ h => h) (Or.inl ⟨by kernel_rfl, ?hy146⟩) hH ?tl146
                  case hy146 => intro w_ hSw; (try dsimp only at hSw); go_simp; (try with_reducible rfl)
                  try simp only [List.getElem_toArray, List.getElem_cons_succ, List.getElem_cons_zero, Act.put, List.setIfInBounds_toArray, List.set_cons_zero, List.set_cons_succ]
                  refine wpSeq_take (i := 1) (oi := _) (v := ?vv147) rfl (fun _ _ _ h => h) (Or.inl ⟨by kernel_rfl, ?hy147⟩) hH ?tl147
                  case hy147 => intro w_ hSw; (try dsimp only at hSw); go_simp; (try with_reducible rfl)
                  try simp only [List.getElem_toArray, List.getElem_cons_succ, List.getElem_cons_zero, Act.put, List.setIfInBounds_toArray, List.set_cons_zero, List.set_cons_succ]
                  refine wpSeq_take (i := 2) (oi := _) (v := ?vv148) rfl (fun _ _ _ h => h) (Or.inl ⟨by kernel_rfl, ?hy148⟩) hH ?tl148
                  case hy148 => intro w_ hSw; (try dsimp only at hSw); go_simp; (try with_reducible rfl)
                  try simp only [List.getElem_toArray, List.getElem_cons_succ, List.getElem_cons_zero, Act.put, List.setIfInBounds_toArray, List.set_cons_zero, List.set_cons_succ]
                  refine wpSeq_take (i := 3) (oi := _) (v := ?vv149) rfl (fun _ _ _ h => h) (Or.inl ⟨by kernel_rfl, ?hy149⟩) hH ?tl149
                  case hy149 => intro w_ hSw; (try dsimp only at hSw); go_simp; (try with_reducible rfl)
                  try simp only [List.getElem_toArray, List.getElem_cons_succ, List.getElem_cons_zero, Act.put, List.setIfInBounds_toArray, List.set_cons_zero, List.set_cons_succ]
                  refine wpSeq_take (i := 4) (oi := _) (v := ?vv150) rfl (fun _ _ _ h => h) (Or.inl ⟨by kernel_rfl, ?hy150⟩) hH ?tl150
                  case hy150 => intro w_ hSw; (try dsimp only at hSw); go_simp; (try with_reducible rfl)
                  try simp only [List.getElem_toArray, List.getElem_cons_succ, List.getElem_cons_zero, Act.put, List.setIfInBounds_toArray, List.set_cons_zero, List.set_cons_succ]
                  refine wpSeq_take (i := 5) (oi := _) (v := ?vv151) rfl (fun _ _ _ h => h) (Or.inl ⟨by kernel_rfl, ?hy151⟩) hH ?tl151
                  case hy151 => intro w_ hSw; (try dsimp only at hSw); go_simp; (try with_reducible rfl)
                  try simp only [List.getElem_toArray, List.getElem_cons_succ, List.getElem_cons_zero, Act.put, List.setIfInBounds_toArray, List.set_cons_zero, List.set_cons_succ]
                  refine wpSeq_take (i := 6) (oi := _) (v := ?vv152) rfl (fun _ _ _ h => h) (Or.inl ⟨by kernel_rfl, ?hy152⟩) hH ?tl152
                  case hy152 => intro w_ hSw; (try dsimp only at hSw); go_simp; (try with_reducible rfl)
                  try simp only [List.getElem_toArray, List.getElem_cons_succ, List.getElem_cons_zero, Act.put, List.setIfInBounds_toArray, List.set_cons_zero, List.set_cons_succ]
                  refine wpSeq_take (i := 7) (oi := _) (v := ?vv153) rfl (fun _ _ _ h => h) (Or.inl ⟨by kernel_rfl, ?hy153⟩) hH ?tl153
                  case hy153 => intro w_ hSw; (try dsimp only at hSw); go_simp; (try with_reducible rfl)
                  try simp only [List.getElem_toArray, List.getElem_cons_succ, List.getElem_cons_zero, Act.put, List.setIfInBounds_toArray, List.set_cons_zero, List.set_cons_succ]
                  refine wpSeq_take (i := 8) (oi := _) (v := ?vv154) rfl (fun _ _ _ h => h) (Or.inl ⟨by kernel_rfl, ?hy154⟩) hH ?tl154
                  case hy154 => intro w_ hSw; (try dsimp only at hSw); go_simp; (try with_reducible rfl)
                  try simp only [List.getElem_toArray, List.getElem_cons_succ, List.getElem_cons_zero, Act.put, List.setIfInBounds_toArray, List.set_cons_zero, List.set_cons_succ]
                  refine wpSeq_take (i := 9) (oi := _) (v := ?vv155) rfl (fun _ _ _ h => h) (Or.inl ⟨by kernel_rfl, ?hy155⟩) hH ?tl155
                  case hy155 => intro w_ hSw; (try dsimp only at hSw); go_simp; (try with_reducible rfl)
                  try simp only [List.getElem_toArray, List.getElem_cons_succ, List.getElem_cons_zero, Act.put, List.setIfInBounds_toArray, List.set_cons_zero, List.set_cons_succ]
                  refine wpSeq_take (i := 10) (oi := _) (v := ?vv156) rfl (fun _ _ _ h => h) (Or.inl ⟨by kernel_rfl, ?hy156⟩) hH ?tl156
                  case hy156 => intro w_ hSw; (try dsimp only at hSw); go_simp; (try with_reducible rfl)
                  try simp only [List.getElem_toArray, List.getElem_cons_succ, List.getElem_cons_zero, Act.put, List.setIfInBounds_toArray, List.set_cons_zero, List.set_cons_succ]
                  refine wpSeq_take (i := 11) (oi := _) (v := ?vv157) rfl (fun _ _ _ h => h) (Or.inl ⟨by kernel_rfl, ?hy157⟩) hH ?tl157
                  case hy157 => intro w_ hSw; (try dsimp only at hSw); go_simp; (try with_reducible rfl)
                  try simp only [List.getElem_toArray, List.getElem_cons_succ, List.getElem_cons_zero, Act.put, List.setIfInBounds_toArray, List.set_cons_zero, List.set_cons_succ]
                  refine wpSeq_take (i := 12) (oi := _) (v := ?vv158) rfl (fun _ _ _ h => h) (Or.inl ⟨by kernel_rfl, ?hy158⟩) hH ?tl158
                  case hy158 => intro w_ hSw; (try dsimp only at hSw); go_simp; (try with_reducible rfl)
                  try simp only [List.getElem_toArray, List.getElem_cons_succ, List.getElem_cons_zero, Act.put, List.setIfInBounds_toArray, List.set_cons_zero, List.set_cons_succ]
                  refine wpSeq_take (i := 13) (oi := _) (v := ?vv159) rfl (fun _ _ _ h => h) (Or.inl ⟨by kernel_rfl, ?hy159⟩) hH ?tl159
                  case hy159 => intro w_ hSw; (try dsimp only at hSw); go_simp; (try with_reducible rfl)
                  try simp only [List.getElem_toArray, List.getElem_cons_succ, List.getElem_cons_zero, Act.put, List.setIfInBounds_toArray, List.set_cons_zero, List.set_cons_succ]
                  refine wpSeq_take (i := 14) (oi := _) (v := ?vv160) rfl (fun _ _ _ h => h) (Or.inl ⟨by kernel_rfl, ?hy160⟩) hH ?tl160
                  case hy160 => intro w_ hSw; (try dsimp only at hSw); go_simp; (try with_reducible rfl)
                  try simp only [List.getElem_toArray, List.getElem_cons_succ, List.getElem_cons_zero, Act.put, List.setIfInBounds_toArray, List.set_cons_zero, List.set_cons_succ]
                  refine wpSeq_take (i := 15) (oi := _) (v := ?vv161) rfl (fun _ _ _ h => h) (Or.inl ⟨by kernel_rfl, ?hy161⟩) hH ?tl161
                  case hy161 => intro w_ hSw; (try dsimp only at hSw); go_simp; (try with_reducible rfl)
                  try simp only [List.getElem_toArray, List.getElem_cons_succ, List.getElem_cons_zero, Act.put, List.setIfInBounds_toArray, List.set_cons_zero, List.set_cons_succ]
                  refine wpSeq_take (i := 16) (oi := _) (v := ?vv162) rfl (fun _ _ _ h => h) (Or.inl ⟨by kernel_rfl, ?hy162⟩) hH ?tl162
                  case hy162 => intro w_ hSw; (try dsimp only at hSw); go_simp; (try with_reducible rfl)
                  try simp only [List.getElem_toArray, List.getElem_cons_succ, List.getElem_cons_zero, Act.put, List.setIfInBounds_toArray, List.set_cons_zero, List.set_cons_succ]
                  refine wpSeq_take (i := 17) (oi := _) (v := ?vv163) rfl (fun _ _ _ h => h) (Or.inl ⟨by kernel_rfl, ?hy163⟩) hH ?tl163
                  case hy163 => intro w_ hSw; (try dsimp only at hSw); go_simp; (try with_reducible rfl)
                  try simp only [List.getElem_toArray, List.getElem_cons_succ, List.getElem_cons_zero, Act.put, List.setIfInBounds_toArray, List.set_cons_zero, List.set_cons_succ]
                  refine wpSeq_take (i := 18) (oi := _) (v := ?vv164) rfl (fun _ _ _ h => h) (Or.inl ⟨by kernel_rfl, ?hy164⟩) hH ?tl164
                  case hy164 => intro w_ hSw; (try dsimp only at hSw); go_simp; (try with_reducible rfl)
                  try simp only [List.getElem_toArray, List.getElem_cons_succ, List.getElem_cons_zero, Act.put, List.setIfInBounds_toArray, List.set_cons_zero, List.set_cons_succ]
                  refine wpSeq_take (i := 19) (oi := _) (v := undef) rfl (fun _ _ _ h => h) (Or.inr ⟨by kernel_rfl, rfl⟩) hH ?_
                  try simp only [List.getElem_toArray, List.getElem_cons_succ, List.getElem_cons_zero, Act.put, List.setIfInBounds_toArray, List.set_cons_zero, List.set_cons_succ]
                  refine wpSeq_take (i := 20) (oi := _) (v := undef) rfl (fun _ _ _ h => h) (Or.inr ⟨by kernel_rfl, rfl⟩) hH ?_
                  try simp only [List.getElem_toArray, List.getElem_cons_succ, List.getElem_cons_zero, Act.put, List.setIfInBounds_toArray, List.set_cons_zero, List.set_cons_succ]
                  refine wpSeq_take (i := 21) (oi := _) (v := undef) rfl (fun _ _ _ h => h) (Or.inr ⟨by kernel_rfl, rfl⟩) hH ?_
                  try simp only [List.getElem_toArray, List.getElem_cons_succ, List.getElem_cons_zero, Act.put, List.setIfInBounds_toArray, List.set_cons_zero, List.set_cons_succ]
                  refine wpSeq_take (i := 22) (oi := _) (v := undef) rfl (fun _ _ _ h => h) (Or.inr ⟨by kernel_rfl, rfl⟩) hH ?_
                  try simp only [List.getElem_toArray, List.getElem_cons_succ, List.getElem_cons_zero, Act.put, List.setIfInBounds_toArray, List.set_cons_zero, List.set_cons_succ]
                  refine wpSeq_take (i := 23) (oi := _) (v := undef) rfl (fun _ _ _ h => h) (Or.inr ⟨by kernel_rfl, rfl⟩) hH ?_
                  try simp only [List.getElem_toArray, List.getElem_cons_succ, List.getElem_cons_zero, Act.put, List.setIfInBounds_toArray, List.set_cons_zero, List.set_cons_succ]
                  refine wpSeq_take (i := 24) (oi := _) (v := undef) rfl (fun _ _ _ h => h) (Or.inr ⟨by kernel_rfl, rfl⟩) hH ?_
                  try simp only [List.getElem_toArray, List.getElem_cons_succ, List.getElem_cons_zero, Act.put, List.setIfInBounds_toArray, List.set_cons_zero, List.set_cons_succ]
                  refine wpSeq_take (i := 25) (oi := _) (v := ?vv165) rfl (fun _ _ _ h => h) (Or.inl ⟨by kernel_rfl, ?hy165⟩) hH ?tl165
                  case hy165 => intro w_ hSw; (try dsimp only at hSw); go_simp; (try with_reducible rfl)
                  try simp only [List.getElem_toArray, List.getElem_cons_succ, List.getElem_cons_zero, Act.put, List.setIfInBounds_toArray, List.set_cons_zero, List.set_cons_succ]
                  refine wpSeq_take (i := 26) (oi := _) (v := ?vv166) rfl (fun _ _ _ h => h) (Or.inl ⟨by kernel_rfl, ?hy166⟩) hH ?tl166
                  case hy166 => intro w_ hSw; (try dsimp only at hSw); go_simp; (try with_reducible rfl)
                  try simp only [List.getElem_toArray, List.getElem_cons_succ, List.getElem_cons_zero, Act.put, List.setIfInBounds_toArray, List.set_cons_zero, List.set_cons_succ]
                  refine wpSeq_take (i := 27) (oi := _) (v := ?vv167) rfl (fun _ _ _ h => h) (Or.inl ⟨by kernel_rfl, ?hy167⟩) hH ?tl167
                  case hy167 => intro w_ hSw; (try dsimp only at hSw); go_simp; (try with_reducible rfl)
                  try simp only [List.getElem_toArray, List.getElem_cons_succ, List.getElem_cons_zero, Act.put, List.setIfInBounds_toArray, List.set_cons_zero, List.set_cons_succ]
                  refine wpSeq_take (i := 28) (oi := _) (v := ?vv168) rfl (fun _ _ _ h => h) (Or.inl ⟨by kernel_rfl, ?hy168⟩) hH ?tl168
                  case hy168 => intro w_ hSw; (try dsimp only at hSw); go_simp; (try with_reducible rfl)
                  try simp only [List.getElem_toArray, List.getElem_cons_succ, List.getElem_cons_zero, Act.put, List.setIfInBounds_toArray, List.set_cons_zero, List.set_cons_succ]
                  refine wpSeq_take (i := 29) (oi := _) (v := ?vv169) rfl (fun _ _ _ h => h) (Or.inl ⟨by kernel_rfl, ?hy169⟩) hH ?tl169
                  case hy169 => intro w_ hSw; (try dsimp only at hSw); go_simp; (try with_reducible rfl)
                  try simp only [List.getElem_toArray, List.getElem_cons_succ, List.getElem_cons_zero, Act.put, List.setIfInBounds_toArray, List.set_cons_zero, List.set_cons_succ]
                  refine wpSeq_take (i := 30) (oi := _) (v := ?vv170) rfl (fun _ _ _ h => h) (Or.inl ⟨by kernel_rfl, ?hy170⟩) hH ?tl170
                  case hy170 => intro w_ hSw; (try dsimp only at hSw); go_simp; (try with_reducible rfl)
                  try simp only [List.getElem_toArray, List.getElem_cons_succ, List.getElem_cons_zero, Act.put, List.setIfInBounds_toArray, List.set_cons_zero, List.set_cons_succ]
                  refine wpSeq_take (i := 31) (oi := _) (v := ?vv171) rfl (fun _ _ _ h => h) (Or.inl ⟨by kernel_rfl, ?hy171⟩) hH ?tl171
                  case hy171 => intro w_ hSw; (try dsimp only at hSw); go_simp; (try with_reducible rfl)
                  try simp only [List.getElem_toArray, List.getElem_cons_succ, List.getElem_cons_zero, Act.put, List.setIfInBounds_toArray, List.set_cons_zero, List.set_cons_succ]
                  refine wpSeq_take (i := 32) (oi := _) (v := ?vv172) rfl (fun _ _ _ h => h) (Or.inl ⟨by kernel_rfl, ?hy172⟩) hH ?tl172
                  case hy172 => intro w_ hSw; (try dsimp only at hSw); go_simp; (try with_reducible rfl)
                  try simp only [List.getElem_toArray, List.getElem_cons_succ, List.getElem_cons_zero, Act.put, List.setIfInBounds_toArray, List.set_cons_zero, List.set_cons_succ]
                  refine wpSeq_take (i := 33) (oi := _) (v := ?vv173) rfl (fun _ _ _ h => h) (Or.inl ⟨by kernel_rfl, ?hy173⟩) hH ?tl173
                  case hy173 => intro w_ hSw; (try dsimp only at hSw); go_simp; (try with_reducible rfl)
                  try simp only [List.getElem_toArray, List.getElem_cons_succ, List.getElem_cons_zero, Act.put, List.setIfInBounds_toArray, List.set_cons_zero, List.set_cons_succ]
                  refine wpSeq_take (i := 34) (oi := _) (v := ?vv174) rfl (fun _ _ _ h => h) (Or.inl ⟨by kernel_rfl, ?hy174⟩) hH ?tl174
                  case hy174 => intro w_ hSw; (try dsimp only at hSw); go_simp; (try with_reducible rfl)
                  try simp only [List.getElem_toArray, List.getElem_cons_succ, List.getElem_cons_zero, Act.put, List.setIfInBounds_toArray, List.set_cons_zero, List.set_cons_succ]
                  refine wpSeq_take (i := 35) (oi := _) (v := ?vv175) rfl (fun _ _ _ h => h) (Or.inl ⟨by kernel_rfl, ?hy175⟩) hH ?tl175
                  case hy175 => intro w_ hSw; (try dsimp only at hSw); go_simp; (try with_reducible rfl)
                  try simp only [List.getElem_toArray, List.getElem_cons_succ, List.getElem_cons_zero, Act.put, List.setIfInBounds_toArray, List.set_cons_zero, List.set_cons_succ]
                  refine wpSeq_take (i := 36) (oi := _) (v := ?vv176) rfl (fun _ _ _ h => h) (Or.inl ⟨by kernel_rfl, ?hy176⟩) hH ?tl176
                  case hy176 => intro w_ hSw; (try dsimp only at hSw); go_simp; (try with_reducible rfl)
                  try simp only [List.getElem_toArray, List.getElem_cons_succ, List.getElem_cons_zero, Act.put, List.setIfInBounds_toArray, List.set_cons_zero, List.set_cons_succ]
                  refine wpSeq_take (i := 37) (oi := _) (v := ?vv177) rfl (fun _ _ _ h => h) (Or.inl ⟨by kernel_rfl, ?hy177⟩) hH ?tl177
                  case hy177 => intro w_ hSw; (try dsimp only at hSw); go_simp; (try with_reducible rfl)
                  try simp only [List.getElem_toArray, List.getElem_cons_succ, List.getElem_cons_zero, Act.put, List.setIfInBounds_toArray, List.set_cons_zero, List.set_cons_succ]
                  refine wpSeq_take (i := 38) (oi := _) (v := ?vv178) rfl (fun _ _ _ h => h) (Or.inl ⟨by kernel_rfl, ?hy178⟩) hH ?tl178
                  case hy178 => intro w_ hSw; (try dsimp only at hSw); go_simp; (try with_reducible rfl)
                  try simp only [List.getElem_toArray, List.getElem_cons_succ, List.getElem_cons_zero, Act.put, List.setIfInBounds_toArray, List.set_cons_zero, List.set_cons_succ]
                  refine wpSeq_take (i := 39) (oi := _) (v := ?vv179) rfl (fun _ _ _ h => h) (Or.inl ⟨by kernel_rfl, ?hy179⟩) hH ?tl179
                  case hy179 => intro w_ hSw; (try dsimp only at hSw); go_simp; (try with_reducible rfl)
                  try simp only [List.getElem_toArray, List.getElem_cons_succ, List.getElem_cons_zero, Act.put, List.setIfInBounds_toArray, List.set_cons_zero, List.set_cons_succ]
                  refine wpSeq_take (i := 40) (oi := _) (v := ?vv180) rfl (fun _ _ _ h => h) (Or.inl ⟨by kernel_rfl, ?hy180⟩) hH ?tl180
                  case hy180 => intro w_ hSw; (try dsimp only at hSw); go_simp; (try with_reducible rfl)
                  try simp only [List.getElem_toArray, List.getElem_cons_succ, List.getElem_cons_zero, Act.put, List.setIfInBounds_toArray, List.set_cons_zero, List.set_cons_succ]
                  refine wpSeq_take (i := 41) (oi := _) (v := ?vv181) rfl (fun _ _ _ h => h) (Or.inl ⟨by kernel_rfl, ?hy181⟩) hH ?tl181
                  case hy181 => intro w_ hSw; (try dsimp only at hSw); go_simp; (try with_reducible rfl)
                  try simp only [List.getElem_toArray, List.getElem_cons_succ, List.getElem_cons_zero, Act.put, List.setIfInBounds_toArray, List.set_cons_zero, List.set_cons_succ]
                  refine wpSeq_take (i := 42) (oi := _) (v := ?vv182) rfl (fun _ _ _ h => h) (Or.inl ⟨by kernel_rfl, ?hy182⟩) hH ?tl182
                  case hy182 => intro w_ hSw; (try dsimp only at hSw); go_simp; (try with_reducible rfl)
                  try simp only [List.getElem_toArray, List.getElem_cons_succ, List.getElem_cons_zero, Act.put, List.setIfInBounds_toArray, List.set_cons_zero, List.set_cons_succ]
                  refine wpSeq_done ?_
                  try simp only [List.getElem_toArray, List.getElem_cons_succ, List.getElem_cons_zero, Act.put, List.setIfInBounds_toArray, List.set_cons_zero, List.set_cons_succ]
                  go_wp2_with fail
                  go_roundw
                  case rel => exact ⟨k + 1, by omega, by go_num, hB1.out.drew⟩
                  case measure => simp [intOf]; omega
            · obtain rfl : k = n := by omega
              obtain ⟨cN_0, cN_1, fN_0, fN_1⟩ := hkN.out.two
              go_wp2_with fail
              clear cN_0 cN_1 fN_0 fN_1
              go_meet
              exact hB0.out
        · have hbb : (RB == 0) = false := by simp [hb0]
          replace hb0 := Lib.hid hb0
          clear e4
          go_wp2_with fail
          go_meet
          exact hB0.out
      · have hcb : (HC == 0) = false := by simp [hc0]
        replace hc0 := Lib.hid hc0
        go_wp2_with fail
        go_meet
        exact hB0.out
  rename World => w8
  have hb := hcut
  clear hcut
  clear hch
  clear hkN
  clear hkD
  clear hkE
  clear hr12
  clear hry12
  clear hr13
  replace hB := Lib.hid (bthen hB.out hb)
  replace hkL := Lib.hid (hkL.out.kept hb)
  replace hkC := Lib.hid (hkC.out.kept hb)
  replace hr1 := Lib.hid (hr1.out.kept hb)
  replace hrv1 := Lib.hid (hrv1.out.kept hb)
  replace hr2 := Lib.hid (hr2.out.kept hb)
  clear hb
  by_cases hc0 : CC = 0
  · obtain ⟨e1, e2⟩ := hcf.out hc0
    subst hc0
    have hvl : vs1.length ≤ maxLen := by have := htz1; have h2 := textsSz_len vs1; unfold maxLen; omega
    have hro := Lib.hid (fun (V : World) (h1 : RT V a1 xs1) (h2 : RI V a2 CL) (h3 : Pow10 V) => impl_RecordOf WD1 a1 c1 xs1 a2 c2 CL V h1 h2 hs1 hcap1 (by omega) hcap2 h3)
    rw [e1, e2] at hro
    have hft := Lib.hid (fun (V : World) (a' : Option Addr) (c' : Nat) (h2 : RS V a' vs1) (h3 : RS V b1 vs1) => (show Calls Tryz.prog 21 #[.slice a' vs1.length c', .slice b1 vs1.length d1] V fun e w' => e = .returned (.bool true) ∧ Below V.heap.size V w' by
      have h := laws_f6texts a' b1 c' d1 vs1 vs1 V h2 h3 hvl hvl
      rw [eqB_refl] at h; exact h))
    clear e1 e2 hcf
    obtain ⟨cL_0, cL_1, fL_0, fL_1⟩ := hkL.out.two
    obtain ⟨cC_0, fC_0⟩ := hkC.out.one
    go_wp2_with fail
    clear cL_0 cL_1 fL_0 fL_1 cC_0 fC_0
    refine (hro.out _ hr1.out hr2.out (pow_kept ht.out hB.out)).mono ?_
    rintro e v29 ⟨a30, c30, rfl, ho, hb⟩
    replace hB := Lib.hid (bthen hB.out hb)
    replace hkL := Lib.hid (hkL.out.kept hb)
    replace hkC := Lib.hid (hkC.out.kept hb)
    replace hr1 := Lib.hid (hr1.out.kept hb)
    replace hrv1 := Lib.hid (hrv1.out.kept hb)
    replace hr2 := Lib.hid (hr2.out.kept hb)
    have hr30 := Lib.hid (show RS _ a30 vs1 from OV.row (OV.of ho))
    clear ho
    have hltLv29 := hkL.out.lt
    have hltCv29 := hkC.out.lt
    clear hb
    go_wp2_with fail
    refine (hft.out _ a30 c30 hr30.out hrv1.out).mono ?_
    rintro e v30 ⟨rfl, hb⟩
    replace hB := Lib.hid (bthen hB.out hb)
    replace hkL := Lib.hid (hkL.out.kept hb)
    replace hkC := Lib.hid (hkC.out.kept hb)
    replace hr1 := Lib.hid (hr1.out.kept hb)
    replace hrv1 := Lib.hid (hrv1.out.kept hb)
    replace hr2 := Lib.hid (hr2.out.kept hb)
    replace hr30 := Lib.hid (hr30.out.kept hb)
    have hltLv30 := hkL.out.lt
    have hltCv30 := hkC.out.lt
    clear hb
    go_wp2_with fail
    go_ret
    exact ⟨rfl, hB.out⟩
  · have hcb : (CC != 0) = true := by simp [hc0]
    replace hc0 := Lib.hid hc0
    go_wp2_with fail
    go_ret
    exact ⟨rfl, hB.out⟩

/-- What the walk gives, for every argument and every world that holds the tables. -/
theorem contract (H : Type) (enc : TypeId × Value → H) (W : World) (base : Nat) (args : Array Value) (ds gs : List (DataW H)) (before : List MemPlace)
    (hval0 : ∀ (j : Nat) t v, Tryz.f3.params[j]? = some t → args[j]? = some v → Value.okWide Tryz.prog W .any base t v)
    (hW : DataW.Whole enc Tryz.prog Tryz.f3.params.toList Rows.fnRecordsSpec.vars false W args.toList ds gs before) (hL : laidMetH Tryz.prog Rows.fnRecordsRow.laid W) (hS : W.ShapedOpen Tryz.prog) :
    Calls Tryz.prog 3 args W fun e W' => ∃ v, e = .returned v ∧ Rows.fnRecordsSpec.post enc Tryz.prog Tryz.f3 false true false false W args v W' := by
  have hval : ∀ (j : Nat) t v, Tryz.f3.params[j]? = some t → args[j]? = some v → Value.okWide Tryz.prog W .any base t v := hval0
  have hW' := hW
  obtain ⟨p, q, hA0, hV, rfl, hfz, hnd⟩ := hW
  have hA : DataW.TrodAll enc Tryz.prog W 0 (fun _ => true) true Tryz.f3.params.toList args.toList ds p := hA0
  rw [Tryz.params3] at hA hval
  obtain ⟨v0, vs0, d0, ds0, p0, q0, hargs, rfl, rfl, h0, r0⟩ := trodAll_cons hA
  obtain ⟨rfl, rfl, rfl⟩ := trodAll_nil r0
  obtain rfl : args = #[v0] := by cases args; simp_all
  have hV2 := hV
  obtain ⟨_, _, _, _, g1, _, rfl, _⟩ := trodVars_one hV
  have k0 := h0
  have lt0 : ∀ x ∈ p0, x.block < W.heap.size := by obtain ⟨m, hm⟩ := k0; exact DataW.trod_lt m _ _ _ hm
  obtain ⟨a0, c0, x0, rfl, hx0, _, hm0⟩ := open_bytes Tryz.underlying22 Tryz.underlying5 (by kernel_rfl) (hval 0 22 v0 rfl rfl) h0
  replace hm0 : x0.length ≤ maxLen := by omega
  clear hA0 hval0
  refine (walk a0 c0 x0 W hx0 hm0 (pow10_of (l := Rows.fnRecordsRow.laid) hL (by simp [Rows.fnRecordsRow])) (errs_of (l := Rows.fnRecordsRow.laid) hL (by simp [Rows.fnRecordsRow]) (by simp [Rows.fnRecordsRow])) (kinds_of (l := Rows.fnRecordsRow.laid) hL (by simp [Rows.fnRecordsRow])) (maxLen_of hS)).mono fun e W' ⟨he, bel⟩ => ?_
  subst he
  exact ⟨_, rfl, _, _, _, [], _, _, hW', trodAll_mk1 (shut_bool Tryz.underlying4 _), (trodAll_cons_mk (Below.trod laidOut (by kernel_rfl) (of_decide_eq_true (by kernel_rfl)) k0 bel lt0) trodAll_mk0), Below.trodVars laidOut bel (by kernel_rfl) hV2, bel.frame _, fun h => by cases h⟩

/-- A world for the witness: the settled one, the listed tables laid. -/
noncomputable def laidWorld (os : Os) : World := { World.doorLaid Tryz.prog 77 os with heap := layAt (World.doorLaid Tryz.prog 77 os).heap 5 (Rows.laid_unicode_utf8_first) }
theorem laid_met (os : Os) : laidMet Tryz.prog Rows.fnRecordsRow.laid ((laidWorld os).forCall (fun _ _ => 0) ⟨#[], #[.slice none 0 0], []⟩).memory :=
  laidMet_of_run' 8 (by kernel_rfl) (by kernel_rfl)
theorem reads (os : Os) {H : Type} (enc : TypeId × Value → H) : ∃ x : List (DataW H) × List (DataW H) × List MemPlace, DataW.whole enc Tryz.prog ((laidWorld os).forCall (fun _ _ => 0) ⟨#[], #[.slice none 0 0], []⟩).memory Tryz.f3.params.toList Rows.fnRecordsSpec.vars false #[.slice none 0 0].toList 8 = some x :=
  Option.isSome_iff_exists.1 (by kernel_rfl)

set_option maxRecDepth 100000 in
theorem lifted (os : Os) (started : os.Started) (H : Type) (enc : TypeId × Value → H) (F : Stop.Interp) :
    ReturnsInHanded {} Tryz.checked os 3 .any ((OpenSpec.ofChange Rows.fnRecordsSpec).preRow enc Tryz.prog Tryz.f3 Rows.fnRecordsRow.domain false Rows.fnRecordsRow.laid) (((OpenSpec.ofChange Rows.fnRecordsSpec).at F).post enc Tryz.prog Tryz.f3 false true false false) := by
  obtain ⟨x, hx⟩ := reads os enc
  refine returnsInHanded_of_row (C := Tryz.checked) (s := OpenSpec.ofChange Rows.fnRecordsSpec) own started (by kernel_rfl) Tryz.func3
    (witness_row_atRef (enc := enc) (C := Tryz.checked) false (laidWorld os) #[.slice none 0 0] rfl (by kernel_rfl) (by kernel_rfl) (by kernel_rfl)
      (OpenSpec.preRow_of_cond 8 hx (by kernel_rfl) (fun k hk => by cases hk) (by kernel_rfl) (laid_met os))) ?_
  intro W base args ds gs before hval hW _ _ _ hL hS _
  exact contract H enc W base args ds gs before hval hW hL hS

theorem said : Rows.FnRecordsSaid :=
  OpenClaim.holds_of_cond 3 Tryz.f3 rfl rfl rfl rfl rfl rfl rfl ⟨rfl, rfl, rfl, rfl, rfl⟩ rfl rfl rfl rfl rfl (by kernel_rfl) Tryz.func3 (by kernel_rfl)
    (of_decide_eq_true (by kernel_rfl)) (by unfold Func.isWrapper; first | (rw [if_pos (by decide +kernel)]; kernel_rfl) | (rw [if_neg (by decide +kernel)]; exact ⟨rfl, rfl⟩))
    (fun os started H enc _ F => by rw [OpenClaim.pre_eq_preRow]; exact lifted os started H enc F)

theorem noStand : (Tryz.f3.params.toList.all fun t => !Tryz.prog.wantsStandIn t) = true := by kernel_rfl
/-- No parameter wants a stand-in; the program's own looks are off. -/
theorem plain (g : FuncId) (fn : Func) (hf : Tryz.pinned.checked.prog.funcNamed "loop.example/g01012/laws.FnRecords" = some g) (hfn : Tryz.pinned.checked.prog.funcs[g]? = some fn) :
    true = Tryz.pinned.checked.prog.looks [] ∧ ∀ (j : Nat) t, fn.params[j]? = some t → Tryz.pinned.checked.prog.wantsStandIn t = false := by
  obtain rfl : g = 3 := Option.some.inj ((show Tryz.prog.funcNamed "loop.example/g01012/laws.FnRecords" = some 3 by kernel_rfl).symm.trans hf) |>.symm
  obtain rfl : fn = Tryz.f3 := (Option.some.inj (Tryz.func3.symm.trans hfn)).symm
  refine ⟨by kernel_rfl, fun j t ht => ?_⟩
  have h1 := List.all_eq_true.1 noStand t (by have := Array.mem_of_getElem? ht; simpa using this)
  have h2 : Tryz.prog.wantsStandIn t = false := by simpa using h1
  exact h2

/-- The card. -/
theorem proved : Rows.FnRecordsCardSaid :=
  Claim7.holds_tied_plain_at .later [] _ _ _ _ said (fun _ h => by cases h) (by kernel_rfl) (fun _ h => by cases h) fnRecords_row_tie rfl ⟨rfl, rfl⟩ (by kernel_rfl) rfl plain (by kernel_rfl)
#print axioms proved
end Go.Proofs.YtmpfnkheohlmiaaGreatDoor.fnRecords
