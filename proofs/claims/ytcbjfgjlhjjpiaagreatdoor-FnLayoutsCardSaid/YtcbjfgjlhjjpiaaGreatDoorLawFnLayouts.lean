/- FnLayouts: for all arguments the law returns true, and memory that was there is as it was. No condition. -/
import Derived.Test.YtcbjfgjlhjjpiaaGreatDoorRows
import Derived.Test.YtcbjfgjlhjjpiaaGreatDoorCards
import Derived.Deep.DeepWitnessRowRef
import Derived.LaidMore
import Derived.Test.YtcbjfgjlhjjpiaaGreatDoorTie
import Derived.Deep.DeepHandedRow
import Derived.Lib.LaidTab
import Derived.Stop.LaidErr
import Derived.OpenVars
import Derived.Test.YtcbjfgjlhjjpiaaGreatDoorQA
import Derived.Test.YtcbjfgjlhjjpiaaGreatDoorQB
import Derived.Deep.RegionHeld3
import Derived.Deep.CutRange
import Derived.ShutString
import Derived.Test.YtcbjfgjlhjjpiaaGreatDoorQC
import Derived.Test.YtcbjfgjlhjjpiaaGreatDoorDrG
import Derived.Test.YtcbjfgjlhjjpiaaGreatDoorDrH
import Derived.Test.YtcbjfgjlhjjpiaaGreatDoorDrI
import Derived.Test.YtcbjfgjlhjjpiaaGreatDoorQO
import Derived.Test.YtcbjfgjlhjjpiaaGreatDoorQP
import Derived.Test.YtcbjfgjlhjjpiaaGreatDoorAddS
import Derived.Test.YtcbjfgjlhjjpiaaGreatDoorAdd
import Derived.Test.YtcbjfgjlhjjpiaaGreatDoorFind
import Derived.Test.YtcbjfgjlhjjpiaaGreatDoorQL
import Derived.Test.YtcbjfgjlhjjpiaaGreatDoorQI
import Derived.Test.YtcbjfgjlhjjpiaaGreatDoorValid
namespace Go.Proofs.YtcbjfgjlhjjpiaaGreatDoor.fnLayouts
open Go.ChangeShapes Go.WideShapes Go.ChangeAt Go.RowKit
open Go.ChangeMaps (open_string shut_string)
set_option linter.unusedVariables false
set_option linter.unusedSimpArgs false
set_option linter.unnecessarySimpa false
set_option maxRecDepth 100000

theorem own : ownKnob Tryz.prog.godebug = none := by kernel_rfl
theorem laidOut : laidOutB Tryz.prog = true := by kernel_rfl

set_option maxHeartbeats 4000000 in
/-- The Go text returns true; memory has at most new blocks. -/
theorem walk (a0 : Option Addr) (c0 : Nat) (x0 : List UInt8) (w : World) (hx0 : RB w a0 x0) (hm0 : x0.length ≤ maxLen) (ht : Pow10 w) :
    Calls Tryz.prog 4 #[.slice a0 x0.length c0] w fun e w' => e = .returned (.bool true) ∧ Below w.heap.size w w' := by
  have hxl : x0.length ≤ 9223372036854775807 := by simpa [maxLen] using hm0
  by_cases hbig : 4096 < x0.length
  · have hd : decide (4096 < x0.length) = true := decide_eq_true hbig
    have hc := Lib.hid (laws_f6big a0 x0.length c0 w hm0)
    rw [hd] at hc
    clear hd hbig
    go_enter Tryz.func4, Tryz.ntmps4
    go_wp2_with fail
    refine hc.out.mono ?_
    rintro e w' ⟨rfl, rfl⟩
    go_wp2_with fail
    go_ret
    exact ⟨rfl, Below.refl _ _⟩
  have hd : decide (4096 < x0.length) = false := decide_eq_false hbig
  have hc := Lib.hid (laws_f6big a0 x0.length c0 w hm0)
  rw [hd] at hc
  clear hd
  have hl0 : x0.length ≤ 1073741824 := by omega
  have hrC := Lib.hid hx0
  have hB := Lib.hid (Below.refl w.heap.size w)
  clear hxl hbig
  go_enter Tryz.func4, Tryz.ntmps4
  go_wp2_with fail
  refine hc.out.mono ?_
  rintro e w' ⟨rfl, hww⟩
  obtain rfl := hww.symm
  clear hc
  go_wp2_with fail
  refine (spec_DrawAddItem a0 c0 x0 w hrC.out hl0).mono ?_
  rintro e v1 ⟨WD1, a1, c1, xs1, p1, rfl, hP1, hr1, hcap1, hps1, hb⟩
  replace hB := Lib.hid (bthen hB.out hb)
  replace hrC := Lib.hid (hrC.out.kept hb)
  have hs1 := hP1.sz
  clear hP1
  replace hr1 := Lib.hid hr1
  clear hb
  go_wp2_with fail
  have hA := Lib.hid (below_alloc (w := v1) (.cells #[.int .i64 WD1, .slice a1 xs1.length c1] 35))
  have hkn := Lib.hid (show Bk (v1.alloc (.cells #[.int .i64 WD1, .slice a1 xs1.length c1] 35)) (v1.heap.size) 35 #[.int .i64 WD1, .slice a1 xs1.length c1] from (by first | exact Bk.new _ _ _ | simpa using Bk.new v1 #[.int .i64 WD1, .slice a1 xs1.length c1] 35))
  replace hB := Lib.hid (bthen hB.out hA.out)
  replace hrC := Lib.hid (hrC.out.kept hA.out)
  replace hr1 := Lib.hid (hr1.out.kept hA.out)
  have hqL : v1.heap.size + 1 ≤ (v1.alloc (.cells #[.int .i64 WD1, .slice a1 xs1.length c1] 35)).heap.size ∧ (v1.alloc (.cells #[.int .i64 WD1, .slice a1 xs1.length c1] 35)).heap.size ≤ v1.heap.size + 1 := by simp
  have hkL := hkn
  clear hkn hA
  have hA := Lib.hid (below_alloc (w := (v1.alloc (.cells #[.int .i64 WD1, .slice a1 xs1.length c1] 35))) (.cells #[.string p1.name, .int .i64 p1.kind, .int .i64 p1.fr, .int .i64 p1.to] 48))
  have hkn := Lib.hid (show Bk ((v1.alloc (.cells #[.int .i64 WD1, .slice a1 xs1.length c1] 35)).alloc (.cells #[.string p1.name, .int .i64 p1.kind, .int .i64 p1.fr, .int .i64 p1.to] 48)) (v1.heap.size + 1) 48 #[.string p1.name, .int .i64 p1.kind, .int .i64 p1.fr, .int .i64 p1.to] from (by first | exact Bk.new _ _ _ | simpa using Bk.new (v1.alloc (.cells #[.int .i64 WD1, .slice a1 xs1.length c1] 35)) #[.string p1.name, .int .i64 p1.kind, .int .i64 p1.fr, .int .i64 p1.to] 48))
  replace hB := Lib.hid (bthen hB.out hA.out)
  replace hkL := Lib.hid (hkL.out.kept hA.out)
  replace hrC := Lib.hid (hrC.out.kept hA.out)
  replace hr1 := Lib.hid (hr1.out.kept hA.out)
  have hqP : (v1.alloc (.cells #[.int .i64 WD1, .slice a1 xs1.length c1] 35)).heap.size + 1 ≤ ((v1.alloc (.cells #[.int .i64 WD1, .slice a1 xs1.length c1] 35)).alloc (.cells #[.string p1.name, .int .i64 p1.kind, .int .i64 p1.fr, .int .i64 p1.to] 48)).heap.size ∧ ((v1.alloc (.cells #[.int .i64 WD1, .slice a1 xs1.length c1] 35)).alloc (.cells #[.string p1.name, .int .i64 p1.kind, .int .i64 p1.fr, .int .i64 p1.to] 48)).heap.size ≤ (v1.alloc (.cells #[.int .i64 WD1, .slice a1 xs1.length c1] 35)).heap.size + 1 := by simp
  have hkP := hkn
  clear hkn hA
  generalize ((v1.alloc (.cells #[.int .i64 WD1, .slice a1 xs1.length c1] 35)).alloc (.cells #[.string p1.name, .int .i64 p1.kind, .int .i64 p1.fr, .int .i64 p1.to] 48)) = v2 at *
  have hltLv2 := hkL.out.lt
  have hltPv2 := hkP.out.lt
  have hps1b : p1.name.size ≤ 1048576 := by omega
  refine (impl_AddItem WD1 a1 c1 xs1 p1 v2 hr1.out hs1 hcap1 hps1b).mono ?_
  rintro e v3 ⟨a2, c2, rfl, ho, hb⟩
  replace hB := Lib.hid (bthen hB.out hb)
  replace hkL := Lib.hid (hkL.out.kept hb)
  replace hkP := Lib.hid (hkP.out.kept hb)
  replace hrC := Lib.hid (hrC.out.kept hb)
  replace hr1 := Lib.hid (hr1.out.kept hb)
  have hcap2 := (OT.capm (OT.of ho)).1
  have hr2 := Lib.hid (OT.RT (OT.of ho))
  clear ho
  have hltLv3 := hkL.out.lt
  have hltPv3 := hkP.out.lt
  clear hb
  obtain ⟨cL_0, cL_1, fL_0, fL_1⟩ := hkL.out.two
  obtain ⟨⟨cP_0, cP_1, cP_2, cP_3⟩, fP_0, fP_1, fP_2, fP_3⟩ := hkP.out.four
  go_wp2_with fail
  clear cL_0 cL_1 fL_0 fL_1 cP_0 cP_1 cP_2 cP_3 fP_0 fP_1 fP_2 fP_3
  have hA := Lib.hid (below_alloc (w := v3) (.cells #[.int .i64 (addW WD1 xs1 p1), .slice a2 (addL WD1 xs1 p1).length c2] 35))
  have hkn := Lib.hid (show Bk (v3.alloc (.cells #[.int .i64 (addW WD1 xs1 p1), .slice a2 (addL WD1 xs1 p1).length c2] 35)) (v3.heap.size) 35 #[.int .i64 (addW WD1 xs1 p1), .slice a2 (addL WD1 xs1 p1).length c2] from (by first | exact Bk.new _ _ _ | simpa using Bk.new v3 #[.int .i64 (addW WD1 xs1 p1), .slice a2 (addL WD1 xs1 p1).length c2] 35))
  replace hB := Lib.hid (bthen hB.out hA.out)
  replace hkL := Lib.hid (hkL.out.kept hA.out)
  replace hkP := Lib.hid (hkP.out.kept hA.out)
  replace hrC := Lib.hid (hrC.out.kept hA.out)
  replace hr1 := Lib.hid (hr1.out.kept hA.out)
  replace hr2 := Lib.hid (hr2.out.kept hA.out)
  have hqM : v3.heap.size + 1 ≤ (v3.alloc (.cells #[.int .i64 (addW WD1 xs1 p1), .slice a2 (addL WD1 xs1 p1).length c2] 35)).heap.size ∧ (v3.alloc (.cells #[.int .i64 (addW WD1 xs1 p1), .slice a2 (addL WD1 xs1 p1).length c2] 35)).heap.size ≤ v3.heap.size + 1 := by simp
  have hkM := hkn
  clear hkn hA
  generalize (v3.alloc (.cells #[.int .i64 (addW WD1 xs1 p1), .slice a2 (addL WD1 xs1 p1).length c2] 35)) = v4 at *
  have hltLv4 := hkL.out.lt
  have hltPv4 := hkP.out.lt
  have hltMv4 := hkM.out.lt
  refine (spec_AddItem WD1 a1 c1 xs1 p1 v4 hr1.out hs1 hcap1 hps1b).mono ?_
  rintro e v5 ⟨a3, c3, rfl, ho, hb⟩
  replace hB := Lib.hid (bthen hB.out hb)
  replace hkL := Lib.hid (hkL.out.kept hb)
  replace hkP := Lib.hid (hkP.out.kept hb)
  replace hkM := Lib.hid (hkM.out.kept hb)
  replace hrC := Lib.hid (hrC.out.kept hb)
  replace hr1 := Lib.hid (hr1.out.kept hb)
  replace hr2 := Lib.hid (hr2.out.kept hb)
  have hcap3 := (OT.capm (OT.of ho)).1
  have hr3 := Lib.hid (OT.RT (OT.of ho))
  clear ho
  have hltLv5 := hkL.out.lt
  have hltPv5 := hkP.out.lt
  have hltMv5 := hkM.out.lt
  clear hb
  go_wp2_with fail
  have hA := Lib.hid (below_alloc (w := v5) (.cells #[.int .i64 (addW WD1 xs1 p1), .slice a3 (addL WD1 xs1 p1).length c3] 35))
  have hkn := Lib.hid (show Bk (v5.alloc (.cells #[.int .i64 (addW WD1 xs1 p1), .slice a3 (addL WD1 xs1 p1).length c3] 35)) (v5.heap.size) 35 #[.int .i64 (addW WD1 xs1 p1), .slice a3 (addL WD1 xs1 p1).length c3] from (by first | exact Bk.new _ _ _ | simpa using Bk.new v5 #[.int .i64 (addW WD1 xs1 p1), .slice a3 (addL WD1 xs1 p1).length c3] 35))
  replace hB := Lib.hid (bthen hB.out hA.out)
  replace hkL := Lib.hid (hkL.out.kept hA.out)
  replace hkP := Lib.hid (hkP.out.kept hA.out)
  replace hkM := Lib.hid (hkM.out.kept hA.out)
  replace hrC := Lib.hid (hrC.out.kept hA.out)
  replace hr1 := Lib.hid (hr1.out.kept hA.out)
  replace hr2 := Lib.hid (hr2.out.kept hA.out)
  replace hr3 := Lib.hid (hr3.out.kept hA.out)
  have hqN : v5.heap.size + 1 ≤ (v5.alloc (.cells #[.int .i64 (addW WD1 xs1 p1), .slice a3 (addL WD1 xs1 p1).length c3] 35)).heap.size ∧ (v5.alloc (.cells #[.int .i64 (addW WD1 xs1 p1), .slice a3 (addL WD1 xs1 p1).length c3] 35)).heap.size ≤ v5.heap.size + 1 := by simp
  have hkN := hkn
  clear hkn hA
  generalize (v5.alloc (.cells #[.int .i64 (addW WD1 xs1 p1), .slice a3 (addL WD1 xs1 p1).length c3] 35)) = v6 at *
  have hltLv6 := hkL.out.lt
  have hltPv6 := hkP.out.lt
  have hltMv6 := hkM.out.lt
  have hltNv6 := hkN.out.lt
  refine (spec_DrawFreeColumns a0 c0 x0 v6 hrC.out hl0).mono ?_
  rintro e v7 ⟨WD4, a4, c4, xs4, rfl, hP4, hr4, hcap4, hb⟩
  replace hB := Lib.hid (bthen hB.out hb)
  replace hkL := Lib.hid (hkL.out.kept hb)
  replace hkP := Lib.hid (hkP.out.kept hb)
  replace hkM := Lib.hid (hkM.out.kept hb)
  replace hkN := Lib.hid (hkN.out.kept hb)
  replace hrC := Lib.hid (hrC.out.kept hb)
  replace hr1 := Lib.hid (hr1.out.kept hb)
  replace hr2 := Lib.hid (hr2.out.kept hb)
  replace hr3 := Lib.hid (hr3.out.kept hb)
  have hs4 := hP4.sz
  clear hP4
  replace hr4 := Lib.hid hr4
  have hltLv7 := hkL.out.lt
  have hltPv7 := hkP.out.lt
  have hltMv7 := hkM.out.lt
  have hltNv7 := hkN.out.lt
  clear hb
  go_wp2_with fail
  have hA := Lib.hid (below_alloc (w := v7) (.cells #[.int .i64 WD4, .slice a4 xs4.length c4] 35))
  have hkn := Lib.hid (show Bk (v7.alloc (.cells #[.int .i64 WD4, .slice a4 xs4.length c4] 35)) (v7.heap.size) 35 #[.int .i64 WD4, .slice a4 xs4.length c4] from (by first | exact Bk.new _ _ _ | simpa using Bk.new v7 #[.int .i64 WD4, .slice a4 xs4.length c4] 35))
  replace hB := Lib.hid (bthen hB.out hA.out)
  replace hkL := Lib.hid (hkL.out.kept hA.out)
  replace hkP := Lib.hid (hkP.out.kept hA.out)
  replace hkM := Lib.hid (hkM.out.kept hA.out)
  replace hkN := Lib.hid (hkN.out.kept hA.out)
  replace hrC := Lib.hid (hrC.out.kept hA.out)
  replace hr1 := Lib.hid (hr1.out.kept hA.out)
  replace hr2 := Lib.hid (hr2.out.kept hA.out)
  replace hr3 := Lib.hid (hr3.out.kept hA.out)
  replace hr4 := Lib.hid (hr4.out.kept hA.out)
  have hqF : v7.heap.size + 1 ≤ (v7.alloc (.cells #[.int .i64 WD4, .slice a4 xs4.length c4] 35)).heap.size ∧ (v7.alloc (.cells #[.int .i64 WD4, .slice a4 xs4.length c4] 35)).heap.size ≤ v7.heap.size + 1 := by simp
  have hkF := hkn
  clear hkn hA
  generalize (v7.alloc (.cells #[.int .i64 WD4, .slice a4 xs4.length c4] 35)) = v8 at *
  have hltLv8 := hkL.out.lt
  have hltPv8 := hkP.out.lt
  have hltMv8 := hkM.out.lt
  have hltNv8 := hkN.out.lt
  have hltFv8 := hkF.out.lt
  refine (impl_FreeColumns WD4 a4 c4 xs4 v8 hr4.out hs4 hcap4).mono ?_
  rintro e v9 ⟨a5, c5, rfl, ho, hb⟩
  replace hB := Lib.hid (bthen hB.out hb)
  replace hkL := Lib.hid (hkL.out.kept hb)
  replace hkP := Lib.hid (hkP.out.kept hb)
  replace hkM := Lib.hid (hkM.out.kept hb)
  replace hkN := Lib.hid (hkN.out.kept hb)
  replace hkF := Lib.hid (hkF.out.kept hb)
  replace hrC := Lib.hid (hrC.out.kept hb)
  replace hr1 := Lib.hid (hr1.out.kept hb)
  replace hr2 := Lib.hid (hr2.out.kept hb)
  replace hr3 := Lib.hid (hr3.out.kept hb)
  replace hr4 := Lib.hid (hr4.out.kept hb)
  have hr5 := Lib.hid (own_RI ho)
  clear ho
  have hltLv9 := hkL.out.lt
  have hltPv9 := hkP.out.lt
  have hltMv9 := hkM.out.lt
  have hltNv9 := hkN.out.lt
  have hltFv9 := hkF.out.lt
  clear hb
  obtain ⟨cF_0, cF_1, fF_0, fF_1⟩ := hkF.out.two
  go_wp2_with fail
  clear cF_0 cF_1 fF_0 fF_1
  refine (spec_FreeColumns WD4 a4 c4 xs4 v9 hr4.out hs4 hcap4).mono ?_
  rintro e v10 ⟨a6, c6, rfl, ho, hb⟩
  replace hB := Lib.hid (bthen hB.out hb)
  replace hkL := Lib.hid (hkL.out.kept hb)
  replace hkP := Lib.hid (hkP.out.kept hb)
  replace hkM := Lib.hid (hkM.out.kept hb)
  replace hkN := Lib.hid (hkN.out.kept hb)
  replace hkF := Lib.hid (hkF.out.kept hb)
  replace hrC := Lib.hid (hrC.out.kept hb)
  replace hr1 := Lib.hid (hr1.out.kept hb)
  replace hr2 := Lib.hid (hr2.out.kept hb)
  replace hr3 := Lib.hid (hr3.out.kept hb)
  replace hr4 := Lib.hid (hr4.out.kept hb)
  replace hr5 := Lib.hid (hr5.out.kept hb)
  have hr6 := Lib.hid (own_RI ho)
  clear ho
  have hltLv10 := hkL.out.lt
  have hltPv10 := hkP.out.lt
  have hltMv10 := hkM.out.lt
  have hltNv10 := hkN.out.lt
  have hltFv10 := hkF.out.lt
  clear hb
  clear hkF
  go_wp2_with fail
  refine (spec_DrawItemNamed a0 c0 x0 v10 hrC.out hl0).mono ?_
  rintro e v11 ⟨WD7, a7, c7, xs7, t7, rfl, hP7, hr7, hcap7, ht7, hb⟩
  replace hB := Lib.hid (bthen hB.out hb)
  replace hkL := Lib.hid (hkL.out.kept hb)
  replace hkP := Lib.hid (hkP.out.kept hb)
  replace hkM := Lib.hid (hkM.out.kept hb)
  replace hkN := Lib.hid (hkN.out.kept hb)
  replace hrC := Lib.hid (hrC.out.kept hb)
  replace hr1 := Lib.hid (hr1.out.kept hb)
  replace hr2 := Lib.hid (hr2.out.kept hb)
  replace hr3 := Lib.hid (hr3.out.kept hb)
  replace hr4 := Lib.hid (hr4.out.kept hb)
  replace hr5 := Lib.hid (hr5.out.kept hb)
  replace hr6 := Lib.hid (hr6.out.kept hb)
  have hs7 := hP7.sz
  clear hP7
  replace hr7 := Lib.hid hr7
  have hltLv11 := hkL.out.lt
  have hltPv11 := hkP.out.lt
  have hltMv11 := hkM.out.lt
  have hltNv11 := hkN.out.lt
  clear hb
  go_wp2_with fail
  have hA := Lib.hid (below_alloc (w := v11) (.cells #[.int .i64 WD7, .slice a7 xs7.length c7] 35))
  have hkn := Lib.hid (show Bk (v11.alloc (.cells #[.int .i64 WD7, .slice a7 xs7.length c7] 35)) (v11.heap.size) 35 #[.int .i64 WD7, .slice a7 xs7.length c7] from (by first | exact Bk.new _ _ _ | simpa using Bk.new v11 #[.int .i64 WD7, .slice a7 xs7.length c7] 35))
  replace hB := Lib.hid (bthen hB.out hA.out)
  replace hkL := Lib.hid (hkL.out.kept hA.out)
  replace hkP := Lib.hid (hkP.out.kept hA.out)
  replace hkM := Lib.hid (hkM.out.kept hA.out)
  replace hkN := Lib.hid (hkN.out.kept hA.out)
  replace hrC := Lib.hid (hrC.out.kept hA.out)
  replace hr1 := Lib.hid (hr1.out.kept hA.out)
  replace hr2 := Lib.hid (hr2.out.kept hA.out)
  replace hr3 := Lib.hid (hr3.out.kept hA.out)
  replace hr4 := Lib.hid (hr4.out.kept hA.out)
  replace hr5 := Lib.hid (hr5.out.kept hA.out)
  replace hr6 := Lib.hid (hr6.out.kept hA.out)
  replace hr7 := Lib.hid (hr7.out.kept hA.out)
  have hqQ : v11.heap.size + 1 ≤ (v11.alloc (.cells #[.int .i64 WD7, .slice a7 xs7.length c7] 35)).heap.size ∧ (v11.alloc (.cells #[.int .i64 WD7, .slice a7 xs7.length c7] 35)).heap.size ≤ v11.heap.size + 1 := by simp
  have hkQ := hkn
  clear hkn hA
  generalize (v11.alloc (.cells #[.int .i64 WD7, .slice a7 xs7.length c7] 35)) = v12 at *
  have hltLv12 := hkL.out.lt
  have hltPv12 := hkP.out.lt
  have hltMv12 := hkM.out.lt
  have hltNv12 := hkN.out.lt
  have hltQv12 := hkQ.out.lt
  refine (impl_ItemNamed WD7 a7 c7 xs7 t7 v12 hr7.out hs7 hcap7 (by omega)).mono ?_
  rintro e v13 ⟨rfl, hb⟩
  replace hB := Lib.hid (bthen hB.out hb)
  replace hkL := Lib.hid (hkL.out.kept hb)
  replace hkP := Lib.hid (hkP.out.kept hb)
  replace hkM := Lib.hid (hkM.out.kept hb)
  replace hkN := Lib.hid (hkN.out.kept hb)
  replace hkQ := Lib.hid (hkQ.out.kept hb)
  replace hrC := Lib.hid (hrC.out.kept hb)
  replace hr1 := Lib.hid (hr1.out.kept hb)
  replace hr2 := Lib.hid (hr2.out.kept hb)
  replace hr3 := Lib.hid (hr3.out.kept hb)
  replace hr4 := Lib.hid (hr4.out.kept hb)
  replace hr5 := Lib.hid (hr5.out.kept hb)
  replace hr6 := Lib.hid (hr6.out.kept hb)
  replace hr7 := Lib.hid (hr7.out.kept hb)
  have hltLv13 := hkL.out.lt
  have hltPv13 := hkP.out.lt
  have hltMv13 := hkM.out.lt
  have hltNv13 := hkN.out.lt
  have hltQv13 := hkQ.out.lt
  clear hb
  obtain ⟨cQ_0, cQ_1, fQ_0, fQ_1⟩ := hkQ.out.two
  go_wp2_with fail
  clear cQ_0 cQ_1 fQ_0 fQ_1
  refine (spec_ItemNamed WD7 a7 c7 xs7 t7 v13 hr7.out hs7 hcap7 (by omega)).mono ?_
  rintro e v14 ⟨rfl, hb⟩
  replace hB := Lib.hid (bthen hB.out hb)
  replace hkL := Lib.hid (hkL.out.kept hb)
  replace hkP := Lib.hid (hkP.out.kept hb)
  replace hkM := Lib.hid (hkM.out.kept hb)
  replace hkN := Lib.hid (hkN.out.kept hb)
  replace hkQ := Lib.hid (hkQ.out.kept hb)
  replace hrC := Lib.hid (hrC.out.kept hb)
  replace hr1 := Lib.hid (hr1.out.kept hb)
  replace hr2 := Lib.hid (hr2.out.kept hb)
  replace hr3 := Lib.hid (hr3.out.kept hb)
  replace hr4 := Lib.hid (hr4.out.kept hb)
  replace hr5 := Lib.hid (hr5.out.kept hb)
  replace hr6 := Lib.hid (hr6.out.kept hb)
  replace hr7 := Lib.hid (hr7.out.kept hb)
  have hltLv14 := hkL.out.lt
  have hltPv14 := hkP.out.lt
  have hltMv14 := hkM.out.lt
  have hltNv14 := hkN.out.lt
  have hltQv14 := hkQ.out.lt
  clear hb
  clear hkQ hr7
  go_wp2_with fail
  refine (spec_DrawItemTotal a0 c0 x0 v14 hrC.out hl0).mono ?_
  rintro e v15 ⟨WD8, a8, c8, xs8, b8, d8, xss8, t8, rfl, hP8, hr8, hcap8, hD8, hrD, ht8, hb⟩
  replace hB := Lib.hid (bthen hB.out hb)
  replace hkL := Lib.hid (hkL.out.kept hb)
  replace hkP := Lib.hid (hkP.out.kept hb)
  replace hkM := Lib.hid (hkM.out.kept hb)
  replace hkN := Lib.hid (hkN.out.kept hb)
  replace hrC := Lib.hid (hrC.out.kept hb)
  replace hr1 := Lib.hid (hr1.out.kept hb)
  replace hr2 := Lib.hid (hr2.out.kept hb)
  replace hr3 := Lib.hid (hr3.out.kept hb)
  replace hr4 := Lib.hid (hr4.out.kept hb)
  replace hr5 := Lib.hid (hr5.out.kept hb)
  replace hr6 := Lib.hid (hr6.out.kept hb)
  have hs8 := hP8.sz
  clear hP8
  replace hr8 := Lib.hid hr8
  replace hrD := Lib.hid hrD
  have hltLv15 := hkL.out.lt
  have hltPv15 := hkP.out.lt
  have hltMv15 := hkM.out.lt
  have hltNv15 := hkN.out.lt
  clear hb
  go_wp2_with fail
  have hA := Lib.hid (below_alloc (w := v15) (.cells #[.int .i64 WD8, .slice a8 xs8.length c8] 35))
  have hkn := Lib.hid (show Bk (v15.alloc (.cells #[.int .i64 WD8, .slice a8 xs8.length c8] 35)) (v15.heap.size) 35 #[.int .i64 WD8, .slice a8 xs8.length c8] from (by first | exact Bk.new _ _ _ | simpa using Bk.new v15 #[.int .i64 WD8, .slice a8 xs8.length c8] 35))
  replace hB := Lib.hid (bthen hB.out hA.out)
  replace hkL := Lib.hid (hkL.out.kept hA.out)
  replace hkP := Lib.hid (hkP.out.kept hA.out)
  replace hkM := Lib.hid (hkM.out.kept hA.out)
  replace hkN := Lib.hid (hkN.out.kept hA.out)
  replace hrC := Lib.hid (hrC.out.kept hA.out)
  replace hr1 := Lib.hid (hr1.out.kept hA.out)
  replace hr2 := Lib.hid (hr2.out.kept hA.out)
  replace hr3 := Lib.hid (hr3.out.kept hA.out)
  replace hr4 := Lib.hid (hr4.out.kept hA.out)
  replace hr5 := Lib.hid (hr5.out.kept hA.out)
  replace hr6 := Lib.hid (hr6.out.kept hA.out)
  replace hr8 := Lib.hid (hr8.out.kept hA.out)
  replace hrD := Lib.hid (hrD.out.kept hA.out)
  have hqT : v15.heap.size + 1 ≤ (v15.alloc (.cells #[.int .i64 WD8, .slice a8 xs8.length c8] 35)).heap.size ∧ (v15.alloc (.cells #[.int .i64 WD8, .slice a8 xs8.length c8] 35)).heap.size ≤ v15.heap.size + 1 := by simp
  have hkT := hkn
  clear hkn hA
  generalize (v15.alloc (.cells #[.int .i64 WD8, .slice a8 xs8.length c8] 35)) = v16 at *
  have hltLv16 := hkL.out.lt
  have hltPv16 := hkP.out.lt
  have hltMv16 := hkM.out.lt
  have hltNv16 := hkN.out.lt
  have hltTv16 := hkT.out.lt
  have hz8 := hD8.sz
  clear hD8
  refine (impl_ItemTotal WD8 a8 c8 xs8 b8 d8 xss8 t8 v16 hr8.out hrD.out hs8 hcap8 hz8 (by omega)).mono ?_
  rintro e v17 ⟨rfl, hb⟩
  replace hB := Lib.hid (bthen hB.out hb)
  replace hkL := Lib.hid (hkL.out.kept hb)
  replace hkP := Lib.hid (hkP.out.kept hb)
  replace hkM := Lib.hid (hkM.out.kept hb)
  replace hkN := Lib.hid (hkN.out.kept hb)
  replace hkT := Lib.hid (hkT.out.kept hb)
  replace hrC := Lib.hid (hrC.out.kept hb)
  replace hr1 := Lib.hid (hr1.out.kept hb)
  replace hr2 := Lib.hid (hr2.out.kept hb)
  replace hr3 := Lib.hid (hr3.out.kept hb)
  replace hr4 := Lib.hid (hr4.out.kept hb)
  replace hr5 := Lib.hid (hr5.out.kept hb)
  replace hr6 := Lib.hid (hr6.out.kept hb)
  replace hr8 := Lib.hid (hr8.out.kept hb)
  replace hrD := Lib.hid (hrD.out.kept hb)
  have hltLv17 := hkL.out.lt
  have hltPv17 := hkP.out.lt
  have hltMv17 := hkM.out.lt
  have hltNv17 := hkN.out.lt
  have hltTv17 := hkT.out.lt
  clear hb
  obtain ⟨cT_0, cT_1, fT_0, fT_1⟩ := hkT.out.two
  go_wp2_with fail
  clear cT_0 cT_1 fT_0 fT_1
  refine (spec_ItemTotal WD8 a8 c8 xs8 b8 d8 xss8 t8 v17 hr8.out hrD.out hs8 hcap8 hz8 (by omega)).mono ?_
  rintro e v18 ⟨rfl, hb⟩
  replace hB := Lib.hid (bthen hB.out hb)
  replace hkL := Lib.hid (hkL.out.kept hb)
  replace hkP := Lib.hid (hkP.out.kept hb)
  replace hkM := Lib.hid (hkM.out.kept hb)
  replace hkN := Lib.hid (hkN.out.kept hb)
  replace hkT := Lib.hid (hkT.out.kept hb)
  replace hrC := Lib.hid (hrC.out.kept hb)
  replace hr1 := Lib.hid (hr1.out.kept hb)
  replace hr2 := Lib.hid (hr2.out.kept hb)
  replace hr3 := Lib.hid (hr3.out.kept hb)
  replace hr4 := Lib.hid (hr4.out.kept hb)
  replace hr5 := Lib.hid (hr5.out.kept hb)
  replace hr6 := Lib.hid (hr6.out.kept hb)
  replace hr8 := Lib.hid (hr8.out.kept hb)
  replace hrD := Lib.hid (hrD.out.kept hb)
  have hltLv18 := hkL.out.lt
  have hltPv18 := hkP.out.lt
  have hltMv18 := hkM.out.lt
  have hltNv18 := hkN.out.lt
  have hltTv18 := hkT.out.lt
  clear hb
  clear hkT hr8 hrD
  go_wp2_with fail
  refine (spec_DrawCountValue a0 c0 x0 v18 hrC.out hl0).mono ?_
  rintro e v19 ⟨WD9, a9, c9, xs9, b9, d9, xss9, t9, u9, rfl, hP9, hr9, hcap9, hD9, hrD, ht9, hu9, hb⟩
  replace hB := Lib.hid (bthen hB.out hb)
  replace hkL := Lib.hid (hkL.out.kept hb)
  replace hkP := Lib.hid (hkP.out.kept hb)
  replace hkM := Lib.hid (hkM.out.kept hb)
  replace hkN := Lib.hid (hkN.out.kept hb)
  replace hrC := Lib.hid (hrC.out.kept hb)
  replace hr1 := Lib.hid (hr1.out.kept hb)
  replace hr2 := Lib.hid (hr2.out.kept hb)
  replace hr3 := Lib.hid (hr3.out.kept hb)
  replace hr4 := Lib.hid (hr4.out.kept hb)
  replace hr5 := Lib.hid (hr5.out.kept hb)
  replace hr6 := Lib.hid (hr6.out.kept hb)
  have hs9 := hP9.sz
  clear hP9
  replace hr9 := Lib.hid hr9
  replace hrD := Lib.hid hrD
  clear hrC
  have hltLv19 := hkL.out.lt
  have hltPv19 := hkP.out.lt
  have hltMv19 := hkM.out.lt
  have hltNv19 := hkN.out.lt
  clear hb
  go_wp2_with fail
  have hA := Lib.hid (below_alloc (w := v19) (.cells #[.int .i64 WD9, .slice a9 xs9.length c9] 35))
  have hkn := Lib.hid (show Bk (v19.alloc (.cells #[.int .i64 WD9, .slice a9 xs9.length c9] 35)) (v19.heap.size) 35 #[.int .i64 WD9, .slice a9 xs9.length c9] from (by first | exact Bk.new _ _ _ | simpa using Bk.new v19 #[.int .i64 WD9, .slice a9 xs9.length c9] 35))
  replace hB := Lib.hid (bthen hB.out hA.out)
  replace hkL := Lib.hid (hkL.out.kept hA.out)
  replace hkP := Lib.hid (hkP.out.kept hA.out)
  replace hkM := Lib.hid (hkM.out.kept hA.out)
  replace hkN := Lib.hid (hkN.out.kept hA.out)
  replace hr1 := Lib.hid (hr1.out.kept hA.out)
  replace hr2 := Lib.hid (hr2.out.kept hA.out)
  replace hr3 := Lib.hid (hr3.out.kept hA.out)
  replace hr4 := Lib.hid (hr4.out.kept hA.out)
  replace hr5 := Lib.hid (hr5.out.kept hA.out)
  replace hr6 := Lib.hid (hr6.out.kept hA.out)
  replace hr9 := Lib.hid (hr9.out.kept hA.out)
  replace hrD := Lib.hid (hrD.out.kept hA.out)
  have hqT : v19.heap.size + 1 ≤ (v19.alloc (.cells #[.int .i64 WD9, .slice a9 xs9.length c9] 35)).heap.size ∧ (v19.alloc (.cells #[.int .i64 WD9, .slice a9 xs9.length c9] 35)).heap.size ≤ v19.heap.size + 1 := by simp
  have hkT := hkn
  clear hkn hA
  generalize (v19.alloc (.cells #[.int .i64 WD9, .slice a9 xs9.length c9] 35)) = v20 at *
  have hltLv20 := hkL.out.lt
  have hltPv20 := hkP.out.lt
  have hltMv20 := hkM.out.lt
  have hltNv20 := hkN.out.lt
  have hltTv20 := hkT.out.lt
  have hz9 := hD9.sz
  clear hD9
  refine (impl_CountValue WD9 a9 c9 xs9 b9 d9 xss9 t9 u9 v20 hr9.out hrD.out hs9 hcap9 hz9 (by omega) hu9 (TabIs.kept ht hB.out)).mono ?_
  rintro e v21 ⟨rfl, hb⟩
  replace hB := Lib.hid (bthen hB.out hb)
  replace hkL := Lib.hid (hkL.out.kept hb)
  replace hkP := Lib.hid (hkP.out.kept hb)
  replace hkM := Lib.hid (hkM.out.kept hb)
  replace hkN := Lib.hid (hkN.out.kept hb)
  replace hkT := Lib.hid (hkT.out.kept hb)
  replace hr1 := Lib.hid (hr1.out.kept hb)
  replace hr2 := Lib.hid (hr2.out.kept hb)
  replace hr3 := Lib.hid (hr3.out.kept hb)
  replace hr4 := Lib.hid (hr4.out.kept hb)
  replace hr5 := Lib.hid (hr5.out.kept hb)
  replace hr6 := Lib.hid (hr6.out.kept hb)
  replace hr9 := Lib.hid (hr9.out.kept hb)
  replace hrD := Lib.hid (hrD.out.kept hb)
  have hltLv21 := hkL.out.lt
  have hltPv21 := hkP.out.lt
  have hltMv21 := hkM.out.lt
  have hltNv21 := hkN.out.lt
  have hltTv21 := hkT.out.lt
  clear hb
  obtain ⟨cT_0, cT_1, fT_0, fT_1⟩ := hkT.out.two
  go_wp2_with fail
  clear cT_0 cT_1 fT_0 fT_1
  refine (spec_CountValue WD9 a9 c9 xs9 b9 d9 xss9 t9 u9 v21 hr9.out hrD.out hs9 hcap9 hz9 (by omega) hu9).mono ?_
  rintro e v22 ⟨rfl, hb⟩
  replace hB := Lib.hid (bthen hB.out hb)
  replace hkL := Lib.hid (hkL.out.kept hb)
  replace hkP := Lib.hid (hkP.out.kept hb)
  replace hkM := Lib.hid (hkM.out.kept hb)
  replace hkN := Lib.hid (hkN.out.kept hb)
  replace hkT := Lib.hid (hkT.out.kept hb)
  replace hr1 := Lib.hid (hr1.out.kept hb)
  replace hr2 := Lib.hid (hr2.out.kept hb)
  replace hr3 := Lib.hid (hr3.out.kept hb)
  replace hr4 := Lib.hid (hr4.out.kept hb)
  replace hr5 := Lib.hid (hr5.out.kept hb)
  replace hr6 := Lib.hid (hr6.out.kept hb)
  replace hr9 := Lib.hid (hr9.out.kept hb)
  replace hrD := Lib.hid (hrD.out.kept hb)
  have hltLv22 := hkL.out.lt
  have hltPv22 := hkP.out.lt
  have hltMv22 := hkM.out.lt
  have hltNv22 := hkN.out.lt
  have hltTv22 := hkT.out.lt
  clear hb
  clear hkT hr9 hrD
  have hcv := cv_range WD9 xs9 xss9 t9 u9
  generalize cvI WD9 xs9 xss9 t9 u9 = CV at *
  generalize dkC WD9 xs9 xss9 t9 = DC at *
  generalize totI WD8 xs8 xss8 t8 = TI at *
  generalize totCode WD8 xs8 xss8 t8 = TC at *
  generalize itemNamedI WD7 xs7 t7 = NI at *
  generalize itemNamedCode WD7 xs7 t7 = NC at *
  generalize layCode WD4 xs4 = LC at *
  have hcv1 : ¬ CV < 0 := by omega
  have hcv2 : ¬ (xss9.length : Int) < CV := by omega
  have hcv3 : decide (CV < 0) = false := decide_eq_false hcv1
  have hcv4 : decide ((xss9.length : Int) < CV) = false := decide_eq_false hcv2
  have hwd : WD1 = WD1 := rfl
  clear hwd
  have hsl : itemsSz (addL WD1 xs1 p1) ≤ 1048576 := addL_len WD1 xs1 p1
  have hsame := Lib.hid (fun (V : World) (h2 : RT V a2 (addL WD1 xs1 p1)) (h3 : RT V a3 (addL WD1 xs1 p1)) => (show Calls Tryz.prog 34 #[.agg #[.int .i64 (addW WD1 xs1 p1), .slice a2 (addL WD1 xs1 p1).length c2], .agg #[.int .i64 (addW WD1 xs1 p1), .slice a3 (addL WD1 xs1 p1).length c3]] V fun e w' => e = .returned (.bool true) ∧ Below V.heap.size V w' by
    have h := spec_SameLayout (addW WD1 xs1 p1) a2 c2 (addL WD1 xs1 p1) (addW WD1 xs1 p1) a3 c3 (addL WD1 xs1 p1) V h2 h3 hsl hsl
    rw [sameLay_2 _ _ (by simp), eqB_refl] at h; exact h))
  have hfl : (freeL WD4 xs4).length ≤ maxLen := small (freeL_len WD4 xs4)
  have hints := Lib.hid (fun (V : World) (h2 : RI V a5 (freeL WD4 xs4)) (h3 : RI V a6 (freeL WD4 xs4)) => (show Calls Tryz.prog 35 #[.slice a5 (freeL WD4 xs4).length c5, .slice a6 (freeL WD4 xs4).length c6] V fun e w' => e = .returned (.bool true) ∧ Below V.heap.size V w' by
    have h := laws_f6ints a5 a6 c5 c6 (freeL WD4 xs4) (freeL WD4 xs4) V h2 h3 hfl hfl
    rw [eqB_refl] at h; exact h))
  obtain ⟨cM_0, cM_1, fM_0, fM_1⟩ := hkM.out.two
  obtain ⟨cN_0, cN_1, fN_0, fN_1⟩ := hkN.out.two
  go_wp2_with fail
  clear cM_0 cM_1 fM_0 fM_1 cN_0 cN_1 fN_0 fN_1
  refine (hsame.out _ hr2.out hr3.out).mono ?_
  rintro e v23 ⟨rfl, hb⟩
  replace hB := Lib.hid (bthen hB.out hb)
  replace hkL := Lib.hid (hkL.out.kept hb)
  replace hkP := Lib.hid (hkP.out.kept hb)
  replace hkM := Lib.hid (hkM.out.kept hb)
  replace hkN := Lib.hid (hkN.out.kept hb)
  replace hr1 := Lib.hid (hr1.out.kept hb)
  replace hr2 := Lib.hid (hr2.out.kept hb)
  replace hr3 := Lib.hid (hr3.out.kept hb)
  replace hr4 := Lib.hid (hr4.out.kept hb)
  replace hr5 := Lib.hid (hr5.out.kept hb)
  replace hr6 := Lib.hid (hr6.out.kept hb)
  have hltLv23 := hkL.out.lt
  have hltPv23 := hkP.out.lt
  have hltMv23 := hkM.out.lt
  have hltNv23 := hkN.out.lt
  clear hb
  clear hsame hr3 hkN
  go_wp2_with fail
  refine (hints.out _ hr5.out hr6.out).mono ?_
  rintro e v24 ⟨rfl, hb⟩
  replace hB := Lib.hid (bthen hB.out hb)
  replace hkL := Lib.hid (hkL.out.kept hb)
  replace hkP := Lib.hid (hkP.out.kept hb)
  replace hkM := Lib.hid (hkM.out.kept hb)
  replace hr1 := Lib.hid (hr1.out.kept hb)
  replace hr2 := Lib.hid (hr2.out.kept hb)
  replace hr4 := Lib.hid (hr4.out.kept hb)
  replace hr5 := Lib.hid (hr5.out.kept hb)
  replace hr6 := Lib.hid (hr6.out.kept hb)
  have hltLv24 := hkL.out.lt
  have hltPv24 := hkP.out.lt
  have hltMv24 := hkM.out.lt
  clear hb
  clear hints hr5 hr6
  by_cases hDC : DC = 0 <;> by_cases hAC : addCode WD1 xs1 p1 = 0
  · have hdb : (DC == 0) = true := by simp [hDC]
    replace hDC := Lib.hid hDC
    have hDC0 : DC = 0 := hDC.out
    subst hDC0
    clear hDC
    obtain ⟨e1, e2, e3, e4, e5, e6⟩ := add_free hAC
    obtain ⟨z1, z2, z3, _, _⟩ := add_zero hAC
    obtain ⟨f1, f2, f3⟩ := itemB_field z2
    obtain ⟨f4, f5, _⟩ := validLay_is z1
    have hfr1 := Lib.hid (fun (W : World) (h1 : RT W a1 xs1) => impl_FreeColumns WD1 a1 c1 xs1 W h1 hs1 hcap1)
    have hfr2 := Lib.hid (fun (W : World) (h1 : RT W a2 (addL WD1 xs1 p1)) => impl_FreeColumns (addW WD1 xs1 p1) a2 c2 (addL WD1 xs1 p1) W h1 hsl hcap2)
    have hva := Lib.hid (fun (W : World) (h1 : RT W a2 (addL WD1 xs1 p1)) => impl_ValidLayout (addW WD1 xs1 p1) a2 c2 (addL WD1 xs1 p1) W h1 hsl hcap2)
    have q1 := freeL_len WD1 xs1
    have q2 := freeL_len (addW WD1 xs1 p1) (addL WD1 xs1 p1)
    rw [hAC]
    rw [← e1, ← e2] at e4 e5 e6
    rw [e1] at e4 e5 e6
    have g1 : layCode (addW WD1 xs1 p1) (addL WD1 xs1 p1) = 0 := by rw [e1]; exact e4
    have g2 : validLayB (addW WD1 xs1 p1) (addL WD1 xs1 p1) = true := by rw [e1]; exact e5
    have g3 : ((freeL WD1 xs1).length : Int) - ((freeL (addW WD1 xs1 p1) (addL WD1 xs1 p1)).length : Int) = p1.to - p1.fr := by rw [e1]; exact e6
    have hfr1' := hfr1.out
    have hfr2' := hfr2.out
    have hva' := hva.out
    rw [e3] at hfr1'
    rw [g1] at hfr2'
    rw [g2] at hva'
    replace hfr1 := Lib.hid hfr1'
    replace hfr2 := Lib.hid hfr2'
    replace hva := Lib.hid hva'
    clear hfr1' hfr2' hva' e1 e2 e3 e4 e5 e6 z1 z2 z3 hAC g1 g2
    generalize (freeL WD1 xs1).length = N1 at *
    generalize (freeL (addW WD1 xs1 p1) (addL WD1 xs1 p1)).length = N2 at *
    have g4 : (((N1 : Int) - (N2 : Int)) == (p1.to - p1.fr)) = true := by rw [g3]; simp
    replace g3 := Lib.hid g3
    have hN1 : (N1 : Int) ≤ 1048576 := by omega
    have hN2 : (N2 : Int) ≤ 1048576 := by omega
    have k1 : IntKind.i64.wrap ((N1 : Int) - (N2 : Int)) = (N1 : Int) - (N2 : Int) := IntWalk.i64_in _ (by omega)
    have k2 : IntKind.i64.wrap (p1.to - p1.fr) = p1.to - p1.fr := IntWalk.i64_in _ (by omega)
    obtain ⟨cL_0, cL_1, fL_0, fL_1⟩ := hkL.out.two
    go_wp2_with fail
    clear cL_0 cL_1 fL_0 fL_1
    refine (hfr1.out _ hr1.out).mono ?_
    rintro e v25 ⟨a10, c10, rfl, _, hb⟩
    replace hB := Lib.hid (bthen hB.out hb)
    replace hkL := Lib.hid (hkL.out.kept hb)
    replace hkP := Lib.hid (hkP.out.kept hb)
    replace hkM := Lib.hid (hkM.out.kept hb)
    replace hr1 := Lib.hid (hr1.out.kept hb)
    replace hr2 := Lib.hid (hr2.out.kept hb)
    replace hr4 := Lib.hid (hr4.out.kept hb)
    have hltLv25 := hkL.out.lt
    have hltPv25 := hkP.out.lt
    have hltMv25 := hkM.out.lt
    clear hb
    obtain ⟨cM_0, cM_1, fM_0, fM_1⟩ := hkM.out.two
    go_wp2_with fail
    clear cM_0 cM_1 fM_0 fM_1
    refine (hfr2.out _ hr2.out).mono ?_
    rintro e v26 ⟨a11, c11, rfl, _, hb⟩
    replace hB := Lib.hid (bthen hB.out hb)
    replace hkL := Lib.hid (hkL.out.kept hb)
    replace hkP := Lib.hid (hkP.out.kept hb)
    replace hkM := Lib.hid (hkM.out.kept hb)
    replace hr1 := Lib.hid (hr1.out.kept hb)
    replace hr2 := Lib.hid (hr2.out.kept hb)
    replace hr4 := Lib.hid (hr4.out.kept hb)
    have hltLv26 := hkL.out.lt
    have hltPv26 := hkP.out.lt
    have hltMv26 := hkM.out.lt
    clear hb
    obtain ⟨⟨cP_0, cP_1, cP_2, cP_3⟩, fP_0, fP_1, fP_2, fP_3⟩ := hkP.out.four
    obtain ⟨cM_0, cM_1, fM_0, fM_1⟩ := hkM.out.two
    go_wp2_with fail
    clear cP_0 cP_1 cP_2 cP_3 fP_0 fP_1 fP_2 fP_3 cM_0 cM_1 fM_0 fM_1
    refine (hva.out _ hr2.out).mono ?_
    rintro e v27 ⟨rfl, hb⟩
    replace hB := Lib.hid (bthen hB.out hb)
    replace hkL := Lib.hid (hkL.out.kept hb)
    replace hkP := Lib.hid (hkP.out.kept hb)
    replace hkM := Lib.hid (hkM.out.kept hb)
    replace hr1 := Lib.hid (hr1.out.kept hb)
    replace hr2 := Lib.hid (hr2.out.kept hb)
    replace hr4 := Lib.hid (hr4.out.kept hb)
    have hltLv27 := hkL.out.lt
    have hltPv27 := hkP.out.lt
    have hltMv27 := hkM.out.lt
    clear hb
    go_wp2_with fail
    go_ret
    exact ⟨rfl, hB.out⟩
  · have hdb : (DC == 0) = true := by simp [hDC]
    replace hDC := Lib.hid hDC
    have hDC0 : DC = 0 := hDC.out
    subst hDC0
    clear hDC
    have hab : (addCode WD1 xs1 p1 != 0) = true := by simp [hAC]
    replace hAC := Lib.hid hAC
    go_wp2_with fail
    go_ret
    exact ⟨rfl, hB.out⟩
  · have hdb : (DC == 0) = false := by simp [hDC]
    replace hDC := Lib.hid hDC
    obtain ⟨e1, e2, e3, e4, e5, e6⟩ := add_free hAC
    obtain ⟨z1, z2, z3, _, _⟩ := add_zero hAC
    obtain ⟨f1, f2, f3⟩ := itemB_field z2
    obtain ⟨f4, f5, _⟩ := validLay_is z1
    have hfr1 := Lib.hid (fun (W : World) (h1 : RT W a1 xs1) => impl_FreeColumns WD1 a1 c1 xs1 W h1 hs1 hcap1)
    have hfr2 := Lib.hid (fun (W : World) (h1 : RT W a2 (addL WD1 xs1 p1)) => impl_FreeColumns (addW WD1 xs1 p1) a2 c2 (addL WD1 xs1 p1) W h1 hsl hcap2)
    have hva := Lib.hid (fun (W : World) (h1 : RT W a2 (addL WD1 xs1 p1)) => impl_ValidLayout (addW WD1 xs1 p1) a2 c2 (addL WD1 xs1 p1) W h1 hsl hcap2)
    have q1 := freeL_len WD1 xs1
    have q2 := freeL_len (addW WD1 xs1 p1) (addL WD1 xs1 p1)
    rw [hAC]
    rw [← e1, ← e2] at e4 e5 e6
    rw [e1] at e4 e5 e6
    have g1 : layCode (addW WD1 xs1 p1) (addL WD1 xs1 p1) = 0 := by rw [e1]; exact e4
    have g2 : validLayB (addW WD1 xs1 p1) (addL WD1 xs1 p1) = true := by rw [e1]; exact e5
    have g3 : ((freeL WD1 xs1).length : Int) - ((freeL (addW WD1 xs1 p1) (addL WD1 xs1 p1)).length : Int) = p1.to - p1.fr := by rw [e1]; exact e6
    have hfr1' := hfr1.out
    have hfr2' := hfr2.out
    have hva' := hva.out
    rw [e3] at hfr1'
    rw [g1] at hfr2'
    rw [g2] at hva'
    replace hfr1 := Lib.hid hfr1'
    replace hfr2 := Lib.hid hfr2'
    replace hva := Lib.hid hva'
    clear hfr1' hfr2' hva' e1 e2 e3 e4 e5 e6 z1 z2 z3 hAC g1 g2
    generalize (freeL WD1 xs1).length = N1 at *
    generalize (freeL (addW WD1 xs1 p1) (addL WD1 xs1 p1)).length = N2 at *
    have g4 : (((N1 : Int) - (N2 : Int)) == (p1.to - p1.fr)) = true := by rw [g3]; simp
    replace g3 := Lib.hid g3
    have hN1 : (N1 : Int) ≤ 1048576 := by omega
    have hN2 : (N2 : Int) ≤ 1048576 := by omega
    have k1 : IntKind.i64.wrap ((N1 : Int) - (N2 : Int)) = (N1 : Int) - (N2 : Int) := IntWalk.i64_in _ (by omega)
    have k2 : IntKind.i64.wrap (p1.to - p1.fr) = p1.to - p1.fr := IntWalk.i64_in _ (by omega)
    obtain ⟨cL_0, cL_1, fL_0, fL_1⟩ := hkL.out.two
    go_wp2_with fail
    clear cL_0 cL_1 fL_0 fL_1
    refine (hfr1.out _ hr1.out).mono ?_
    rintro e v25 ⟨a10, c10, rfl, _, hb⟩
    replace hB := Lib.hid (bthen hB.out hb)
    replace hkL := Lib.hid (hkL.out.kept hb)
    replace hkP := Lib.hid (hkP.out.kept hb)
    replace hkM := Lib.hid (hkM.out.kept hb)
    replace hr1 := Lib.hid (hr1.out.kept hb)
    replace hr2 := Lib.hid (hr2.out.kept hb)
    replace hr4 := Lib.hid (hr4.out.kept hb)
    have hltLv25 := hkL.out.lt
    have hltPv25 := hkP.out.lt
    have hltMv25 := hkM.out.lt
    clear hb
    obtain ⟨cM_0, cM_1, fM_0, fM_1⟩ := hkM.out.two
    go_wp2_with fail
    clear cM_0 cM_1 fM_0 fM_1
    refine (hfr2.out _ hr2.out).mono ?_
    rintro e v26 ⟨a11, c11, rfl, _, hb⟩
    replace hB := Lib.hid (bthen hB.out hb)
    replace hkL := Lib.hid (hkL.out.kept hb)
    replace hkP := Lib.hid (hkP.out.kept hb)
    replace hkM := Lib.hid (hkM.out.kept hb)
    replace hr1 := Lib.hid (hr1.out.kept hb)
    replace hr2 := Lib.hid (hr2.out.kept hb)
    replace hr4 := Lib.hid (hr4.out.kept hb)
    have hltLv26 := hkL.out.lt
    have hltPv26 := hkP.out.lt
    have hltMv26 := hkM.out.lt
    clear hb
    obtain ⟨⟨cP_0, cP_1, cP_2, cP_3⟩, fP_0, fP_1, fP_2, fP_3⟩ := hkP.out.four
    obtain ⟨cM_0, cM_1, fM_0, fM_1⟩ := hkM.out.two
    go_wp2_with fail
    clear cP_0 cP_1 cP_2 cP_3 fP_0 fP_1 fP_2 fP_3 cM_0 cM_1 fM_0 fM_1
    refine (hva.out _ hr2.out).mono ?_
    rintro e v27 ⟨rfl, hb⟩
    replace hB := Lib.hid (bthen hB.out hb)
    replace hkL := Lib.hid (hkL.out.kept hb)
    replace hkP := Lib.hid (hkP.out.kept hb)
    replace hkM := Lib.hid (hkM.out.kept hb)
    replace hr1 := Lib.hid (hr1.out.kept hb)
    replace hr2 := Lib.hid (hr2.out.kept hb)
    replace hr4 := Lib.hid (hr4.out.kept hb)
    have hltLv27 := hkL.out.lt
    have hltPv27 := hkP.out.lt
    have hltMv27 := hkM.out.lt
    clear hb
    go_wp2_with fail
    go_ret
    exact ⟨rfl, hB.out⟩
  · have hdb : (DC == 0) = false := by simp [hDC]
    replace hDC := Lib.hid hDC
    have hab : (addCode WD1 xs1 p1 != 0) = true := by simp [hAC]
    replace hAC := Lib.hid hAC
    go_wp2_with fail
    go_ret
    exact ⟨rfl, hB.out⟩

/-- What the walk gives, for every argument and every world that holds the tables. -/
theorem contract (H : Type) (enc : TypeId × Value → H) (W : World) (base : Nat) (args : Array Value) (ds gs : List (DataW H)) (before : List MemPlace)
    (hval0 : ∀ (j : Nat) t v, Tryz.f4.params[j]? = some t → args[j]? = some v → Value.okWide Tryz.prog W .any base t v)
    (hW : DataW.Whole enc Tryz.prog Tryz.f4.params.toList Rows.fnLayoutsSpec.vars false W args.toList ds gs before) (hL : laidMetH Tryz.prog Rows.fnLayoutsRow.laid W) (hS : W.ShapedOpen Tryz.prog) :
    Calls Tryz.prog 4 args W fun e W' => ∃ v, e = .returned v ∧ Rows.fnLayoutsSpec.post enc Tryz.prog Tryz.f4 false true false false W args v W' := by
  have hval : ∀ (j : Nat) t v, Tryz.f4.params[j]? = some t → args[j]? = some v → Value.okWide Tryz.prog W .any base t v := hval0
  have hW' := hW
  obtain ⟨p, q, hA0, hV, rfl, hfz, hnd⟩ := hW
  have hA : DataW.TrodAll enc Tryz.prog W 0 (fun _ => true) true Tryz.f4.params.toList args.toList ds p := hA0
  rw [Tryz.params4] at hA hval
  obtain ⟨v0, vs0, d0, ds0, p0, q0, hargs, rfl, rfl, h0, r0⟩ := trodAll_cons hA
  obtain ⟨rfl, rfl, rfl⟩ := trodAll_nil r0
  obtain rfl : args = #[v0] := by cases args; simp_all
  obtain ⟨rfl, rfl⟩ := trodVars_none hV
  have k0 := h0
  have lt0 : ∀ x ∈ p0, x.block < W.heap.size := by obtain ⟨m, hm⟩ := k0; exact DataW.trod_lt m _ _ _ hm
  obtain ⟨a0, c0, x0, rfl, hx0, _, hm0⟩ := open_bytes Tryz.underlying43 Tryz.underlying5 (by kernel_rfl) (hval 0 43 v0 rfl rfl) h0
  replace hm0 : x0.length ≤ maxLen := by omega
  clear hA0 hval0
  refine (walk a0 c0 x0 W hx0 hm0 (pow10_of (l := Rows.fnLayoutsRow.laid) hL (by simp [Rows.fnLayoutsRow]))).mono fun e W' ⟨he, bel⟩ => ?_
  subst he
  exact ⟨_, rfl, _, _, _, [], _, [], hW', trodAll_mk1 (shut_bool Tryz.underlying4 _), (trodAll_cons_mk (Below.trod laidOut (by kernel_rfl) (of_decide_eq_true (by kernel_rfl)) k0 bel lt0) trodAll_mk0), rfl, bel.frame _, fun h => by cases h⟩

/-- A world for the witness: the settled one, the listed tables laid. -/
noncomputable def laidWorld (os : Os) : World := { World.holding Tryz.prog os ⟨#[], #[], []⟩ with heap := layAt (layAt (layAt (layAt (layAt ((World.holding Tryz.prog os ⟨#[], #[], []⟩).heap) 7 (Rows.laid_math_bits_deBruijn32tab)) 8 (Rows.laid_math_bits_deBruijn64tab)) 2 (Rows.laid_internal_strconv_uint64pow10)) 6 (Rows.laid_unicode_utf8_acceptRanges)) 5 (Rows.laid_unicode_utf8_first) }
theorem laid_met (os : Os) : laidMet Tryz.prog Rows.fnLayoutsRow.laid ((laidWorld os).forCall (fun _ _ => 0) ⟨#[], #[.slice none 0 0], []⟩).memory :=
  laidMet_of_run' 8 (by kernel_rfl) (by kernel_rfl)
theorem reads (os : Os) {H : Type} (enc : TypeId × Value → H) : ∃ x : List (DataW H) × List (DataW H) × List MemPlace, DataW.whole enc Tryz.prog ((laidWorld os).forCall (fun _ _ => 0) ⟨#[], #[.slice none 0 0], []⟩).memory Tryz.f4.params.toList Rows.fnLayoutsSpec.vars false #[.slice none 0 0].toList 8 = some x :=
  Option.isSome_iff_exists.1 (by kernel_rfl)

set_option maxRecDepth 100000 in
theorem lifted (os : Os) (started : os.Started) (H : Type) (enc : TypeId × Value → H) (F : Stop.Interp) :
    ReturnsInHanded {} Tryz.checked os 4 .any ((OpenSpec.ofChange Rows.fnLayoutsSpec).preRow enc Tryz.prog Tryz.f4 Rows.fnLayoutsRow.domain false Rows.fnLayoutsRow.laid) (((OpenSpec.ofChange Rows.fnLayoutsSpec).at F).post enc Tryz.prog Tryz.f4 false true false false) := by
  obtain ⟨x, hx⟩ := reads os enc
  refine returnsInHanded_of_row (C := Tryz.checked) (s := OpenSpec.ofChange Rows.fnLayoutsSpec) own started (by kernel_rfl) Tryz.func4
    (witness_row_at (enc := enc) (C := Tryz.checked) false (laidWorld os) #[.slice none 0 0] rfl (by kernel_rfl) (by kernel_rfl) (by kernel_rfl)
      (OpenSpec.preRow_of_cond 8 hx (by kernel_rfl) (fun k hk => by cases hk) (by kernel_rfl) (laid_met os))) ?_
  intro W base args ds gs before hval hW _ _ _ hL hS _
  exact contract H enc W base args ds gs before hval hW hL hS

theorem said : Rows.FnLayoutsSaid :=
  OpenClaim.holds_of_cond 4 Tryz.f4 rfl rfl rfl rfl rfl rfl rfl ⟨rfl, rfl, rfl, rfl, rfl⟩ rfl rfl rfl rfl rfl (by kernel_rfl) Tryz.func4 (by kernel_rfl)
    (of_decide_eq_true (by kernel_rfl)) (by unfold Func.isWrapper; first | (rw [if_pos (by decide +kernel)]; kernel_rfl) | (rw [if_neg (by decide +kernel)]; exact ⟨rfl, rfl⟩))
    (fun os started H enc _ F => by rw [OpenClaim.pre_eq_preRow]; exact lifted os started H enc F)

theorem noStand : (Tryz.f4.params.toList.all fun t => !Tryz.prog.wantsStandIn t) = true := by kernel_rfl
/-- No parameter wants a stand-in; the program's own looks are off. -/
theorem plain (g : FuncId) (fn : Func) (hf : Tryz.pinned.checked.prog.funcNamed "loop.example/g01012/laws.FnLayouts" = some g) (hfn : Tryz.pinned.checked.prog.funcs[g]? = some fn) :
    true = Tryz.pinned.checked.prog.looks [] ∧ ∀ (j : Nat) t, fn.params[j]? = some t → Tryz.pinned.checked.prog.wantsStandIn t = false := by
  obtain rfl : g = 4 := Option.some.inj ((show Tryz.prog.funcNamed "loop.example/g01012/laws.FnLayouts" = some 4 by kernel_rfl).symm.trans hf) |>.symm
  obtain rfl : fn = Tryz.f4 := (Option.some.inj (Tryz.func4.symm.trans hfn)).symm
  refine ⟨by kernel_rfl, fun j t ht => ?_⟩
  have h1 := List.all_eq_true.1 noStand t (by have := Array.mem_of_getElem? ht; simpa using this)
  have h2 : Tryz.prog.wantsStandIn t = false := by simpa using h1
  exact h2

/-- The card. -/
theorem proved : Rows.FnLayoutsCardSaid :=
  Claim7.holds_tied_plain_at .later [] _ _ _ _ said (fun _ h => by cases h) (by kernel_rfl) (fun _ h => by cases h) fnLayouts_row_tie rfl ⟨rfl, rfl⟩ (by kernel_rfl) rfl plain (by kernel_rfl)
#print axioms proved
end Go.Proofs.YtcbjfgjlhjjpiaaGreatDoor.fnLayouts
