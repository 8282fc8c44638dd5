/- FnNumbers: for all arguments the law returns true, and memory that was there is as it was. No condition. -/
import Derived.Test.YtcbjfgjlhjjpiaaDoorRows
import Derived.Test.YtcbjfgjlhjjpiaaDoorCards
import Derived.Deep.DeepWitnessRowRef
import Derived.LaidMore
import Derived.Test.YtcbjfgjlhjjpiaaDoorTie
import Derived.Deep.DeepHandedRow
import Derived.Lib.LaidTab
import Derived.Stop.LaidErr
import Derived.OpenVars
import Derived.Test.YtcbjfgjlhjjpiaaDoorTabs
import Derived.Test.YtcbjfgjlhjjpiaaDoorOpen
import Derived.Deep.RegionHeld3
import Derived.Deep.CutRange
import Derived.ShutString
import Derived.Test.YtcbjfgjlhjjpiaaDoorOpenB
import Derived.Test.YtcbjfgjlhjjpiaaDoorA2
import Derived.Test.YtcbjfgjlhjjpiaaDoorDraw
import Derived.Test.YtcbjfgjlhjjpiaaDoorPlainN
import Derived.Test.YtcbjfgjlhjjpiaaDoorPlainH
import Derived.Test.YtcbjfgjlhjjpiaaDoorMark
import Derived.Test.YtcbjfgjlhjjpiaaDoorNumIn
import Derived.Test.YtcbjfgjlhjjpiaaDoorPutN
import Derived.Test.YtcbjfgjlhjjpiaaDoorCrd
namespace Go.Proofs.YtcbjfgjlhjjpiaaDoor.fnNumbers
open Go.ChangeShapes Go.WideShapes Go.ChangeAt Go.RowKit
open Go.ChangeMaps (open_string shut_string)
set_option linter.unusedVariables false
set_option linter.unusedSimpArgs false
set_option linter.unnecessarySimpa false
set_option maxRecDepth 100000

theorem own : ownKnob Tryd.prog.godebug = none := by kernel_rfl
theorem laidOut : laidOutB Tryd.prog = true := by kernel_rfl

set_option maxHeartbeats 4000000 in
/-- The Go text returns true; memory has at most new blocks. -/
theorem walk (a0 : Option Addr) (c0 : Nat) (x0 : List UInt8) (a1 : Option Addr) (c1 : Nat) (x1 : List UInt8) (w : World) (hx0 : RB w a0 x0) (hm0 : x0.length ≤ maxLen) (hx1 : RB w a1 x1) (hm1 : x1.length ≤ maxLen) (ht : Pow10 w) :
    Calls Tryd.prog 4 #[.slice a0 x0.length c0, .slice a1 x1.length c1] w fun e w' => e = .returned (.bool true) ∧ Below w.heap.size w w' := by
  by_cases hlong : 3000 < x0.length ∨ 3000 < x1.length
  · have hc := Lib.hid (laws_a2Long_yes a0 c0 x0.length a1 c1 x1.length w hm0 hm1 hlong)
    go_enter Tryd.func4, Tryd.ntmps4
    go_wp2_with (go_at_call 10; ((with_reducible refine hc.out.mono ?_); rintro e w' ⟨rfl, rfl⟩))
    go_ret
    exact ⟨rfl, Below.refl _ _⟩
  have hl0 : x0.length ≤ 3000 := by omega
  have hl1 : x1.length ≤ 3000 := by omega
  have hc := Lib.hid (laws_a2Long_no a0 c0 x0.length a1 c1 x1.length w hl0 hl1)
  clear hlong
  go_enter Tryd.func4, Tryd.ntmps4
  go_wp2_with (go_at_call 10; ((with_reducible refine hc.out.mono ?_); rintro e w' ⟨rfl, rfl⟩))
  refine (spec_A2Card a0 c0 x0 _ hx0 (by omega)).mono ?_
  rintro e w1 ⟨a3, c3, xs, rfl, ⟨hn1, hn6⟩, hP, hown, hb⟩
  have hv := Lib.hid (show validCardL xs = true from card_valid hn1 (by omega) hP)
  have hx := Lib.hid (own_RI hown)
  have hP' := Lib.hid hP
  have hB1 := Lib.hid hb
  clear hown hP hb hc
  have ha := below_alloc2 w1 (.cells #[.slice a3 xs.length c3] 28) (.cells #[.slice a3 xs.length c3] 28)
  have hfd := Lib.hid (laws_a2Field (some ⟨w1.heap.size + 1, 0, none⟩) 1 [xs] a1 c1 x1 _ (RDx.one (c := c3) (by simp [go_sem]) (hx.out.kept ha)) (by simp [maxLen]) (hx1.kept (bthen hB1.out ha)) (by omega) hn1 (by show xs.length ≤ 65536; omega))
  have hca : ((w1.alloc (.cells #[.slice a3 xs.length c3] 28)).alloc (.cells #[.slice a3 xs.length c3] 28)).cell? ⟨w1.heap.size, 0, none⟩ = some (.slice a3 xs.length c3) := by simp [go_sem]
  have hB2 := Lib.hid (bthen hB1.out ha)
  replace hx := Lib.hid (hx.out.kept ha)
  clear ha
  go_wp2_with fail
  refine hfd.out.mono ?_
  rintro e w2 ⟨f, t, rfl, hft, htn, hb⟩
  replace htn : t ≤ xs.length := htn
  clear hfd
  have ha := below_alloc (w := w2) (.cells #[.int .i64 f, .int .i64 t] 31)
  have hcc := keep ha (keep hb hca)
  have hcf0 : (w2.alloc (.cells #[.int .i64 f, .int .i64 t] 31)).cell? ⟨w2.heap.size, 0, none⟩ = some (.int .i64 f) := by simp [go_sem]
  have hcf1 : (w2.alloc (.cells #[.int .i64 f, .int .i64 t] 31)).cell? ⟨w2.heap.size, 1, none⟩ = some (.int .i64 t) := by simp [go_sem]
  replace hx := Lib.hid ((hx.out.kept hb).kept ha)
  have hB3 := Lib.hid (bthen (bthen hB2.out hb) ha)
  clear ha hb hca
  have hat2 := Lib.hid (fun (U : World) (hU : RB U a1 x1) => laws_a2At a1 c1 x1 2 256 U hU (by omega) (by omega) (by omega) (by omega))
  have hat3 := Lib.hid (fun (U : World) (hU : RB U a1 x1) => laws_a2At a1 c1 x1 3 50 U hU (by omega) (by omega) (by omega) (by omega))
  have hxb := Lib.hid (hx1.kept hB3.out)
  generalize hW : (w2.alloc (.cells #[.int .i64 f, .int .i64 t] 31)) = W at *
  go_wp2_with fail
  refine (hat2.out _ hxb.out).mono ?_
  rintro e w' ⟨⟨r, rfl, r0, r1, _⟩, rfl⟩
  replace r1 := r1 (by omega)
  go_wp2_with fail
  refine (hat3.out _ hxb.out).mono ?_
  rintro e w' ⟨⟨q, rfl, q0, q1, _⟩, rfl⟩
  replace q1 := q1 (by omega)
  clear hat2 hat3 hxb
  obtain ⟨n, hn⟩ : ∃ n, n = r * (1 + q) - 900 := ⟨_, rfl⟩
  have hk0 : 0 ≤ r * (1 + q) := Int.mul_nonneg r0 (by omega)
  have hk1 : r * (1 + q) ≤ 255 * 50 := Int.mul_le_mul (by omega) (by omega) (by omega) (by omega)
  have hq1 : IntKind.i64.wrap (1 + q) = 1 + q := IntWalk.i64_in _ (by omega)
  have hq2 : IntKind.i64.wrap (r * (1 + q)) = r * (1 + q) := IntWalk.i64_in _ (by omega)
  have hq3 : IntKind.i64.wrap (r * (1 + q) - 900) = n := by rw [hn]; exact IntWalk.i64_in _ (by omega)
  have hn0 : -900 ≤ n := by omega
  have hn1' : n ≤ 12750 := by omega
  clear hn
  go_wp2_with fail
  clear hq1 hq2 hq3 hk0 hk1 r0 r1 q0 q1
  have hsp := punched_num (n := n) hv.out hP'.out hft htn (by omega) (by omega)
  have hPN := Lib.hid (fun (U : World) (hU : RI U a3 xs) (hT : Pow10 U) => impl_PunchNumber a3 c3 xs f t n U hU (by omega) hT)
  rcases hsp with ⟨p1, p2⟩ | ⟨p1, p2, p3, p4, p5⟩
  · have hpl := (pn_not p1 rfl).2
    have hpu := Lib.hid (fun (U : World) (hU : RI U a3 xs) (hT : Pow10 U) => (show Calls Tryd.prog 14 #[.agg #[.slice a3 xs.length c3], .agg #[.int .i64 f, .int .i64 t], .int .i64 n] U fun e w' => ∃ a' c', e = .returned (.tuple #[.agg #[.slice a' 0 c'], .int .i64 5]) ∧ Below U.heap.size U w' by
      refine (hPN.out U hU hT).mono ?_
      rintro e w' ⟨a', c', he, _, hb⟩
      rw [p1, hpl] at he
      exact ⟨a', c', he, hb⟩))
    have hwn : IntKind.i64.wrap (-n) = -n := IntWalk.i64_in _ (by omega)
    have hmx : 10 ≤ max n (-n) := by omega
    have hmd : decide (10 ≤ max n (-n)) = true := decide_eq_true hmx
    clear p1 p2 hpl hPN
    refine (hpu.out _ hx.out (Pow10.kept ht hB3.out)).mono ?_
    rintro e w3 ⟨a5, c5, rfl, hb⟩
    have hB4 := Lib.hid (bthen hB3.out hb)
    clear hb
    go_wp2_with fail
    go_ret
    exact ⟨by first | rfl | exact ret_bool (by simp [*]), bthen hB4.out (below_alloc _)⟩
  · obtain ⟨ys, hys⟩ : ∃ ys, ys = pnL xs f t n := ⟨_, rfl⟩
    have hpu := Lib.hid (fun (U : World) (hU : RI U a3 xs) (hT : Pow10 U) => (show Calls Tryd.prog 14 #[.agg #[.slice a3 xs.length c3], .agg #[.int .i64 f, .int .i64 t], .int .i64 n] U fun e w' => ∃ a' c', e = .returned (.tuple #[.agg #[.slice a' xs.length c'], .int .i64 0]) ∧ RI w' a' ys ∧ xs.length ≤ c' ∧ Below U.heap.size U w' by
      refine (hPN.out U hU hT).mono ?_
      rintro e w' ⟨a', c', he, ho, hb⟩
      rw [p1, p2] at he
      refine ⟨a', c', he, by rw [hys]; exact own_RI ho, ?_, hb⟩
      obtain ⟨_, _, he', _, h4, _⟩ := own_slice ho
      simp only [Value.slice.injEq] at he'
      omega))
    rw [← hys] at p2 p3 p4 p5
    obtain ⟨p3, p6⟩ := p3 (by omega)
    have hni := Lib.hid (fun (U : World) (a : Option Addr) (c : Nat) (hU : RI U a ys) (hc : xs.length ≤ c) => (show Calls Tryd.prog 15 #[.agg #[.slice a xs.length c], .agg #[.int .i64 f, .int .i64 t]] U fun e w' => e = .returned (.tuple #[.int .i64 n, .int .i64 0]) ∧ Below U.heap.size U w' by
      have h := impl_NumberIn a c ys f t U hU (by omega) (by omega)
      rw [p2, p3, p6] at h; exact h))
    have hvc := Lib.hid (fun (U : World) (a : Option Addr) (c : Nat) (hU : RI U a ys) => (show Calls Tryd.prog 16 #[.agg #[.slice a xs.length c]] U fun e w' => e = .returned (.bool true) ∧ Below U.heap.size U w' by
      have h := spec_ValidCard a c ys U hU (by rw [p2]; unfold maxLen; omega)
      rw [p2, p4] at h; exact h))
    have hoth := Lib.hid p5
    have hyl := Lib.hid p2
    have hne : ((xs.length : Int) != (xs.length : Int)) = false := by simp
    have hnn : (n != n) = false := by simp
    clear p1 p2 p3 p4 p5 p6 hys hPN
    refine (hpu.out _ hx.out (Pow10.kept ht hB3.out)).mono ?_
    rintro e w3 ⟨a5, c5, rfl, hy, hcap, hb⟩
    have ha := below_alloc (w := w3) (.cells #[.slice a5 xs.length c5] 28)
    replace hcc := keep ha (keep hb hcc)
    replace hcf0 := keep ha (keep hb hcf0)
    replace hcf1 := keep ha (keep hb hcf1)
    have hcd : (w3.alloc (.cells #[.slice a5 xs.length c5] 28)).cell? ⟨w3.heap.size, 0, none⟩ = some (.slice a5 xs.length c5) := by simp [go_sem]
    replace hx := Lib.hid ((hx.out.kept hb).kept ha)
    have hy' := Lib.hid (hy.kept ha)
    have hB4 := Lib.hid (bthen (bthen hB3.out hb) ha)
    clear hb ha hy hpu
    go_wp2_with fail
    refine (hni.out _ _ _ hy'.out hcap).mono ?_
    rintro e w4 ⟨rfl, hb⟩
    replace hcc := keep hb hcc
    replace hcf0 := keep hb hcf0
    replace hcf1 := keep hb hcf1
    replace hcd := keep hb hcd
    replace hx := Lib.hid (hx.out.kept hb)
    replace hy' := Lib.hid (hy'.out.kept hb)
    replace hB4 := Lib.hid (bthen hB4.out hb)
    clear hb hni
    go_wp2_with fail
    refine (hvc.out _ _ _ hy'.out).mono ?_
    rintro e w5 ⟨rfl, hb⟩
    replace hcc := keep hb hcc
    replace hcf0 := keep hb hcf0
    replace hcf1 := keep hb hcf1
    replace hcd := keep hb hcd
    replace hx := Lib.hid (hx.out.kept hb)
    replace hy' := Lib.hid (hy'.out.kept hb)
    replace hB4 := Lib.hid (bthen hB4.out hb)
    clear hb hvc
    go_wp2_with fail
    go_loopw [12] (fun i wr => ∃ k : Nat, k ≤ xs.length ∧ i = .int .i64 k ∧ Below w5.heap.size w5 wr) (fun i _ => xs.length - (intOf i).toNat)
    case atStart => exact ⟨0, by omega, rfl, Below.refl _ _⟩
    case round =>
      obtain ⟨k, hk, rfl, hbr⟩ := hrel
      have rcc := keep hbr hcc
      have rcf0 := keep hbr hcf0
      have rcf1 := keep hbr hcf1
      have rcd := keep hbr hcd
      by_cases hlt : k < xs.length
      · have hlt' : (k : Int) < (xs.length : Int) := by omega
        obtain ⟨x, hxk⟩ := get_some (l := xs) (k := k) hlt
        obtain ⟨y, hyk⟩ := get_some (l := ys) (k := k) (by rw [hyl.out]; exact hlt)
        obtain ⟨b3, o3, rfl, hc3⟩ := (hx.out.kept hbr).at hxk
        obtain ⟨b5, o5, rfl, hc5⟩ := (hy'.out.kept hbr).at hyk
        by_cases hkf : k < f
        · have hd1 : decide ((k : Int) < (f : Int)) = true := decide_eq_true (by omega)
          have hd1' : decide (k < f) = true := decide_eq_true hkf
          have e := hoth.out k (.inl hkf)
          rw [hxk, hyk] at e
          obtain rfl := Option.some.inj e
          have hxx : (y != y) = false := by simp
          clear e hxk hyk
          go_wp2_with fail
          first | go_quiet (fail) | fail
          go_wp2_with fail
          go_roundw
          case rel => exact ⟨k + 1, by omega, by go_num, below_drewN hbr _⟩
          case measure => simp [intOf]; omega
        · have hd1 : decide ((k : Int) < (f : Int)) = false := decide_eq_false (by omega)
          have hd1' : decide (k < f) = false := decide_eq_false hkf
          by_cases hkt : t ≤ k
          · have hd2 : decide ((t : Int) ≤ (k : Int)) = true := decide_eq_true (by omega)
            have hd2' : decide (t ≤ k) = true := decide_eq_true hkt
            have e := hoth.out k (.inr hkt)
            rw [hxk, hyk] at e
            obtain rfl := Option.some.inj e
            have hxx : (y != y) = false := by simp
            clear e hxk hyk
            go_wp2_with fail
            first | go_quiet (fail) | fail
            go_wp2_with fail
            go_roundw
            case rel => exact ⟨k + 1, by omega, by go_num, below_drewN hbr _⟩
            case measure => simp [intOf]; omega
          · have hd2 : decide ((t : Int) ≤ (k : Int)) = false := decide_eq_false (by omega)
            have hd2' : decide (t ≤ k) = false := decide_eq_false hkt
            clear hxk hyk
            go_wp2_with fail
            first | go_quiet (fail) | fail
            go_wp2_with fail
            go_roundw
            case rel => exact ⟨k + 1, by omega, by go_num, below_drewN hbr _⟩
            case measure => simp [intOf]; omega
      · have hBr := Lib.hid (bthen hB4.out hbr)
        go_wp2_with fail
        go_ret
        exact ⟨rfl, hBr.out⟩

/-- What the walk gives, for every argument and every world that holds the tables. -/
theorem contract (H : Type) (enc : TypeId × Value → H) (W : World) (base : Nat) (args : Array Value) (ds gs : List (DataW H)) (before : List MemPlace)
    (hval0 : ∀ (j : Nat) t v, Tryd.f4.params[j]? = some t → args[j]? = some v → Value.okWide Tryd.prog W .any base t v)
    (hW : DataW.Whole enc Tryd.prog Tryd.f4.params.toList Rows.fnNumbersSpec.vars false W args.toList ds gs before) (hL : laidMetH Tryd.prog Rows.fnNumbersRow.laid W) (hS : W.ShapedOpen Tryd.prog) :
    Calls Tryd.prog 4 args W fun e W' => ∃ v, e = .returned v ∧ Rows.fnNumbersSpec.post enc Tryd.prog Tryd.f4 false true false false W args v W' := by
  have hval : ∀ (j : Nat) t v, Tryd.f4.params[j]? = some t → args[j]? = some v → Value.okWide Tryd.prog W .any base t v := hval0
  have hW' := hW
  obtain ⟨p, q, hA0, hV, rfl, hfz, hnd⟩ := hW
  have hA : DataW.TrodAll enc Tryd.prog W 0 (fun _ => true) true Tryd.f4.params.toList args.toList ds p := hA0
  rw [Tryd.params4] at hA hval
  obtain ⟨v0, vs0, d0, ds0, p0, q0, hargs, rfl, rfl, h0, r0⟩ := trodAll_cons hA
  obtain ⟨v1, vs1, d1, ds1, p1, q1, rfl, rfl, rfl, h1, r1⟩ := trodAll_cons r0
  obtain ⟨rfl, rfl, rfl⟩ := trodAll_nil r1
  obtain rfl : args = #[v0, v1] := by cases args; simp_all
  obtain ⟨rfl, rfl⟩ := trodVars_none hV
  have k0 := h0
  have lt0 : ∀ x ∈ p0, x.block < W.heap.size := by obtain ⟨m, hm⟩ := k0; exact DataW.trod_lt m _ _ _ hm
  obtain ⟨a0, c0, x0, rfl, hx0, _, hm0⟩ := open_bytes Tryd.underlying24 Tryd.underlying5 (by kernel_rfl) (hval 0 24 v0 rfl rfl) h0
  replace hm0 : x0.length ≤ maxLen := by omega
  have k1 := h1
  have lt1 : ∀ x ∈ p1, x.block < W.heap.size := by obtain ⟨m, hm⟩ := k1; exact DataW.trod_lt m _ _ _ hm
  obtain ⟨a1, c1, x1, rfl, hx1, _, hm1⟩ := open_bytes Tryd.underlying24 Tryd.underlying5 (by kernel_rfl) (hval 1 24 v1 rfl rfl) h1
  replace hm1 : x1.length ≤ maxLen := by omega
  clear hA0 hval0
  refine (walk a0 c0 x0 a1 c1 x1 W hx0 hm0 hx1 hm1 (pow10_of (l := Rows.fnNumbersRow.laid) hL (by simp [Rows.fnNumbersRow]))).mono fun e W' ⟨he, bel⟩ => ?_
  subst he
  exact ⟨_, rfl, _, _, _, [], _, [], hW', trodAll_mk1 (shut_bool Tryd.underlying4 _), (trodAll_cons_mk (Below.trod laidOut (by kernel_rfl) (of_decide_eq_true (by kernel_rfl)) k0 bel lt0) (trodAll_cons_mk (Below.trod laidOut (by kernel_rfl) (of_decide_eq_true (by kernel_rfl)) k1 bel lt1) trodAll_mk0)), rfl, bel.frame _, fun h => by cases h⟩

/-- A world for the witness: the settled one, the listed tables laid. -/
noncomputable def laidWorld (os : Os) : World := { World.holding Tryd.prog os ⟨#[], #[], []⟩ with heap := layAt (layAt (layAt ((World.holding Tryd.prog os ⟨#[], #[], []⟩).heap) 7 (Rows.laid_math_bits_deBruijn32tab)) 8 (Rows.laid_math_bits_deBruijn64tab)) 4 (Rows.laid_internal_strconv_uint64pow10) }
theorem laid_met (os : Os) : laidMet Tryd.prog Rows.fnNumbersRow.laid ((laidWorld os).forCall (fun _ _ => 0) ⟨#[], #[.slice none 0 0, .slice none 0 0], []⟩).memory :=
  laidMet_of_run' 8 (by kernel_rfl) (by kernel_rfl)
theorem reads (os : Os) {H : Type} (enc : TypeId × Value → H) : ∃ x : List (DataW H) × List (DataW H) × List MemPlace, DataW.whole enc Tryd.prog ((laidWorld os).forCall (fun _ _ => 0) ⟨#[], #[.slice none 0 0, .slice none 0 0], []⟩).memory Tryd.f4.params.toList Rows.fnNumbersSpec.vars false #[.slice none 0 0, .slice none 0 0].toList 8 = some x :=
  Option.isSome_iff_exists.1 (by kernel_rfl)

set_option maxRecDepth 100000 in
theorem lifted (os : Os) (started : os.Started) (H : Type) (enc : TypeId × Value → H) (F : Stop.Interp) :
    ReturnsInHanded {} Tryd.checked os 4 .any ((OpenSpec.ofChange Rows.fnNumbersSpec).preRow enc Tryd.prog Tryd.f4 Rows.fnNumbersRow.domain false Rows.fnNumbersRow.laid) (((OpenSpec.ofChange Rows.fnNumbersSpec).at F).post enc Tryd.prog Tryd.f4 false true false false) := by
  obtain ⟨x, hx⟩ := reads os enc
  refine returnsInHanded_of_row (C := Tryd.checked) (s := OpenSpec.ofChange Rows.fnNumbersSpec) own started (by kernel_rfl) Tryd.func4
    (witness_row_at (enc := enc) (C := Tryd.checked) false (laidWorld os) #[.slice none 0 0, .slice none 0 0] rfl (by kernel_rfl) (by kernel_rfl) (by kernel_rfl)
      (OpenSpec.preRow_of_cond 8 hx (by kernel_rfl) (fun k hk => by cases hk) (by kernel_rfl) (laid_met os))) ?_
  intro W base args ds gs before hval hW _ _ _ hL hS _
  exact contract H enc W base args ds gs before hval hW hL hS

theorem said : Rows.FnNumbersSaid :=
  OpenClaim.holds_of_cond 4 Tryd.f4 rfl rfl rfl rfl rfl rfl rfl ⟨rfl, rfl, rfl, rfl, rfl⟩ rfl rfl rfl rfl rfl (by kernel_rfl) Tryd.func4 (by kernel_rfl)
    (of_decide_eq_true (by kernel_rfl)) (by unfold Func.isWrapper; first | (rw [if_pos (by decide +kernel)]; kernel_rfl) | (rw [if_neg (by decide +kernel)]; exact ⟨rfl, rfl⟩))
    (fun os started H enc _ F => by rw [OpenClaim.pre_eq_preRow]; exact lifted os started H enc F)

theorem noStand : (Tryd.f4.params.toList.all fun t => !Tryd.prog.wantsStandIn t) = true := by kernel_rfl
/-- No parameter wants a stand-in; the program's own looks are off. -/
theorem plain (g : FuncId) (fn : Func) (hf : Tryd.pinned.checked.prog.funcNamed "loop.example/g01012/laws.FnNumbers" = some g) (hfn : Tryd.pinned.checked.prog.funcs[g]? = some fn) :
    true = Tryd.pinned.checked.prog.looks [] ∧ ∀ (j : Nat) t, fn.params[j]? = some t → Tryd.pinned.checked.prog.wantsStandIn t = false := by
  obtain rfl : g = 4 := Option.some.inj ((show Tryd.prog.funcNamed "loop.example/g01012/laws.FnNumbers" = some 4 by kernel_rfl).symm.trans hf) |>.symm
  obtain rfl : fn = Tryd.f4 := (Option.some.inj (Tryd.func4.symm.trans hfn)).symm
  refine ⟨by kernel_rfl, fun j t ht => ?_⟩
  have h1 := List.all_eq_true.1 noStand t (by have := Array.mem_of_getElem? ht; simpa using this)
  have h2 : Tryd.prog.wantsStandIn t = false := by simpa using h1
  exact h2

/-- The card. -/
theorem proved : Rows.FnNumbersCardSaid :=
  Claim7.holds_tied_plain_at .later [] _ _ _ _ said (fun _ h => by cases h) (by kernel_rfl) (fun _ h => by cases h) fnNumbers_row_tie rfl ⟨rfl, rfl⟩ (by kernel_rfl) rfl plain (by kernel_rfl)
#print axioms proved
end Go.Proofs.YtcbjfgjlhjjpiaaDoor.fnNumbers
