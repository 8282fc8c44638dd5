/- FnParts: for all arguments the law returns true, and memory that was there is as it was. No condition. -/
import Derived.Test.YtdjggbccdjbcoaaRows
import Derived.Test.YtdjggbccdjbcoaaOpen
import Derived.Deep.RegionHeld3
import Derived.Deep.CutRange
import Derived.ShutString
import Derived.Test.YtdjggbccdjbcoaaOpenB
import Derived.Test.YtdjggbccdjbcoaaA2
import Derived.Test.YtdjggbccdjbcoaaDraw
import Derived.Test.YtdjggbccdjbcoaaPlain
import Derived.Test.YtdjggbccdjbcoaaMark
namespace Go.Proofs.Ytdjggbccdjbcoaa.fnParts
open Go.ChangeShapes Go.WideShapes Go.ChangeAt Go.RowKit
open Go.ChangeMaps (open_string shut_string)
set_option linter.unusedVariables false
set_option linter.unusedSimpArgs false
set_option linter.unnecessarySimpa false
set_option maxRecDepth 100000

theorem own : ownKnob Try.prog.godebug = none := by kernel_rfl
theorem laidOut : laidOutB Try.prog = true := by kernel_rfl

set_option maxHeartbeats 4000000 in
/-- The Go text returns true; memory has at most new blocks. -/
theorem walk (a0 : Option Addr) (c0 : Nat) (x0 : List UInt8) (a1 : Option Addr) (c1 : Nat) (x1 : List UInt8) (w : World) (hx0 : RB w a0 x0) (hm0 : x0.length ≤ maxLen) (hx1 : RB w a1 x1) (hm1 : x1.length ≤ maxLen) :
    Calls Try.prog 4 #[.slice a0 x0.length c0, .slice a1 x1.length c1] w fun e w' => e = .returned (.bool true) ∧ Below w.heap.size w w' := by
  by_cases hlong : 3000 < x0.length ∨ 3000 < x1.length
  · have hc := Lib.hid (laws_a2Long_yes a0 c0 x0.length a1 c1 x1.length w hm0 hm1 hlong)
    go_enter Try.func4, Try.ntmps4
    go_wp2_with (go_at_call 18; ((with_reducible refine hc.out.mono ?_); rintro e w' ⟨rfl, rfl⟩))
    go_ret
    exact ⟨rfl, Below.refl _ _⟩
  have hl0 : x0.length ≤ 3000 := by omega
  have hl1 : x1.length ≤ 3000 := by omega
  have hc := Lib.hid (laws_a2Long_no a0 c0 x0.length a1 c1 x1.length w hl0 hl1)
  clear hlong
  go_enter Try.func4, Try.ntmps4
  go_wp2_with (go_at_call 18; ((with_reducible refine hc.out.mono ?_); rintro e w' ⟨rfl, rfl⟩))
  refine (spec_A2Card a0 c0 x0 _ hx0 (by omega)).mono ?_
  rintro e w1 ⟨a3, c3, xs, rfl, ⟨hn1, hn6⟩, hP, hown, hb⟩
  have hv := Lib.hid (show validCardL xs = true from card_valid hn1 (by omega) hP)
  obtain ⟨_, hcap, _⟩ : True ∧ xs.length ≤ c3 ∧ True := by obtain ⟨_, _, he, _, h4, _⟩ := own_slice hown; simp only [Value.slice.injEq] at he; exact ⟨trivial, by omega, trivial⟩
  have hx := Lib.hid (own_RI hown)
  have hP' := Lib.hid hP
  have hB1 := Lib.hid hb
  clear hown hP hb hc
  have ha := below_alloc2 w1 (.cells #[.slice a3 xs.length c3] 48) (.cells #[.slice a3 xs.length c3] 48)
  have hfd := Lib.hid (laws_a2Field (some ⟨w1.heap.size + 1, 0, none⟩) 1 [xs] a1 c1 x1 _ (RDx.one (c := c3) (by simp [go_sem]) (hx.out.kept ha)) (by simp [maxLen]) (hx1.kept (bthen hB1.out ha)) (by omega) hn1 (by show xs.length ≤ 65536; omega))
  have hca : ((w1.alloc (.cells #[.slice a3 xs.length c3] 48)).alloc (.cells #[.slice a3 xs.length c3] 48)).cell? ⟨w1.heap.size, 0, none⟩ = some (.slice a3 xs.length c3) := by simp [go_sem]
  have hB2 := Lib.hid (bthen hB1.out ha)
  replace hx := Lib.hid (hx.out.kept ha)
  clear ha
  go_wp2_with fail
  refine hfd.out.mono ?_
  rintro e w2 ⟨f, t, rfl, hft, htn, hb⟩
  replace htn : t ≤ xs.length := htn
  clear hfd
  have ha := below_alloc (w := w2) (.cells #[.int .i64 f, .int .i64 t] 37)
  have hcc := keep ha (keep hb hca)
  have hcf0 : (w2.alloc (.cells #[.int .i64 f, .int .i64 t] 37)).cell? ⟨w2.heap.size, 0, none⟩ = some (.int .i64 f) := by simp [go_sem]
  have hcf1 : (w2.alloc (.cells #[.int .i64 f, .int .i64 t] 37)).cell? ⟨w2.heap.size, 1, none⟩ = some (.int .i64 t) := by simp [go_sem]
  replace hx := Lib.hid ((hx.out.kept hb).kept ha)
  have hB3 := Lib.hid (bthen (bthen hB2.out hb) ha)
  clear ha hb hca
  have hfb := Lib.hid (fieldB_ok (f := (f : Int)) (t := (t : Int)) (n := (xs.length : Int)) (by omega) (by omega) (by omega))
  have hfi := Lib.hid (field_ok (f := (f : Int)) (t := (t : Int)) hv.out hfb.out)
  have hpl := Lib.hid ((partL_length hfb.out).trans (show ((t : Int) - (f : Int)).toNat = t - f by omega))
  have hpo := Lib.hid (partOf_yes hfi.out)
  have hq := Lib.hid (show Calls Try.prog 21 #[.agg #[.slice a3 xs.length c3], .agg #[.int .i64 f, .int .i64 t]] (w2.alloc (.cells #[.int .i64 f, .int .i64 t] 37)) fun e w' => ∃ a' c', e = .returned (.tuple #[.agg #[.slice a' (t - f) c'], .int .i64 0]) ∧ RI w' a' (partL xs f t) ∧ Below (w2.alloc (.cells #[.int .i64 f, .int .i64 t] 37)).heap.size (w2.alloc (.cells #[.int .i64 f, .int .i64 t] 37)) w' by
    refine (impl_PartOf a3 c3 xs f t _ hx.out (by omega) hcap).mono ?_
    rintro e w' ⟨a', c', he, ho, hb⟩
    rw [hpo.out, hpl.out, hfi.out] at he
    refine ⟨a', c', he, ?_, hb⟩
    rw [hpo.out] at ho
    exact own_RI ho)
  go_wp2_with fail
  refine hq.out.mono ?_
  rintro e w3 ⟨a4, c4, rfl, hpx, hb⟩
  clear hq
  replace hcc := keep hb hcc
  replace hcf0 := keep hb hcf0
  replace hcf1 := keep hb hcf1
  replace hx := Lib.hid (hx.out.kept hb)
  replace hB3 := Lib.hid (bthen hB3.out hb)
  have ha := below_alloc (w := w3) (.cells #[.slice a4 (t - f) c4] 48)
  clear hb
  replace hcc := keep ha hcc
  replace hcf0 := keep ha hcf0
  replace hcf1 := keep ha hcf1
  replace hx := Lib.hid (hx.out.kept ha)
  have hpx' := Lib.hid (hpx.kept ha)
  have hcp : (w3.alloc (.cells #[.slice a4 (t - f) c4] 48)).cell? ⟨w3.heap.size, 0, none⟩ = some (.slice a4 (t - f) c4) := by simp [go_sem]
  replace hB3 := Lib.hid (bthen hB3.out ha)
  clear ha hpx
  have hdf : ((t - f : Nat) : Int) = (t : Int) - (f : Int) := by omega
  have hne : (((t - f : Nat) : Int) != (t : Int) - (f : Int)) = false := by rw [hdf]; simp
  have hw1 : IntKind.i64.wrap ((t : Int) - (f : Int)) = (t : Int) - (f : Int) := IntWalk.i64_in _ (by omega)
  generalize hm : t - f = m at *
  have hm' := Lib.hid hm
  have hdf' := Lib.hid hdf
  have hm1 : 1 ≤ m := by omega
  have hm6 : m ≤ 6 := by omega
  clear hm hdf
  go_wp2_with fail
  generalize hW : (w3.alloc (.cells #[.slice a4 m c4] 48)) = W at *
  clear hW hw1
  have hpv := Lib.hid (show validCardL (partL xs f t) = true from card_valid (by rw [hpl.out]; omega) (by rw [hpl.out]; omega) (fun x hx => hP'.out x (partL_mem hx)))
  have hct := Lib.hid (count_part (ys := partL xs f t) (fun x hx => hP'.out x (partL_mem hx)) hpv.out)
  have hbf := Lib.hid (blankField_yes hfi.out)
  have hib := Lib.hid (fun (U : World) (hU : RI U a3 xs) => (show Calls Try.prog 22 #[.agg #[.slice a3 xs.length c3], .agg #[.int .i64 f, .int .i64 t]] U fun e w' => e = .returned (.tuple #[.bool (blankFieldB xs f t), .int .i64 0]) ∧ Below U.heap.size U w' by
    have h := impl_IsBlankField a3 c3 xs f t U hU (by unfold maxLen; omega) hcap
    rw [hfi.out] at h; exact h))
  have hch := Lib.hid (fun (U : World) (hU : RI U a4 (partL xs f t)) => (show Calls Try.prog 23 #[.agg #[.slice a4 m c4]] U fun e w' => e = .returned (.tuple #[.int .i64 (countI (partL xs f t)), .int .i64 0]) ∧ Below U.heap.size U w' by
    have h := spec_CountHoles a4 c4 (partL xs f t) U hU (by rw [hpl.out]; unfold maxLen; omega)
    rw [hct.out.1, hpl.out] at h; exact h))
  have heq := Lib.hid (show (blankFieldB xs f t == (countI (partL xs f t) == 0)) = true by rw [hbf.out, hct.out.2]; simp)
  generalize blankFieldB xs f t = bq at *
  generalize countI (partL xs f t) = cq at *
  go_loopw [9] (fun i wr => ∃ k : Nat, k ≤ m ∧ i = .int .i64 k ∧ Below W.heap.size W wr) (fun i _ => m - (intOf i).toNat)
  case atStart => exact ⟨0, by omega, rfl, Below.refl _ _⟩
  case round =>
    obtain ⟨k, hk, rfl, hbr⟩ := hrel
    have rcc := keep hbr hcc
    have rcf0 := keep hbr hcf0
    have rcf1 := keep hbr hcf1
    have rcp := keep hbr hcp
    by_cases hlt : k < m
    · obtain ⟨y, hyk⟩ := get_some (l := partL xs f t) (k := k) (by rw [hpl.out]; exact hlt)
      obtain ⟨b4, o4, rfl, hc4⟩ := (hpx'.out.kept hbr).at hyk
      rw [partL_at (by rw [hm'.out]; exact hlt)] at hyk
      obtain ⟨b3, o3, rfl, hc3⟩ := (hx.out.kept hbr).at hyk
      have hfk : f + k < xs.length := by have := hm'.out; omega
      have hfk' : (f : Int) + (k : Int) < (xs.length : Int) := by omega
      have hfk0 : (0 : Int) ≤ (f : Int) + (k : Int) := by omega
      have hfn : ((f : Int) + (k : Int)).toNat = f + k := by omega
      have hw1 : IntKind.i64.wrap ((f : Int) + (k : Int)) = (f : Int) + (k : Int) := IntWalk.i64_in _ (by omega)
      have hlt' : (k : Int) < (m : Int) := by omega
      clear hyk
      go_wp2_with fail
      first | go_quiet (fail) | fail
      clear hw1
      go_wp2_with fail
      go_roundw
      case rel => exact ⟨k + 1, by omega, by go_num, below_drewN hbr _⟩
      case measure => simp [intOf]; omega
    · have hBr := Lib.hid (bthen hB3.out hbr)
      have hib1 := Lib.hid (hib.out wr (hx.out.kept hbr))
      have hpr := Lib.hid (hpx'.out.kept hbr)
      go_wp2_with fail
      refine hib1.out.mono ?_
      rintro e w5 ⟨rfl, hb⟩
      have rcp5 := keep hb rcp
      have hBr5 := Lib.hid (bthen hBr.out hb)
      have hch1 := Lib.hid (hch.out w5 (hpr.out.kept hb))
      clear hb
      go_wp2_with fail
      refine hch1.out.mono ?_
      rintro e w6 ⟨rfl, hb⟩
      have hBr6 := Lib.hid (bthen hBr5.out hb)
      clear hb
      have heq' := heq.out
      go_wp2_with fail
      go_ret
      exact ⟨by first | rfl | exact ret_bool heq', hBr6.out⟩

theorem lifted (os : Os) (started : os.Started) (H : Type) (enc : TypeId × Value → H) :
    ReturnsInHanded {} Try.checked os 4 .any (Rows.fnPartsSpec.pre6 enc Try.prog Try.f4 Rows.fnPartsRow.domain false) (Rows.fnPartsSpec.post enc Try.prog Try.f4 false true false false) := by
  refine returnsInHanded_of_change (C := Try.checked) own started (by kernel_rfl) Try.func4
    (ChangeSpec.witness6 (enc := enc) (C := Try.checked) false ⟨#[], #[.slice none 0 0, .slice none 0 0], []⟩ 8 (by kernel_rfl) (by kernel_rfl) (by kernel_rfl) (by kernel_rfl)) ?_
  intro W base args ds gs before hval0 hW hcnd _
  have hval : ∀ (j : Nat) t v, Try.f4.params[j]? = some t → args[j]? = some v → Value.okWide Try.prog W .any base t v := hval0
  have hW' := hW
  obtain ⟨p, q, hA0, hV, rfl, hfz, hnd⟩ := hW
  have hA : DataW.TrodAll enc Try.prog W 0 (fun _ => true) true Try.f4.params.toList args.toList ds p := hA0
  rw [Try.params4] at hA hval
  obtain ⟨v0, vs0, d0, ds0, p0, q0, hargs, rfl, rfl, h0, r0⟩ := trodAll_cons hA
  obtain ⟨v1, vs1, d1, ds1, p1, q1, rfl, rfl, rfl, h1, r1⟩ := trodAll_cons r0
  obtain ⟨rfl, rfl, rfl⟩ := trodAll_nil r1
  obtain rfl : args = #[v0, v1] := by cases args; simp_all
  obtain ⟨rfl, rfl⟩ := trodVars_none hV
  have k0 := h0
  have lt0 : ∀ x ∈ p0, x.block < W.heap.size := by obtain ⟨m, hm⟩ := k0; exact DataW.trod_lt m _ _ _ hm
  obtain ⟨a0, c0, x0, rfl, hx0, _, hm0⟩ := open_bytes Try.underlying44 Try.underlying5 (by kernel_rfl) (hval 0 44 v0 rfl rfl) h0
  replace hm0 : x0.length ≤ maxLen := by omega
  have k1 := h1
  have lt1 : ∀ x ∈ p1, x.block < W.heap.size := by obtain ⟨m, hm⟩ := k1; exact DataW.trod_lt m _ _ _ hm
  obtain ⟨a1, c1, x1, rfl, hx1, _, hm1⟩ := open_bytes Try.underlying44 Try.underlying5 (by kernel_rfl) (hval 1 44 v1 rfl rfl) h1
  replace hm1 : x1.length ≤ maxLen := by omega
  clear hA0 hval0
  refine (walk a0 c0 x0 a1 c1 x1 W hx0 hm0 hx1 hm1).mono fun e W' ⟨he, bel⟩ => ?_
  subst he
  exact ⟨_, rfl, _, _, _, [], _, [], hW', trodAll_mk1 (shut_bool Try.underlying4 _), (trodAll_cons_mk (Below.trod laidOut (by kernel_rfl) (of_decide_eq_true (by kernel_rfl)) k0 bel lt0) (trodAll_cons_mk (Below.trod laidOut (by kernel_rfl) (of_decide_eq_true (by kernel_rfl)) k1 bel lt1) trodAll_mk0)), rfl, bel.frame _, fun h => by cases h⟩

theorem over : Rows.fnPartsRow.holds Try.pinned (OpenSpec.ofChange Rows.fnPartsSpec) :=
  OpenClaim.holds_of_wide 4 Try.f4 rfl rfl rfl rfl rfl rfl rfl ⟨rfl, rfl, rfl, rfl, rfl⟩ rfl rfl rfl rfl rfl (by kernel_rfl) Try.func4 (by kernel_rfl)
    (of_decide_eq_true (by kernel_rfl)) (by unfold Func.isWrapper; first | (rw [if_pos (by decide +kernel)]; kernel_rfl) | (rw [if_neg (by decide +kernel)]; exact ⟨rfl, rfl⟩))
    (fun os started H enc _ => lifted os started H enc)

/-- The statement. -/
theorem proved : Rows.FnPartsSaid := over
#print axioms proved
end Go.Proofs.Ytdjggbccdjbcoaa.fnParts
