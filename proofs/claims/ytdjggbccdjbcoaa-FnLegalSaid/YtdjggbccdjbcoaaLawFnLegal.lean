/- FnLegal: for all arguments the law returns true, and memory that was there is as it was. No condition. -/
import Derived.Test.YtdjggbccdjbcoaaRows
import Derived.Test.YtdjggbccdjbcoaaOpen
import Derived.Deep.RegionHeld3
import Derived.Deep.CutRange
import Derived.ShutString
import Derived.Test.YtdjggbccdjbcoaaOpenB
import Derived.Test.YtdjggbccdjbcoaaA2
import Derived.Test.YtdjggbccdjbcoaaDraw
import Derived.Test.YtdjggbccdjbcoaaPlainT
import Derived.Test.YtdjggbccdjbcoaaMark
namespace Go.Proofs.Ytdjggbccdjbcoaa.fnLegal
open Go.ChangeShapes Go.WideShapes Go.ChangeAt Go.RowKit
open Go.ChangeMaps (open_string shut_string)
set_option linter.unusedVariables false
set_option linter.unusedSimpArgs false
set_option linter.unnecessarySimpa false
set_option maxRecDepth 100000

theorem own : ownKnob Try.prog.godebug = none := by kernel_rfl
theorem laidOut : laidOutB Try.prog = true := by kernel_rfl

set_option maxHeartbeats 4000000 in
/-- The Go text returns true; memory has at most new blocks. -/
theorem walk (a0 : Option Addr) (c0 : Nat) (x0 : List UInt8) (w : World) (hx0 : RB w a0 x0) (hm0 : x0.length ≤ maxLen) :
    Calls Try.prog 6 #[.slice a0 x0.length c0] w fun e w' => e = .returned (.bool true) ∧ Below w.heap.size w w' := by
  by_cases hlong : 3000 < x0.length
  · have hc := Lib.hid (laws_a2Long_yes a0 c0 x0.length none 0 0 w hm0 (by simp [maxLen]) (Or.inl hlong))
    go_enter Try.func6, Try.ntmps6
    go_wp2_with (go_at_call 18; ((with_reducible refine hc.out.mono ?_); rintro e w' ⟨rfl, rfl⟩))
    go_ret
    exact ⟨rfl, Below.refl _ _⟩
  have hl0 : x0.length ≤ 3000 := by omega
  have hc := Lib.hid (laws_a2Long_no a0 c0 x0.length none 0 0 w hl0 (by omega))
  clear hlong
  go_enter Try.func6, Try.ntmps6
  go_wp2_with (go_at_call 18; ((with_reducible refine hc.out.mono ?_); rintro e w' ⟨rfl, rfl⟩))
  refine (spec_A2Card a0 c0 x0 _ hx0 (by omega)).mono ?_
  rintro e w1 ⟨a3, c3, xs, rfl, ⟨hn1, hn6⟩, hP, hown, hb⟩
  have hv := Lib.hid (show validCardL xs = true from card_valid hn1 (by omega) hP)
  have hx := Lib.hid (own_RI hown)
  have hB1 := Lib.hid hb
  have hxm : xs.length ≤ maxLen := by unfold maxLen; omega
  clear hown hP hb hc
  have ha := below_alloc (w := w1) (.cells #[.slice a3 xs.length c3] 48)
  have hcc : (w1.alloc (.cells #[.slice a3 xs.length c3] 48)).cell? ⟨w1.heap.size, 0, none⟩ = some (.slice a3 xs.length c3) := by simp [go_sem]
  replace hB1 := Lib.hid (bthen hB1.out ha)
  replace hx := Lib.hid (hx.out.kept ha)
  clear ha
  have hil := Lib.hid (illegal_ok hv.out)
  have hq := Lib.hid (show Calls Try.prog 31 #[.agg #[.slice a3 xs.length c3]] (w1.alloc (.cells #[.slice a3 xs.length c3] 48)) fun e w' => ∃ a' c', e = .returned (.tuple #[.slice a' (illL xs xs.length).length c', .int .i64 0]) ∧ RI w' a' (illL xs xs.length) ∧ Below (w1.alloc (.cells #[.slice a3 xs.length c3] 48)).heap.size (w1.alloc (.cells #[.slice a3 xs.length c3] 48)) w' by
    refine (impl_IllegalColumns a3 c3 xs _ hx.out hxm).mono ?_
    rintro e w' ⟨a', c', he, ho, hb⟩
    rw [hil.out.1, hil.out.2] at he
    rw [hil.out.1] at ho
    exact ⟨a', c', he, own_RI ho, hb⟩)
  have hill := Lib.hid (fun (k : Nat) (v : Int) (h : (illL xs xs.length)[k]? = some v) => ill_mem h)
  have hrise := Lib.hid (fun (k : Nat) (u v : Int) (h : (illL xs xs.length)[k]? = some u) (h2 : (illL xs xs.length)[k + 1]? = some v) => ill_next h h2)
  have hill0 := Lib.hid (fun (h : legalL xs = true) => ill_nil h)
  have hill1 := Lib.hid (fun (h : legalL xs = false) => ill_some h)
  have hlsn := Lib.hid (illL_len xs xs.length)
  generalize hls : illL xs xs.length = ls at *
  have hlsm : ls.length ≤ 6 := by have := hlsn.out; omega
  clear hls
  go_wp2_with fail
  refine hq.out.mono ?_
  rintro e w2 ⟨a4, c4, rfl, hli, hb⟩
  clear hq
  replace hcc := keep hb hcc
  replace hx := Lib.hid (hx.out.kept hb)
  replace hB1 := Lib.hid (bthen hB1.out hb)
  have hli' := Lib.hid hli
  clear hli hb
  cases hlg : legalL xs
  · have hrd := Lib.hid (show Calls Try.prog 30 #[.agg #[.slice a3 xs.length c3]] w2 fun e w' => e = .returned (.tuple #[.string ⟨#[]⟩, .int .i64 8]) ∧ Below w2.heap.size w2 w' by
      have h := impl_ReadText a3 c3 xs w2 hx.out hxm
      rw [(read_not hv.out hlg).1, (read_not hv.out hlg).2] at h; exact h)
    have hpos : ¬ ls.length = 0 := by have := hill1.out hlg; omega
    have hpos' : ((ls.length : Int) == 0) = false := by simp; intro h; exact hpos (by rw [h]; rfl)
    clear hlg
    go_wp2_with fail
    refine hrd.out.mono ?_
    rintro e w3 ⟨rfl, hb⟩
    replace hcc := keep hb hcc
    replace hx := Lib.hid (hx.out.kept hb)
    replace hB1 := Lib.hid (bthen hB1.out hb)
    replace hli' := Lib.hid (hli'.out.kept hb)
    clear hb hrd
    generalize hN : ls.length = n at *
    have hN' := Lib.hid hN
    clear hN
    go_wp2_with fail
    go_loopw [8] (fun i wr => ∃ k : Nat, k ≤ n ∧ i = .int .i64 k ∧ Below w3.heap.size w3 wr) (fun i _ => n - (intOf i).toNat)
    case atStart => exact ⟨0, by omega, rfl, Below.refl _ _⟩
    case round =>
      obtain ⟨k, hk, rfl, hbr⟩ := hrel
      have rcc := keep hbr hcc
      by_cases hlt : k < n
      · obtain ⟨v, hvk⟩ := get_some (l := ls) (k := k) (by rw [hN'.out]; exact hlt)
        obtain ⟨j, rfl, hj, hjl⟩ := hill.out k v hvk
        obtain ⟨b4, o4, rfl, hc4⟩ := (hli'.out.kept hbr).at hvk
        obtain ⟨x, hxj⟩ := get_some (l := xs) (k := j) hj
        obtain ⟨b3, o3, rfl, hc3⟩ := (hx.out.kept hbr).at hxj
        rw [List.getD_eq_getElem?_getD, hxj] at hjl
        have hch := Lib.hid (fun (U : World) => (show Calls Try.prog 27 #[.int .i64 x] U fun e w' => e = .returned (.tuple #[.int .u8 (charM x), .bool false]) ∧ U = w' by
          refine (impl_CharOf x U).mono ?_
          rintro e w' ⟨he, hw⟩
          have hd : decide (0 ≤ rankM x) = false := hjl
          rw [hd] at he
          exact ⟨he, hw⟩))
        have hlt' : (k : Int) < (n : Int) := by omega
        have hj0 : ¬ (j : Int) < 0 := by omega
        have hj1 : ¬ (xs.length : Int) ≤ (j : Int) := by omega
        have hj2 : (j : Int) < (xs.length : Int) := by omega
        have hvk' := Lib.hid hvk
        clear hvk hxj hjl
        have hd1 : decide ((j : Int) < 0) = false := by simp
        have hd2 : decide ((xs.length : Int) ≤ (j : Int)) = false := by simp; omega
        have hd2n : decide (xs.length ≤ j) = false := by simp; omega
        have hj1n : ¬ xs.length ≤ j := by omega
        by_cases hk0 : 0 < k
        · obtain ⟨u, huq⟩ := get_some (l := ls) (k := k - 1) (by rw [hN'.out]; omega)
          obtain ⟨b5, o5, e5, hc5⟩ := (hli'.out.kept hbr).at huq
          have hlu := hrise.out (k - 1) u j huq (by rw [show k - 1 + 1 = k by omega]; exact hvk'.out)
          simp only [Option.some.injEq, Addr.mk.injEq, and_true] at e5
          obtain ⟨rfl, rfl⟩ := e5
          have hd3 : decide ((j : Int) ≤ u) = false := by simp; omega
          have hd4 : decide ((0 : Int) < (k : Int)) = true := by simp; omega
          have hd4n : decide (0 < k) = true := by simp; omega
          have hw1 : IntKind.i64.wrap ((k : Int) - 1) = (k : Int) - 1 := IntWalk.i64_in _ (by omega)
          have hw2 : ((k : Int) - 1).toNat = k - 1 := by omega
          have hq0 : (0 : Int) ≤ (k : Int) - 1 := by omega
          have hq1 : (k : Int) - 1 < (n : Int) := by omega
          have hq2 : (1 : Int) ≤ (k : Int) := by omega
          clear huq
          go_wp2_with fail
          first | go_quiet (fail) | fail
          clear hw1 hw2 hd1 hd2 hd3 hd4
          go_wp2_with fail
          first | go_region_with (go_at_call 27; refine (hch.out _).mono ?_; rintro e w' ⟨rfl, rfl⟩) | fail
          all_goals
            go_wp2_with fail
            go_roundw
            case rel => exact ⟨k + 1, by omega, by go_num, by first | exact below_drewN hbr _ | exact below_drewN (below_drewN hbr _) 1⟩
            case measure => simp [intOf] <;> omega
        · have hd4 : decide ((0 : Int) < (k : Int)) = false := by simp; omega
          have hd4n : decide (0 < k) = false := by simp; omega
          go_wp2_with fail
          first | go_quiet (fail) | fail
          clear hd1 hd2 hd4
          go_wp2_with fail
          first | go_region_with (go_at_call 27; refine (hch.out _).mono ?_; rintro e w' ⟨rfl, rfl⟩) | fail
          all_goals
            go_wp2_with fail
            go_roundw
            case rel => exact ⟨k + 1, by omega, by go_num, by first | exact below_drewN hbr _ | exact below_drewN (below_drewN hbr _) 1⟩
            case measure => simp [intOf] <;> omega
      · obtain rfl : k = n := by omega
        go_wp2_with fail
        go_ret
        exact ⟨rfl, bthen hB1.out hbr⟩
  · have hrd := Lib.hid (show Calls Try.prog 30 #[.agg #[.slice a3 xs.length c3]] w2 fun e w' => e = .returned (.tuple #[.string (textS xs), .int .i64 0]) ∧ Below w2.heap.size w2 w' by
      have h := impl_ReadText a3 c3 xs w2 hx.out hxm
      rw [(read_ok hv.out hlg).1, (read_ok hv.out hlg).2] at h; exact h)
    obtain rfl := hill0.out hlg
    have hpr := Lib.hid (punch_read hv.out hlg)
    have hsp := Lib.hid (fun (U : World) => (show Calls Try.prog 32 #[.string (textS xs), .int .i64 xs.length] U fun e w' => ∃ a' c', e = .returned (.tuple #[.agg #[.slice a' xs.length c'], .int .i64 0]) ∧ RI w' a' xs ∧ Below U.heap.size U w' by
      refine (spec_PunchText (textS xs) xs.length U (by rw [textS_size]; omega)).mono ?_
      rintro e w' ⟨a', c', he, ho, hb⟩
      rw [hpr.out.1, hpr.out.2] at he
      rw [hpr.out.2] at ho
      exact ⟨a', c', he, own_RI ho, hb⟩))
    clear hlg
    go_wp2_with fail
    refine hrd.out.mono ?_
    rintro e w3 ⟨rfl, hb⟩
    replace hcc := keep hb hcc
    replace hx := Lib.hid (hx.out.kept hb)
    replace hB1 := Lib.hid (bthen hB1.out hb)
    clear hb hrd
    go_wp2_with fail
    go_loopw [8] (fun i wr => i = .int .i64 0 ∧ Below w3.heap.size w3 wr) (fun i _ => 0)
    case atStart => exact ⟨rfl, Below.refl _ _⟩
    case round =>
      obtain ⟨rfl, hbr⟩ := hrel
      have rcc := keep hbr hcc
      have rx := Lib.hid (hx.out.kept hbr)
      have hBr := Lib.hid (bthen hB1.out hbr)
      have hsp1 := Lib.hid (hsp.out wr)
      clear hbr
      go_wp2_with fail
      refine hsp1.out.mono ?_
      rintro e w4 ⟨a5, c5, rfl, hbk, hb⟩
      have ha := below_alloc (w := w4) (.cells #[.slice a5 xs.length c5] 48)
      have rcc4 := keep ha (keep hb rcc)
      have rcd : (w4.alloc (.cells #[.slice a5 xs.length c5] 48)).cell? ⟨w4.heap.size, 0, none⟩ = some (.slice a5 xs.length c5) := by simp [go_sem]
      have hsc := Lib.hid (spec_SameCard_at a5 a3 c5 c3 xs xs _ (hbk.kept ha) ((rx.out.kept hb).kept ha) hxm hxm)
      have hBr4 := Lib.hid (bthen (bthen hBr.out hb) ha)
      rw [eqB_refl] at hsc
      clear hbk hb ha
      go_wp2_with fail
      refine hsc.out.mono ?_
      rintro e w5 ⟨rfl, hb⟩
      have hBr5 := Lib.hid (bthen hBr4.out hb)
      clear hb
      go_wp2_with fail
      go_ret
      exact ⟨rfl, hBr5.out⟩

theorem lifted (os : Os) (started : os.Started) (H : Type) (enc : TypeId × Value → H) :
    ReturnsInHanded {} Try.checked os 6 .any (Rows.fnLegalSpec.pre6 enc Try.prog Try.f6 Rows.fnLegalRow.domain false) (Rows.fnLegalSpec.post enc Try.prog Try.f6 false true false false) := by
  refine returnsInHanded_of_change (C := Try.checked) own started (by kernel_rfl) Try.func6
    (ChangeSpec.witness6 (enc := enc) (C := Try.checked) false ⟨#[], #[.slice none 0 0], []⟩ 8 (by kernel_rfl) (by kernel_rfl) (by kernel_rfl) (by kernel_rfl)) ?_
  intro W base args ds gs before hval0 hW hcnd _
  have hval : ∀ (j : Nat) t v, Try.f6.params[j]? = some t → args[j]? = some v → Value.okWide Try.prog W .any base t v := hval0
  have hW' := hW
  obtain ⟨p, q, hA0, hV, rfl, hfz, hnd⟩ := hW
  have hA : DataW.TrodAll enc Try.prog W 0 (fun _ => true) true Try.f6.params.toList args.toList ds p := hA0
  rw [Try.params6] at hA hval
  obtain ⟨v0, vs0, d0, ds0, p0, q0, hargs, rfl, rfl, h0, r0⟩ := trodAll_cons hA
  obtain ⟨rfl, rfl, rfl⟩ := trodAll_nil r0
  obtain rfl : args = #[v0] := by cases args; simp_all
  obtain ⟨rfl, rfl⟩ := trodVars_none hV
  have k0 := h0
  have lt0 : ∀ x ∈ p0, x.block < W.heap.size := by obtain ⟨m, hm⟩ := k0; exact DataW.trod_lt m _ _ _ hm
  obtain ⟨a0, c0, x0, rfl, hx0, _, hm0⟩ := open_bytes Try.underlying44 Try.underlying5 (by kernel_rfl) (hval 0 44 v0 rfl rfl) h0
  replace hm0 : x0.length ≤ maxLen := by omega
  clear hA0 hval0
  refine (walk a0 c0 x0 W hx0 hm0).mono fun e W' ⟨he, bel⟩ => ?_
  subst he
  exact ⟨_, rfl, _, _, _, [], _, [], hW', trodAll_mk1 (shut_bool Try.underlying4 _), (trodAll_cons_mk (Below.trod laidOut (by kernel_rfl) (of_decide_eq_true (by kernel_rfl)) k0 bel lt0) trodAll_mk0), rfl, bel.frame _, fun h => by cases h⟩

theorem over : Rows.fnLegalRow.holds Try.pinned (OpenSpec.ofChange Rows.fnLegalSpec) :=
  OpenClaim.holds_of_wide 6 Try.f6 rfl rfl rfl rfl rfl rfl rfl ⟨rfl, rfl, rfl, rfl, rfl⟩ rfl rfl rfl rfl rfl (by kernel_rfl) Try.func6 (by kernel_rfl)
    (of_decide_eq_true (by kernel_rfl)) (by unfold Func.isWrapper; first | (rw [if_pos (by decide +kernel)]; kernel_rfl) | (rw [if_neg (by decide +kernel)]; exact ⟨rfl, rfl⟩))
    (fun os started H enc _ => lifted os started H enc)

/-- The statement. -/
theorem proved : Rows.FnLegalSaid := over
#print axioms proved
end Go.Proofs.Ytdjggbccdjbcoaa.fnLegal
