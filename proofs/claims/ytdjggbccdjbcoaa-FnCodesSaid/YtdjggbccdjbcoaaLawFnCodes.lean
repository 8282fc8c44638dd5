/- FnCodes: for all arguments the law returns true, and memory that was there is as it was. No condition. -/
import Derived.Test.YtdjggbccdjbcoaaRows
import Derived.Test.YtdjggbccdjbcoaaOpen
import Derived.Deep.RegionHeld3
import Derived.Deep.CutRange
import Derived.ShutString
import Derived.Test.YtdjggbccdjbcoaaOpenB
import Derived.Test.YtdjggbccdjbcoaaA2
import Derived.Test.YtdjggbccdjbcoaaDrawT
import Derived.Test.YtdjggbccdjbcoaaPlainC
import Derived.Test.YtdjggbccdjbcoaaMark
namespace Go.Proofs.Ytdjggbccdjbcoaa.fnCodes
open Go.ChangeShapes Go.WideShapes Go.ChangeAt Go.RowKit
open Go.ChangeMaps (open_string shut_string)
set_option linter.unusedVariables false
set_option linter.unusedSimpArgs false
set_option linter.unnecessarySimpa false
set_option maxRecDepth 100000

theorem own : ownKnob Try.prog.godebug = none := by kernel_rfl
theorem laidOut : laidOutB Try.prog = true := by kernel_rfl

set_option maxHeartbeats 4000000 in
/-- The Go text returns true; memory has at most new blocks. -/
theorem walk (a0 : Option Addr) (c0 : Nat) (x0 : List UInt8) (w : World) (hx0 : RB w a0 x0) (hm0 : x0.length ≤ maxLen) :
    Calls Try.prog 5 #[.slice a0 x0.length c0] w fun e w' => e = .returned (.bool true) ∧ Below w.heap.size w w' := by
  by_cases hlong : 3000 < x0.length
  · have hc := Lib.hid (laws_a2Long_yes a0 c0 x0.length none 0 0 w hm0 (by simp [maxLen]) (Or.inl hlong))
    go_enter Try.func5, Try.ntmps5
    go_wp2_with (go_at_call 18; ((with_reducible refine hc.out.mono ?_); rintro e w' ⟨rfl, rfl⟩))
    go_ret
    exact ⟨rfl, Below.refl _ _⟩
  have hl0 : x0.length ≤ 3000 := by omega
  have hc := Lib.hid (laws_a2Long_no a0 c0 x0.length none 0 0 w hl0 (by omega))
  clear hlong
  go_enter Try.func5, Try.ntmps5
  go_wp2_with (go_at_call 18; ((with_reducible refine hc.out.mono ?_); rintro e w' ⟨rfl, rfl⟩))
  refine (laws_a2At a0 c0 x0 0 256 _ hx0 (by omega) (by omega) (by omega) (by omega)).mono ?_
  rintro e w' ⟨⟨r, rfl, r0, r1, _⟩, rfl⟩
  replace r1 := r1 (by omega)
  obtain ⟨u, rfl⟩ := byte_of r0 (by omega)
  clear hc
  have hub := Lib.hid (byte_bd u)
  cases hcb : charB (u.toNat : Int)
  · have hco := Lib.hid (fun U => (show Calls Try.prog 25 #[.int .u8 u.toNat] U fun e w' => e = .returned (.tuple #[.int .i64 (code0 u.toNat), .bool false]) ∧ U = w' by
      have h := impl_CodeOf u U; rw [hcb] at h; exact h))
    have hro := Lib.hid (fun U => (show Calls Try.prog 26 #[.int .u8 u.toNat] U fun e w' => e = .returned (.tuple #[.int .i64 (rank0 u.toNat), .bool false]) ∧ U = w' by
      have h := impl_RankOf u U; rw [hcb] at h; exact h))
    clear hcb
    go_wp2_with (first | (go_at_call 25; ((with_reducible refine (hco.out _).mono ?_); rintro e w' ⟨rfl, rfl⟩)) | (go_at_call 26; ((with_reducible refine (hro.out _).mono ?_); rintro e w' ⟨rfl, rfl⟩)))
    refine (spec_A2Text a0 c0 x0 _ hx0 (by omega)).mono ?_
    rintro e w2 ⟨⟨t, rfl, ht8, htc⟩, hb⟩
    have hpt := Lib.hid (fun U => (show Calls Try.prog 29 #[.string t, .int .i64 ((t.size : Int) + 1)] U fun e w' => ∃ a' c', e = .returned (.tuple #[.agg #[.slice a' (t.size + 1) c'], .int .i64 0]) ∧ RI w' a' (colsT t) ∧ Below U.heap.size U w' by
      have hp := pt_ok (s := t) (n := t.size + 1) (inB_true.2 ⟨by omega, by omega⟩) (by omega) htc
      rw [colsT_is] at hp
      refine (impl_PunchText t ((t.size + 1 : Nat) : Int) U (by omega)).mono ?_
      rintro e w' ⟨a', c', he, ho, hb⟩
      rw [hp.1, hp.2, colsT_length] at he
      rw [hp.2] at ho
      exact ⟨a', c', he, own_RI ho, hb⟩))
    have hrt := Lib.hid (fun U a' c' (hU : RI U a' (colsT t)) => (show Calls Try.prog 30 #[.agg #[.slice a' (t.size + 1) c']] U fun e w' => e = .returned (.tuple #[.string (t ++ ⟨#[32]⟩), .int .i64 0]) ∧ Below U.heap.size U w' by
      have h := impl_ReadText a' c' (colsT t) U hU (by rw [colsT_length]; unfold maxLen; omega)
      rw [(read_ok (colsT_valid ht8) (colsT_legal htc)).1, (read_ok (colsT_valid ht8) (colsT_legal htc)).2, colsT_text htc, colsT_length] at h
      exact h))
    have hic := Lib.hid (fun U a' c' (hU : RI U a' (colsT t)) => (show Calls Try.prog 31 #[.agg #[.slice a' (t.size + 1) c']] U fun e w' => ∃ a2 c2, e = .returned (.tuple #[.slice a2 0 c2, .int .i64 0]) ∧ Below U.heap.size U w' by
      have h := impl_IllegalColumns a' c' (colsT t) U hU (by rw [colsT_length]; unfold maxLen; omega)
      rw [(illegal_ok (colsT_valid ht8)).1, (illegal_ok (colsT_valid ht8)).2, ill_nil (colsT_legal htc), colsT_length] at h
      exact h.mono fun e w' ⟨a2, c2, q1, _, q3⟩ => ⟨a2, c2, q1, q3⟩))
    have hB := Lib.hid hb
    have hts : (t.size : Int) + 1 ≤ 20 := by omega
    clear hb htc
    go_wp2_with fail
    refine (hpt.out _).mono ?_
    rintro e w3 ⟨a3, c3, rfl, hr3, hb⟩
    have hba := below_alloc (w := w3) (.cells #[.slice a3 (t.size + 1) c3] 48)
    have hcc : (w3.alloc (.cells #[.slice a3 (t.size + 1) c3] 48)).cell? ⟨w3.heap.size, 0, none⟩ = some (.slice a3 (t.size + 1) c3) := by simp [go_sem]
    have hr4 := Lib.hid (hr3.kept hba)
    replace hB := Lib.hid (bthen (bthen hB.out hb) hba)
    clear hb hr3 hba hpt
    go_wp2_with fail
    refine (hrt.out _ a3 c3 hr4.out).mono ?_
    rintro e w4 ⟨rfl, hb⟩
    replace hcc := keep hb hcc
    have hr5 := Lib.hid (hr4.out.kept hb)
    replace hB := Lib.hid (bthen hB.out hb)
    clear hb hr4 hrt
    go_wp2_with fail
    refine (hic.out _ a3 c3 hr5.out).mono ?_
    rintro e w5 ⟨a5, c5, rfl, hb⟩
    replace hB := Lib.hid (bthen hB.out hb)
    clear hb hr5 hic
    go_wp2_with fail
    go_ret
    exact ⟨by first | rfl | (refine ret_bool ?_; simp), hB.out⟩
  · obtain ⟨k1, k2, k3, k4, _⟩ := char_back u hcb
    have hco := Lib.hid (fun U => (show Calls Try.prog 25 #[.int .u8 u.toNat] U fun e w' => e = .returned (.tuple #[.int .i64 (code0 u.toNat), .bool true]) ∧ U = w' by
      have h := impl_CodeOf u U; rw [hcb] at h; exact h))
    have hro := Lib.hid (fun U => (show Calls Try.prog 26 #[.int .u8 u.toNat] U fun e w' => e = .returned (.tuple #[.int .i64 (rank0 u.toNat), .bool true]) ∧ U = w' by
      have h := impl_RankOf u U; rw [hcb] at h; exact h))
    have hch := Lib.hid (fun U => (show Calls Try.prog 27 #[.int .i64 (code0 u.toNat)] U fun e w' => e = .returned (.tuple #[.int .u8 u.toNat, .bool true]) ∧ U = w' by
      have h := impl_CharOf (code0 u.toNat) U; rw [k1, decide_eq_true k2] at h; exact h))
    have hinj := Lib.hid (fun (v : UInt8) (hv : charB v.toNat = true) (h : rank0 v.toNat = rank0 u.toNat) => rank_inj hv hcb h)
    generalize hrk : rank0 (u.toNat : Int) = rk at *
    have hr0 : ¬ rk < 0 := by omega
    have hr1 : ¬ 39 < rk := by omega
    clear hcb k1 k2 k3 k4 hrk
    go_wp2_with (first | (go_at_call 25; ((with_reducible refine (hco.out _).mono ?_); rintro e w' ⟨rfl, rfl⟩)) | (go_at_call 26; ((with_reducible refine (hro.out _).mono ?_); rintro e w' ⟨rfl, rfl⟩)) | (go_at_call 27; ((with_reducible refine (hch.out _).mono ?_); rintro e w' ⟨rfl, rfl⟩)))
    go_loop [10] (fun i => ∃ k : Nat, k ≤ 256 ∧ i = .int .i64 k) (fun i => 256 - (intOf i).toNat)
    case atStart => exact ⟨0, by omega, rfl⟩
    case round =>
      obtain ⟨k, hk, rfl⟩ := hrel
      by_cases hlt : k < 256
      · obtain ⟨v, hv⟩ := byte_of (c := (k : Int)) (by omega) (by omega)
        have hlt' : (k : Int) < 256 := by omega
        cases hvb : charB (k : Int)
        · have hrv := Lib.hid (fun U => (show Calls Try.prog 26 #[.int .u8 (k : Int)] U fun e w' => e = .returned (.tuple #[.int .i64 (rank0 (k : Int)), .bool false]) ∧ U = w' by
            have h := impl_RankOf v U; rw [← hv, hvb] at h; exact h))
          clear hv hvb
          go_wp2_with (go_at_call 26; ((with_reducible refine (hrv.out _).mono ?_); rintro e w' ⟨rfl, rfl⟩))
          go_round
          case rel => exact ⟨k + 1, by omega, by go_num⟩
          case measure => simp [intOf]; omega
        · have hrv := Lib.hid (fun U => (show Calls Try.prog 26 #[.int .u8 (k : Int)] U fun e w' => e = .returned (.tuple #[.int .i64 (rank0 (k : Int)), .bool true]) ∧ U = w' by
            have h := impl_RankOf v U; rw [← hv, hvb] at h; exact h))
          by_cases he : rank0 (k : Int) = rk
          · have hku := hinj.out v (by rw [← hv]; exact hvb) (by rw [← hv]; exact he)
            have e1 : (rank0 (k : Int) == rk) = true := by simp [he]
            have e2 : ((k : Int) != (u.toNat : Int)) = false := by rw [hv, hku]; simp
            clear hv hvb he hku
            generalize rank0 (k : Int) = rk2 at *
            go_wp2_with (go_at_call 26; ((with_reducible refine (hrv.out _).mono ?_); rintro e w' ⟨rfl, rfl⟩))
            go_round
            case rel => exact ⟨k + 1, by omega, by go_num⟩
            case measure => simp [intOf]; omega
          · have e1 : (rank0 (k : Int) == rk) = false := by simp [he]
            clear hv hvb he
            generalize rank0 (k : Int) = rk2 at *
            go_wp2_with (go_at_call 26; ((with_reducible refine (hrv.out _).mono ?_); rintro e w' ⟨rfl, rfl⟩))
            go_round
            case rel => exact ⟨k + 1, by omega, by go_num⟩
            case measure => simp [intOf]; omega
      · obtain rfl : k = 256 := by omega
        go_wp2_with fail
        refine (spec_A2Text a0 c0 x0 _ hx0 (by omega)).mono ?_
        rintro e w2 ⟨⟨t, rfl, ht8, htc⟩, hb⟩
        have hpt := Lib.hid (fun U => (show Calls Try.prog 29 #[.string t, .int .i64 ((t.size : Int) + 1)] U fun e w' => ∃ a' c', e = .returned (.tuple #[.agg #[.slice a' (t.size + 1) c'], .int .i64 0]) ∧ RI w' a' (colsT t) ∧ Below U.heap.size U w' by
          have hp := pt_ok (s := t) (n := t.size + 1) (inB_true.2 ⟨by omega, by omega⟩) (by omega) htc
          rw [colsT_is] at hp
          refine (impl_PunchText t ((t.size + 1 : Nat) : Int) U (by omega)).mono ?_
          rintro e w' ⟨a', c', he, ho, hb⟩
          rw [hp.1, hp.2, colsT_length] at he
          rw [hp.2] at ho
          exact ⟨a', c', he, own_RI ho, hb⟩))
        have hrt := Lib.hid (fun U a' c' (hU : RI U a' (colsT t)) => (show Calls Try.prog 30 #[.agg #[.slice a' (t.size + 1) c']] U fun e w' => e = .returned (.tuple #[.string (t ++ ⟨#[32]⟩), .int .i64 0]) ∧ Below U.heap.size U w' by
          have h := impl_ReadText a' c' (colsT t) U hU (by rw [colsT_length]; unfold maxLen; omega)
          rw [(read_ok (colsT_valid ht8) (colsT_legal htc)).1, (read_ok (colsT_valid ht8) (colsT_legal htc)).2, colsT_text htc, colsT_length] at h
          exact h))
        have hic := Lib.hid (fun U a' c' (hU : RI U a' (colsT t)) => (show Calls Try.prog 31 #[.agg #[.slice a' (t.size + 1) c']] U fun e w' => ∃ a2 c2, e = .returned (.tuple #[.slice a2 0 c2, .int .i64 0]) ∧ Below U.heap.size U w' by
          have h := impl_IllegalColumns a' c' (colsT t) U hU (by rw [colsT_length]; unfold maxLen; omega)
          rw [(illegal_ok (colsT_valid ht8)).1, (illegal_ok (colsT_valid ht8)).2, ill_nil (colsT_legal htc), colsT_length] at h
          exact h.mono fun e w' ⟨a2, c2, q1, _, q3⟩ => ⟨a2, c2, q1, q3⟩))
        have hB := Lib.hid hb
        have hts : (t.size : Int) + 1 ≤ 20 := by omega
        clear hb htc
        go_wp2_with fail
        refine (hpt.out _).mono ?_
        rintro e w3 ⟨a3, c3, rfl, hr3, hb⟩
        have hba := below_alloc (w := w3) (.cells #[.slice a3 (t.size + 1) c3] 48)
        have hcc : (w3.alloc (.cells #[.slice a3 (t.size + 1) c3] 48)).cell? ⟨w3.heap.size, 0, none⟩ = some (.slice a3 (t.size + 1) c3) := by simp [go_sem]
        have hr4 := Lib.hid (hr3.kept hba)
        replace hB := Lib.hid (bthen (bthen hB.out hb) hba)
        clear hb hr3 hba hpt
        go_wp2_with fail
        refine (hrt.out _ a3 c3 hr4.out).mono ?_
        rintro e w4 ⟨rfl, hb⟩
        replace hcc := keep hb hcc
        have hr5 := Lib.hid (hr4.out.kept hb)
        replace hB := Lib.hid (bthen hB.out hb)
        clear hb hr4 hrt
        go_wp2_with fail
        refine (hic.out _ a3 c3 hr5.out).mono ?_
        rintro e w5 ⟨a5, c5, rfl, hb⟩
        replace hB := Lib.hid (bthen hB.out hb)
        clear hb hr5 hic
        go_wp2_with fail
        go_ret
        exact ⟨by first | rfl | (refine ret_bool ?_; simp), hB.out⟩

theorem lifted (os : Os) (started : os.Started) (H : Type) (enc : TypeId × Value → H) :
    ReturnsInHanded {} Try.checked os 5 .any (Rows.fnCodesSpec.pre6 enc Try.prog Try.f5 Rows.fnCodesRow.domain false) (Rows.fnCodesSpec.post enc Try.prog Try.f5 false true false false) := by
  refine returnsInHanded_of_change (C := Try.checked) own started (by kernel_rfl) Try.func5
    (ChangeSpec.witness6 (enc := enc) (C := Try.checked) false ⟨#[], #[.slice none 0 0], []⟩ 8 (by kernel_rfl) (by kernel_rfl) (by kernel_rfl) (by kernel_rfl)) ?_
  intro W base args ds gs before hval0 hW hcnd _
  have hval : ∀ (j : Nat) t v, Try.f5.params[j]? = some t → args[j]? = some v → Value.okWide Try.prog W .any base t v := hval0
  have hW' := hW
  obtain ⟨p, q, hA0, hV, rfl, hfz, hnd⟩ := hW
  have hA : DataW.TrodAll enc Try.prog W 0 (fun _ => true) true Try.f5.params.toList args.toList ds p := hA0
  rw [Try.params5] at hA hval
  obtain ⟨v0, vs0, d0, ds0, p0, q0, hargs, rfl, rfl, h0, r0⟩ := trodAll_cons hA
  obtain ⟨rfl, rfl, rfl⟩ := trodAll_nil r0
  obtain rfl : args = #[v0] := by cases args; simp_all
  obtain ⟨rfl, rfl⟩ := trodVars_none hV
  have k0 := h0
  have lt0 : ∀ x ∈ p0, x.block < W.heap.size := by obtain ⟨m, hm⟩ := k0; exact DataW.trod_lt m _ _ _ hm
  obtain ⟨a0, c0, x0, rfl, hx0, _, hm0⟩ := open_bytes Try.underlying44 Try.underlying5 (by kernel_rfl) (hval 0 44 v0 rfl rfl) h0
  replace hm0 : x0.length ≤ maxLen := by omega
  clear hA0 hval0
  refine (walk a0 c0 x0 W hx0 hm0).mono fun e W' ⟨he, bel⟩ => ?_
  subst he
  exact ⟨_, rfl, _, _, _, [], _, [], hW', trodAll_mk1 (shut_bool Try.underlying4 _), (trodAll_cons_mk (Below.trod laidOut (by kernel_rfl) (of_decide_eq_true (by kernel_rfl)) k0 bel lt0) trodAll_mk0), rfl, bel.frame _, fun h => by cases h⟩

theorem over : Rows.fnCodesRow.holds Try.pinned (OpenSpec.ofChange Rows.fnCodesSpec) :=
  OpenClaim.holds_of_wide 5 Try.f5 rfl rfl rfl rfl rfl rfl rfl ⟨rfl, rfl, rfl, rfl, rfl⟩ rfl rfl rfl rfl rfl (by kernel_rfl) Try.func5 (by kernel_rfl)
    (of_decide_eq_true (by kernel_rfl)) (by unfold Func.isWrapper; first | (rw [if_pos (by decide +kernel)]; kernel_rfl) | (rw [if_neg (by decide +kernel)]; exact ⟨rfl, rfl⟩))
    (fun os started H enc _ => lifted os started H enc)

/-- The statement. -/
theorem proved : Rows.FnCodesSaid := over
#print axioms proved
end Go.Proofs.Ytdjggbccdjbcoaa.fnCodes
