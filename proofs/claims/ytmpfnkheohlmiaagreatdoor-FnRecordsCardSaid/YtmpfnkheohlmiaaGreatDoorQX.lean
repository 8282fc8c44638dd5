/- The walks of the two functions that read a number: what each returns, and that memory has at most new blocks. The two sentinels of strconv out of a row's condition. -/
import Derived.Test.YtmpfnkheohlmiaaGreatDoorQJ
import Derived.Test.YtmpfnkheohlmiaaGreatDoorQA
import Derived.Test.YtmpfnkheohlmiaaGreatDoorQC
import Derived.Shelf.Strconv.ErrVarParseInt
import Derived.IntWalk
import Derived.LaidLaws
namespace Go.Proofs.YtmpfnkheohlmiaaGreatDoor
open Go.RowKit
set_option maxRecDepth 100000
set_option linter.unusedVariables false
set_option linter.unusedSimpArgs false
set_option linter.unnecessarySimpa false

theorem trim_abs (l : List UInt8) : Lib.trimPrefix l [45] = absL l := by
  unfold Lib.trimPrefix absL
  cases l with
  | nil => rfl
  | cons c r =>
    by_cases h : c = 45
    · subst h; simp [Lib.hasPrefix]
    · have h' : ¬ (45 : UInt8) = c := fun e => h e.symm
      simp [Lib.hasPrefix, h, h']
theorem text_cmp {s t : ByteArray} : (s.toList == t.toList) = decide (s = t) := by
  by_cases h : s = t
  · subst h; simp
  · have : ¬ s.toList = t.toList := fun e => h (by rw [toList_eq, toList_eq] at e; exact ByteArray.ext (Array.toList_inj.1 e))
    rw [decide_eq_false h]; simpa using this
theorem text_is {s t : ByteArray} (h : s.data.toList = t.data.toList) : s = t := ByteArray.ext (Array.toList_inj.1 h)
theorem abs_neg {s : ByteArray} (h0 : 0 < s.size) (h : s[0] = 45) : (s.extract 1 s.size).data.toList = absL s.data.toList := by
  have hg := get_bytes s 0 h0
  rw [ByteArray.data_extract, Array.toList_extract]
  unfold absL
  have hh : s.data.toList.head? = some 45 := by rw [List.head?_eq_getElem?, hg, h]
  rw [if_pos hh]
  simp only [List.extract]
  rw [List.take_of_length_le (by rw [List.length_drop, len_bytes]; exact Nat.le_refl _), List.drop_one]
theorem abs_pos {s : ByteArray} (h : ∀ h0 : 0 < s.size, ¬ s[0] = 45) : s.data.toList = absL s.data.toList := by
  unfold absL
  rw [if_neg]
  intro e
  rw [List.head?_eq_getElem?] at e
  have hl := (List.getElem?_eq_some_iff.1 e).1
  rw [len_bytes] at hl
  rw [get_bytes s 0 hl] at e
  exact h hl (Option.some.inj e)
theorem val_sign {s : ByteArray} {n : Nat} (h : natD 0 (absL s.data.toList) = some n) : valL s.data.toList = if s.data.toList.head? = some 45 then -(n : Int) else n := by
  unfold valL; rw [h]; rfl
theorem head_45 {s : ByteArray} (h0 : 0 < s.size) : s.data.toList.head? = some s[0] := by
  rw [List.head?_eq_getElem?]; exact get_bytes s 0 h0
theorem natD_room {l : List UInt8} {n k : Nat} (h : natD 0 (l.take k) = some n) (hk : k ≤ 17) : n < 100000000000000000 := by
  have h1 := natD_lt _ 0 n 0 h (by decide)
  have h2 : (l.take k).length ≤ 17 := by rw [List.length_take]; omega
  have : 10 ^ (0 + (l.take k).length) ≤ 10 ^ 17 := Nat.pow_le_pow_right (by decide) (by omega)
  omega
theorem natD_room18 {l : List UInt8} {n : Nat} (h : natD 0 l = some n) (hk : l.length ≤ 18) : n < 1000000000000000000 := by
  have h1 := natD_lt _ 0 n 0 h (by decide)
  have : 10 ^ (0 + l.length) ≤ 10 ^ 18 := Nat.pow_le_pow_right (by decide) (by omega)
  omega
theorem digit_yes {c : UInt8} (h : digitB c.toNat = true) : 48 ≤ c.toNat ∧ c.toNat ≤ 57 := by unfold digitB at h; simp only [Bool.and_eq_true, decide_eq_true_eq] at h; omega
theorem digit_no {c : UInt8} (h : digitB c.toNat = false) : ¬ (48 ≤ c.toNat ∧ c.toNat ≤ 57) := by
  intro e; unfold digitB at h; rw [decide_eq_true (show (48 : Int) ≤ (c.toNat : Int) by omega), decide_eq_true (show (c.toNat : Int) ≤ 57 by omega)] at h; cases h
theorem natD_next {l : List UInt8} {k n : Nat} {c : UInt8} (h : natD 0 (l.take k) = some n) (hk : l[k]? = some c) (hc : 48 ≤ c.toNat ∧ c.toNat ≤ 57) : natD 0 (l.take (k + 1)) = some (n * 10 + (c.toNat - 48)) := by
  rw [List.take_add_one, hk]
  exact natD_snoc _ _ _ _ h hc.1 hc.2
/-- the two sentinels of strconv are error values -/
def Errs (w : World) : Prop := (∃ t p, w.var? Tryz.prog "strconv.ErrSyntax" = some #[.iface t p]) ∧ ∃ t p, w.var? Tryz.prog "strconv.ErrRange" = some #[.iface t p]
theorem Errs.kept {w w' : World} (h : Errs w) (hb : Below w.heap.size w w') : Errs w' := by
  obtain ⟨⟨t, p, h1⟩, t', p', h2⟩ := h
  exact ⟨⟨t, p, var_kept h1 hb⟩, t', p', var_kept h2 hb⟩
theorem parse_err (s : ByteArray) (w : World) (hs : s.size ≤ 1048576) (he : Errs w) (h : ∀ v, Lib.parseIntB 64 s.data.toList ≠ .ok v) :
    Calls Tryz.prog 102 #[.string s, .int .i64 10, .int .i64 64] w fun e w' => ∃ n p, e = .returned (.tuple #[.int .i64 n, .iface 179 p]) ∧ Below w.heap.size w w' := by
  obtain ⟨⟨t, p, h1⟩, t', p', h2⟩ := he
  cases hp : Lib.parseIntB 64 s.data.toList
  · exact absurd hp (h _)
  · refine (Any.strconv_ParseInt_10_at64_syntax_var Tryz.laysC174 s (by omega) hp t p w h1).mono ?_
    rintro e w' ⟨N, rfl, _, _, hb⟩
    exact ⟨_, _, rfl, hb⟩
  · refine (Any.strconv_ParseInt_10_at64_range_var Tryz.laysC174 s (by omega) hp t' p' w h2).mono ?_
    rintro e w' ⟨N, rfl, _, _, hb⟩
    exact ⟨_, _, rfl, hb⟩
theorem parse_ok (s : ByteArray) (v : Int) (w : World) (hs : s.size ≤ 1048576) (h : Lib.parseIntB 64 s.data.toList = .ok v) :
    Calls Tryz.prog 102 #[.string s, .int .i64 10, .int .i64 64] w fun e w' => e = .returned (.tuple #[.int .i64 v, .nilIface]) ∧ Below w.heap.size w w' := by
  refine (Tryz.strconv_ParseInt_10_at64_ok s (by omega) v h w).mono ?_
  rintro e w' ⟨rfl, hw⟩
  refine ⟨rfl, ?_⟩
  rcases hw with rfl | ⟨t, rfl⟩
  · exact Below.refl _ _
  · exact Lib.bytesWorld_below _ _ _
set_option maxHeartbeats 1000000 in
theorem impl_ReadDecimal (s : ByteArray) (w : World) (hs : s.size ≤ 1048576) (ht : Pow10 w) (he : Errs w) :
    Calls Tryz.prog 46 #[.string s] w fun e w' => e = .returned (.tuple #[.int .i64 (readI s.data.toList), .bool (readL s.data.toList)]) ∧ Below w.heap.size w w' := by
  by_cases hp : ∃ v, Lib.parseIntB 64 s.data.toList = .ok v
  · obtain ⟨v, hp⟩ := hp
    obtain ⟨hv0, hv1⟩ := Lib.parseIntB_bounds hp
    rw [show (2 : Nat) ^ (64 - 1) = 9223372036854775808 by decide] at hv0 hv1
    have hv2 : -9223372036854775808 ≤ v := by omega
    have hv3 : v ≤ 9223372036854775807 := by omega
    clear hv0 hv1
    have hpa := Lib.hid (parse_ok s v w hs hp)
    have hde := Lib.hid (fun (W : World) (hb : Below w.heap.size w W) => impl_Decimal v W hv2 hv3 (TabIs.kept ht hb))
    have htr := Lib.hid (fun W => Tryz.strings_TrimPrefix s ⟨#[45]⟩ W)
    have hsz := Lib.hid (show (⟨(Lib.trimPrefix s.data.toList (⟨#[45]⟩ : ByteArray).data.toList).toArray⟩ : ByteArray).size = (absL s.data.toList).length by
      show (Lib.trimPrefix s.data.toList [45]).toArray.size = _
      rw [trim_abs]; simp)
    have hin : s.data.toList = Lib.itoa v ↔ s = ⟨(Lib.itoa v).toArray⟩ := ⟨fun h => text_is h, fun h => by rw [h]⟩
    generalize (⟨(Lib.itoa v).toArray⟩ : ByteArray) = D at *
    generalize (⟨(Lib.trimPrefix s.data.toList (⟨#[45]⟩ : ByteArray).data.toList).toArray⟩ : ByteArray) = U at *
    by_cases hsD : s = D
    · have hcmp : (D.toList == s.toList) = true := by rw [text_cmp]; exact decide_eq_true hsD.symm
      have hl := hin.2 hsD
      have hcmp2 : (D.toList != s.toList) = false := by rw [bne, hcmp]; rfl
      by_cases h18 : (absL s.data.toList).length ≤ 18
      · obtain ⟨f1, f2⟩ := readL_is h18 hl
        have hf1 := Lib.hid f1
        have hf2 := Lib.hid (readI_is f1 f2)
        have hU : ¬ 18 < U.size := by rw [hsz.out]; omega
        have hU' : ¬ (18 : Int) < (U.size : Int) := by omega
        clear f1 f2 hl h18 hin hsD hp
        go_enter Tryz.func46, Tryz.ntmps46
        go_wp2_with (go_at_call 102; ((with_reducible refine hpa.out.mono ?_); rintro e w1 ⟨rfl, hb1⟩))
        go_wp2_with (first | (go_at_call 44; ((with_reducible refine (hde.out _ hb1).mono ?_); rintro e w2 ⟨rfl, hb2⟩)) | (go_at_call 103; ((with_reducible refine (htr.out _).mono ?_); rintro e w3 ⟨rfl, rfl⟩)))
        go_ret2
        exact ⟨ret_num hf2.out.symm hf1.out.symm, bthen hb1 hb2⟩
      · have hf := Lib.hid (readL_long h18)
        have hU : 18 < U.size := by rw [hsz.out]; omega
        have hU' : (18 : Int) < (U.size : Int) := by omega
        clear hl h18 hin hsD hp
        go_enter Tryz.func46, Tryz.ntmps46
        go_wp2_with (go_at_call 102; ((with_reducible refine hpa.out.mono ?_); rintro e w1 ⟨rfl, hb1⟩))
        go_wp2_with (first | (go_at_call 44; ((with_reducible refine (hde.out _ hb1).mono ?_); rintro e w2 ⟨rfl, hb2⟩)) | (go_at_call 103; ((with_reducible refine (htr.out _).mono ?_); rintro e w3 ⟨rfl, rfl⟩)))
        go_ret2
        exact ⟨ret_num (readI_no hf.out).symm hf.out.symm, bthen hb1 hb2⟩
    · have hcmp : (D.toList == s.toList) = false := by rw [text_cmp]; exact decide_eq_false (fun e => hsD e.symm)
      have hcmp2 : (D.toList != s.toList) = true := by rw [bne, hcmp]; rfl
      have hf := Lib.hid (readL_ok_not hp (fun e => hsD (hin.1 e)))
      clear hin hsD hp hsz
      go_enter Tryz.func46, Tryz.ntmps46
      go_wp2_with (go_at_call 102; ((with_reducible refine hpa.out.mono ?_); rintro e w1 ⟨rfl, hb1⟩))
      go_wp2_with (first | (go_at_call 44; ((with_reducible refine (hde.out _ hb1).mono ?_); rintro e w2 ⟨rfl, hb2⟩)) | (go_at_call 103; ((with_reducible refine (htr.out _).mono ?_); rintro e w3 ⟨rfl, rfl⟩)))
      go_ret2
      exact ⟨ret_num (readI_no hf.out).symm hf.out.symm, bthen hb1 hb2⟩
  · have hbad : ∀ v, Lib.parseIntB 64 s.data.toList ≠ .ok v := fun v h => hp ⟨v, h⟩
    have hf := Lib.hid (readL_err hbad)
    have hpa := Lib.hid (parse_err s w hs he hbad)
    clear hbad hp
    go_enter Tryz.func46, Tryz.ntmps46
    go_wp2_with (go_at_call 102; ((with_reducible refine hpa.out.mono ?_); rintro e w1 ⟨n, p, rfl, hb1⟩))
    go_wp2_with fail
    go_ret2
    exact ⟨ret_num (readI_no hf.out).symm hf.out.symm, hb1⟩
set_option maxHeartbeats 2000000 in
theorem spec_l01Number (s : ByteArray) (w : World) (hs : s.size ≤ 1048576) :
    Calls Tryz.prog 53 #[.string s] w fun e w' => e = .returned (.tuple #[.int .i64 (readI s.data.toList), .bool (readL s.data.toList)]) ∧ Below w.heap.size w w' := by
  by_cases h0 : 0 < s.size
  · have hne := (full_text (s := s) (by omega)).2
    have hne2 := (full_text (s := s) (by omega)).1
    by_cases hc : s[0] = 45
    · have hT := Lib.hid (abs_neg h0 hc)
      have hsg := Lib.hid (show s.data.toList.head? = some 45 by rw [head_45 h0, hc])
      have hcu : ((s[0].toNat : Int) == 45) = true := by rw [hc]; rfl
      have hcu2 : (s[0].toNat == 45) = true := by rw [hc]; rfl
      have hTs : (s.extract 1 s.size).size = s.size - 1 := by rw [ByteArray.size_extract]; omega
      obtain ⟨T, hTe⟩ : ∃ T, s.extract 1 s.size = T := ⟨_, rfl⟩
      rw [hTe] at hT hTs
      have hlts : T.size < s.size := by omega
      have hlts' : (T.size : Int) < (s.size : Int) := by omega
      clear hTs
      have h1s : 1 ≤ s.size := h0
      have h1s' : (1 : Int) ≤ (s.size : Int) := by omega
      have h0' : (0 : Int) < (s.size : Int) := by omega
      clear hc
      by_cases hlen : T.size < 1 ∨ 18 < T.size
      · have hf := Lib.hid (show readL s.data.toList = false by
          rcases hlen with h | h
          · exact readL_short (by rw [← hT.out, len_bytes]; omega)
          · exact readL_long (by rw [← hT.out, len_bytes]; omega))
        by_cases hl1 : T.size < 1
        · have hl1' : (T.size : Int) < 1 := by omega
          go_enter Tryz.func53, Tryz.ntmps53
          go_wp2_with fail
          go_ret2
          exact ⟨ret_num (readI_no hf.out).symm hf.out.symm, Below.refl _ _⟩
        · have hl1' : ¬ (T.size : Int) < 1 := by omega
          have hl2 : 18 < T.size := by omega
          have hl2' : (18 : Int) < (T.size : Int) := by omega
          go_enter Tryz.func53, Tryz.ntmps53
          go_wp2_with fail
          go_ret2
          exact ⟨ret_num (readI_no hf.out).symm hf.out.symm, Below.refl _ _⟩
      · have hl1 : ¬ T.size < 1 := by omega
        have hl1' : ¬ (T.size : Int) < 1 := by omega
        have hl2 : ¬ 18 < T.size := by omega
        have hl2' : ¬ (18 : Int) < (T.size : Int) := by omega
        have hl3 : T.size ≤ 18 := by omega
        clear hlen
        go_enter Tryz.func53, Tryz.ntmps53
        go_wp2_with fail
        go_loop [5, 6] (fun n i => ∃ k N : Nat, k ≤ T.size ∧ i = .int .i64 k ∧ n = .int .i64 N ∧ Hid (natD 0 (T.data.toList.take k) = some N)) (fun _ i => T.size - (intOf i).toNat)
        case atStart => exact ⟨0, 0, by omega, rfl, rfl, Lib.hid rfl⟩
        case round =>
          obtain ⟨k, N, hk, rfl, rfl, hN⟩ := hrel
          by_cases hlt : k < T.size
          · have hlt' : (k : Int) < (T.size : Int) := by omega
            have hg := Lib.hid (get_bytes T k hlt)
            cases hc : digitB (T[k].toNat : Int)
            · have hf := Lib.hid (show readL s.data.toList = false from readL_bad (by rw [← hT.out]; exact hg.out) (digit_no hc))
              go_wp2_with (go_at_call 105; ((with_reducible refine (spec_l01Digit _ _).mono ?_); rintro e w' ⟨rfl, rfl⟩))
              go_ret2
              exact ⟨ret_num (readI_no hf.out).symm hf.out.symm, Below.refl _ _⟩
            · obtain ⟨d0, d1⟩ := digit_yes hc
              have hnx := Lib.hid (natD_next hN.out hg.out ⟨d0, d1⟩)
              have hNr := natD_room hN.out (by omega)
              have hw1 : IntKind.i64.wrap (10 * (N : Int)) = 10 * (N : Int) := IntWalk.i64_in _ (by omega)
              have hw2 : IntKind.u8.wrap ((T[k].toNat : Int) - 48) = (T[k].toNat : Int) - 48 := by unfold IntKind.wrap; simp only [IntKind.signed, IntKind.bits]; first | omega | (simp; omega)
              have hw3 : IntKind.i64.wrap ((T[k].toNat : Int) - 48) = (T[k].toNat : Int) - 48 := IntWalk.i64_in _ (by omega)
              have hw4 : IntKind.i64.wrap (10 * (N : Int) + ((T[k].toNat : Int) - 48)) = 10 * (N : Int) + ((T[k].toNat : Int) - 48) := IntWalk.i64_in _ (by omega)
              have hsum : 10 * (N : Int) + ((T[k].toNat : Int) - 48) = ((N * 10 + (T[k].toNat - 48) : Nat) : Int) := by omega
              go_wp2_with (go_at_call 105; ((with_reducible refine (spec_l01Digit _ _).mono ?_); rintro e w' ⟨rfl, rfl⟩))
              go_round
              case rel => exact ⟨k + 1, N * 10 + (T[k].toNat - 48), by omega, by first | go_num | (congr 1; omega), by first | rfl | (congr 1; omega), hnx⟩
              case measure => simp [intOf]; omega
          · obtain rfl : k = T.size := by omega
            have hN2 := hN.out
            rw [List.take_of_length_le (by rw [len_bytes]; exact Nat.le_refl _), hT.out] at hN2
            have hNr := natD_room18 hN2 (by rw [← hT.out, len_bytes]; omega)
            have hvs := val_sign hN2
            rw [if_pos hsg.out] at hvs
            have h18 : (absL s.data.toList).length ≤ 18 := by rw [← hT.out, len_bytes]; omega
            obtain ⟨v, hv⟩ : ∃ v : Int, v = -(N : Int) := ⟨_, rfl⟩
            have hvs' : valL s.data.toList = v := by rw [hv]; exact hvs
            have hwn : IntKind.i64.wrap (-(N : Int)) = v := by rw [hv]; exact IntWalk.i64_in _ (by omega)
            have hv0 : -1000000000000000000 ≤ v := by omega
            have hv1 : v ≤ 1000000000000000000 := by omega
            clear hv
            have hin : s.data.toList = Lib.itoa v ↔ s = ⟨(Lib.itoa v).toArray⟩ := ⟨fun h => text_is h, fun h => by rw [h]⟩
            have hyes := Lib.hid (fun (h : s = ⟨(Lib.itoa v).toArray⟩) => readL_is h18 (hin.2 h))
            have hno := Lib.hid (fun (h : ¬ s = ⟨(Lib.itoa v).toArray⟩) => readL_not v hvs' (fun e => h (hin.1 e)))
            have hde := Lib.hid (fun (W : World) => spec_l01Dec v W (by omega) (by omega))
            clear hin hN2 hvs h18 hN hvs'
            generalize (⟨(Lib.itoa v).toArray⟩ : ByteArray) = D at *
            by_cases hsD : s = D
            · obtain ⟨f1, f2⟩ := hyes.out hsD
              have hf1 := Lib.hid f1
              have hf2 := Lib.hid (readI_is f1 f2)
              have hcmp : (D.toList == s.toList) = true := by rw [text_cmp]; exact decide_eq_true hsD.symm
              have hcmp2 : (D.toList != s.toList) = false := by rw [bne, hcmp]; rfl
              clear f1 f2 hsD
              go_wp2_with fail
              skip
              refine (hde.out _).mono ?_
              rintro e w2 ⟨rfl, hb⟩
              go_wp2_with fail
              go_ret2
              exact ⟨ret_num hf2.out.symm hf1.out.symm, hb⟩
            · have hf := Lib.hid (hno.out hsD)
              have hcmp : (D.toList == s.toList) = false := by rw [text_cmp]; exact decide_eq_false (fun e => hsD e.symm)
              have hcmp2 : (D.toList != s.toList) = true := by rw [bne, hcmp]; rfl
              clear hsD
              go_wp2_with fail
              skip
              refine (hde.out _).mono ?_
              rintro e w2 ⟨rfl, hb⟩
              go_wp2_with fail
              go_ret2
              exact ⟨ret_num (readI_no hf.out).symm hf.out.symm, hb⟩
    · have hT := Lib.hid (abs_pos (s := s) (fun _ => hc))
      have hsg := Lib.hid (show ¬ s.data.toList.head? = some 45 by rw [head_45 h0]; simpa using hc)
      have hcu : ((s[0].toNat : Int) == 45) = false := by
        have : ¬ s[0].toNat = (45 : UInt8).toNat := fun e => hc (UInt8.toNat_inj.1 e)
        simp at this ⊢; omega
      have h0' : (0 : Int) < (s.size : Int) := by omega
      clear hc
      have hlts : ¬ s.size < s.size := by omega
      by_cases hlen : s.size < 1 ∨ 18 < s.size
      · have hf := Lib.hid (show readL s.data.toList = false by
          rcases hlen with h | h
          · exact readL_short (by rw [← hT.out, len_bytes]; omega)
          · exact readL_long (by rw [← hT.out, len_bytes]; omega))
        by_cases hl1 : s.size < 1
        · have hl1' : (s.size : Int) < 1 := by omega
          go_enter Tryz.func53, Tryz.ntmps53
          go_wp2_with fail
          go_ret2
          exact ⟨ret_num (readI_no hf.out).symm hf.out.symm, Below.refl _ _⟩
        · have hl1' : ¬ (s.size : Int) < 1 := by omega
          have hl2 : 18 < s.size := by omega
          have hl2' : (18 : Int) < (s.size : Int) := by omega
          go_enter Tryz.func53, Tryz.ntmps53
          go_wp2_with fail
          go_ret2
          exact ⟨ret_num (readI_no hf.out).symm hf.out.symm, Below.refl _ _⟩
      · have hl1 : ¬ s.size < 1 := by omega
        have hl1' : ¬ (s.size : Int) < 1 := by omega
        have hl2 : ¬ 18 < s.size := by omega
        have hl2' : ¬ (18 : Int) < (s.size : Int) := by omega
        have hl3 : s.size ≤ 18 := by omega
        clear hlen
        go_enter Tryz.func53, Tryz.ntmps53
        go_wp2_with fail
        go_loop [5, 6] (fun n i => ∃ k N : Nat, k ≤ s.size ∧ i = .int .i64 k ∧ n = .int .i64 N ∧ Hid (natD 0 (s.data.toList.take k) = some N)) (fun _ i => s.size - (intOf i).toNat)
        case atStart => exact ⟨0, 0, by omega, rfl, rfl, Lib.hid rfl⟩
        case round =>
          obtain ⟨k, N, hk, rfl, rfl, hN⟩ := hrel
          by_cases hlt : k < s.size
          · have hlt' : (k : Int) < (s.size : Int) := by omega
            have hg := Lib.hid (get_bytes s k hlt)
            cases hc : digitB (s[k].toNat : Int)
            · have hf := Lib.hid (show readL s.data.toList = false from readL_bad (by rw [← hT.out]; exact hg.out) (digit_no hc))
              go_wp2_with (go_at_call 105; ((with_reducible refine (spec_l01Digit _ _).mono ?_); rintro e w' ⟨rfl, rfl⟩))
              go_ret2
              exact ⟨ret_num (readI_no hf.out).symm hf.out.symm, Below.refl _ _⟩
            · obtain ⟨d0, d1⟩ := digit_yes hc
              have hnx := Lib.hid (natD_next hN.out hg.out ⟨d0, d1⟩)
              have hNr := natD_room hN.out (by omega)
              have hw1 : IntKind.i64.wrap (10 * (N : Int)) = 10 * (N : Int) := IntWalk.i64_in _ (by omega)
              have hw2 : IntKind.u8.wrap ((s[k].toNat : Int) - 48) = (s[k].toNat : Int) - 48 := by unfold IntKind.wrap; simp only [IntKind.signed, IntKind.bits]; first | omega | (simp; omega)
              have hw3 : IntKind.i64.wrap ((s[k].toNat : Int) - 48) = (s[k].toNat : Int) - 48 := IntWalk.i64_in _ (by omega)
              have hw4 : IntKind.i64.wrap (10 * (N : Int) + ((s[k].toNat : Int) - 48)) = 10 * (N : Int) + ((s[k].toNat : Int) - 48) := IntWalk.i64_in _ (by omega)
              have hsum : 10 * (N : Int) + ((s[k].toNat : Int) - 48) = ((N * 10 + (s[k].toNat - 48) : Nat) : Int) := by omega
              go_wp2_with (go_at_call 105; ((with_reducible refine (spec_l01Digit _ _).mono ?_); rintro e w' ⟨rfl, rfl⟩))
              go_round
              case rel => exact ⟨k + 1, N * 10 + (s[k].toNat - 48), by omega, by first | go_num | (congr 1; omega), by first | rfl | (congr 1; omega), hnx⟩
              case measure => simp [intOf]; omega
          · obtain rfl : k = s.size := by omega
            have hN2 := hN.out
            rw [List.take_of_length_le (by rw [len_bytes]; exact Nat.le_refl _), hT.out] at hN2
            have hNr := natD_room18 hN2 (by rw [← hT.out, len_bytes]; omega)
            have hvs := val_sign hN2
            rw [if_neg hsg.out] at hvs
            have h18 : (absL s.data.toList).length ≤ 18 := by rw [← hT.out, len_bytes]; omega
            have hvs' := hvs
            have hin : s.data.toList = Lib.itoa (N : Int) ↔ s = ⟨(Lib.itoa (N : Int)).toArray⟩ := ⟨fun h => text_is h, fun h => by rw [h]⟩
            have hyes := Lib.hid (fun (h : s = ⟨(Lib.itoa (N : Int)).toArray⟩) => readL_is h18 (hin.2 h))
            have hno := Lib.hid (fun (h : ¬ s = ⟨(Lib.itoa (N : Int)).toArray⟩) => readL_not (N : Int) hvs' (fun e => h (hin.1 e)))
            have hde := Lib.hid (fun (W : World) => spec_l01Dec (N : Int) W (by omega) (by omega))
            clear hin hN2 hvs h18 hN hvs'
            generalize (⟨(Lib.itoa (N : Int)).toArray⟩ : ByteArray) = D at *
            by_cases hsD : s = D
            · obtain ⟨f1, f2⟩ := hyes.out hsD
              have hf1 := Lib.hid f1
              have hf2 := Lib.hid (readI_is f1 f2)
              have hcmp : (D.toList == s.toList) = true := by rw [text_cmp]; exact decide_eq_true hsD.symm
              have hcmp2 : (D.toList != s.toList) = false := by rw [bne, hcmp]; rfl
              clear f1 f2 hsD
              go_wp2_with fail
              skip
              refine (hde.out _).mono ?_
              rintro e w2 ⟨rfl, hb⟩
              go_wp2_with fail
              go_ret2
              exact ⟨ret_num hf2.out.symm hf1.out.symm, hb⟩
            · have hf := Lib.hid (hno.out hsD)
              have hcmp : (D.toList == s.toList) = false := by rw [text_cmp]; exact decide_eq_false (fun e => hsD e.symm)
              have hcmp2 : (D.toList != s.toList) = true := by rw [bne, hcmp]; rfl
              clear hsD
              go_wp2_with fail
              skip
              refine (hde.out _).mono ?_
              rintro e w2 ⟨rfl, hb⟩
              go_wp2_with fail
              go_ret2
              exact ⟨ret_num (readI_no hf.out).symm hf.out.symm, hb⟩
  · have hz : s.size = 0 := by omega
    have he := (empty_text hz).2
    have he2 := (empty_text hz).1
    have hl1 : s.size < 1 := by omega
    have hl1' : (s.size : Int) < 1 := by omega
    have hf := Lib.hid (show readL s.data.toList = false from readL_short (by
      have := len_bytes s
      have h1 : s.data.toList = [] := List.eq_nil_of_length_eq_zero (by omega)
      rw [h1]; decide))
    go_enter Tryz.func53, Tryz.ntmps53
    go_wp2_with fail
    go_ret2
    exact ⟨ret_num (readI_no hf.out).symm hf.out.symm, Below.refl _ _⟩
end Go.Proofs.YtmpfnkheohlmiaaGreatDoor
namespace Go.Proofs.YtmpfnkheohlmiaaGreatDoor
open Go.RowKit
set_option linter.unusedVariables false

theorem err_of {W : World} {l : List (String × DataW Unit)} {n nm : String} {d : DataW Unit} {g : Nat} {ti : TypeId} {ms : Array (String × TypeId)} (hL : laidMet Tryz.prog l W) (hm : (n, .iface nm d) ∈ l)
    (hg : Tryz.prog.globalNamed n = some g) (hty : (Tryz.prog.globals[g]?).map (·.type) = some ti) (hi : Tryz.prog.underlying ti = some (.interface ms)) : ∃ t p, W.var? Tryz.prog n = some #[.iface t p] := by
  obtain ⟨g', t', cs, fuel, p, hg', ht', hvar, hd⟩ := Lib.laidMet.reads hL hm
  obtain rfl := Option.some.inj (hg.symm.trans hg')
  obtain rfl := Option.some.inj (hty.symm.trans ht')
  obtain ⟨f1, u, v, he, _⟩ := iface_of_trod hi hd
  refine ⟨u, v, ?_⟩
  rw [hvar]
  obtain ⟨cl⟩ := cs
  simp only at he
  rw [he]
theorem errs_of {W : World} {l : List (String × DataW Unit)} (hL : laidMet Tryz.prog l W) (hs : ("strconv.ErrSyntax", (Rows.laid_strconv_ErrSyntax : DataW Unit)) ∈ l) (hr : ("strconv.ErrRange", (Rows.laid_strconv_ErrRange : DataW Unit)) ∈ l) : Errs W :=
  ⟨err_of (g := 3) hL hs (by kernel_rfl) (by kernel_rfl) Tryz.underlying139, err_of (g := 4) hL hr (by kernel_rfl) (by kernel_rfl) Tryz.underlying139⟩
end Go.Proofs.YtmpfnkheohlmiaaGreatDoor
