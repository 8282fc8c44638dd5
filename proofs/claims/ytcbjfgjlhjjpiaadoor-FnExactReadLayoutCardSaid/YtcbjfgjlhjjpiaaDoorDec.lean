/- The walks of the functions that write a number in decimal. -/
import Derived.Test.YtcbjfgjlhjjpiaaDoorDecL
import Derived.Test.YtcbjfgjlhjjpiaaDoorTexts
import Derived.Test.YtcbjfgjlhjjpiaaDoorApp
import Derived.Test.YtcbjfgjlhjjpiaaDoorShelf
import Derived.Laws.AppendOwn
import Derived.IntWalk
import Derived.Lib.AppendIntMem
import Derived.Lib.LaidTab
namespace Go.Proofs.YtcbjfgjlhjjpiaaDoor
open Go.RowKit
set_option maxRecDepth 100000
set_option linter.unusedVariables false
set_option linter.unusedSimpArgs false
set_option linter.unnecessarySimpa false

set_option maxHeartbeats 4000000 in
theorem spec_l01Dec_pos (n : Nat) (w : World) (hn : n ≤ 9223372036854775807) :
    Calls Tryd.prog 62 #[.int .i64 n] w fun e w' => e = .returned (.string ⟨(Lib.itoa (n : Int)).toArray⟩) ∧ Below w.heap.size w w' := by
  obtain ⟨i0, hi, hz0, hz1, hz2⟩ := info_parts Tryd.info_byte
  have hba := Lib.hid (below_alloc (w := w) (.cells #[] 5))
  have hit := Lib.hid (Lib.itoa_nonneg n)
  have hd20 := Lib.hid (Lib.nDigits_le20 n (by omega))
  go_enter Tryd.func62, Tryd.ntmps62
  go_wp2_with fail
  go_loopw [3, 4] (fun v i wr => ∃ (L q : Nat) (ad : Addr) (c' : Nat), i = .int .i64 q ∧ v = .slice (some ad) L c' ∧ Hid (q = n / 10 ^ L) ∧ Hid (L ≤ Lib.nDigits n) ∧ Hid (L = 0 ∨ 0 < n) ∧ RB wr (some ad) (decUp n L) ∧ Below w.heap.size w wr) (fun _ i _ => (intOf i).toNat)
  case atStart => exact ⟨0, n, _, _, rfl, rfl, Lib.hid (by simp), Lib.hid (Nat.zero_le _), Lib.hid (Or.inl rfl), by rw [decUp_zero]; exact Row.nil _ _, hba.out⟩
  case round =>
    obtain ⟨L, q, ad, c', rfl, rfl, hq, hLn, hL0, hrow, hB⟩ := hrel
    replace hB := Lib.hid hB
    have hqn : q ≤ 9223372036854775807 := by have h1 := hq.out; have h2 := Nat.div_le_self n (10 ^ L); omega
    by_cases hlt : 0 < q
    · have hqd := Lib.hid (show q / 10 = n / 10 ^ (L + 1) by rw [hq.out, Nat.div_div_eq_div_mul, Nat.pow_succ])
      have hLn1 := Lib.hid (more_digits (u := n) (L := L) (by have := hq.out; omega))
      have hn0 := Lib.hid (show L + 1 = 0 ∨ 0 < n by (have h1 := hq.out; have h2 := Nat.div_le_self n (10 ^ L); right; omega))
      have hL20 : L ≤ 20 := by have h1 := hLn.out; have h2 := hd20.out; omega
      have hbyte := Lib.hid (show (.int .u8 (48 + (q : Int) % 10) : Value) = byteV (Lib.dg n L) by unfold byteV; rw [dg_toNat, ← hq.out]; congr 1)
      have hr0 : 0 ≤ (q : Int) % 10 := by omega
      have hr9 : (q : Int) % 10 ≤ 9 := by omega
      have hq0 : ((q : Int) != 0) = true := by simp; omega
      have hlit := Lib.hid (World.ownsRow_lit (base := w.heap.size) (e := 5) (size := 1) wr #[.int .u8 (48 + (q : Int) % 10)] 1 (by have := hB.out.size; omega) (by simp [maxLen]) rfl)
      have hsrc := Lib.hid (Row.add (hrow.kept (below_alloc (.cells #[.int .u8 (48 + (q : Int) % 10)] 5))))
      have hlen := Lib.hid (show ((decUp n L).map byteV).length = L * 1 by rw [List.length_map, decUp_length, Nat.mul_one])
      have hbA := Lib.hid (hB.out.alloc hB.out.size (.cells #[.int .u8 (48 + (q : Int) % 10)] 5))
      have hszr := hB.out.size
      clear hrow
      go_wp2_with (at_builtin; refine wpList_append_own _ rfl _ _ 24 rfl w.heap.size 5 i0 (.int .u8 0) 1 1 Tryd.underlying24 hi hz0 hz1 hz2 rfl (by decide) _ 1 [.int .u8 (48 + (q : Int) % 10)] rfl hlit.out ad L c' ((decUp n L).map byteV) rfl hlen.out hsrc.out (bytes_one _) (by simp only [maxLen]; omega) (by omega) (by simp only [World.size_alloc]; omega) ?_; intro v5 w5 hown5 hg5 _; have hb5 := Lib.hid (hbA.out.grown hg5 (by simp only [World.size_alloc]; omega) (fun k hk => (hlit.out.lt k hk).1)); obtain ⟨a5, c5, hv5, hr5, _⟩ := own_slice hown5; subst hv5; have hne5 := own_some hown5 (by omega); have hr5' := Lib.hid hr5; clear hown5 hg5 hr5)
      obtain ⟨ad5, rfl⟩ : ∃ x, a5 = some x := by cases a5 with | none => exact absurd rfl hne5 | some x => exact ⟨x, rfl⟩
      go_roundw
      case rel => exact ⟨L + 1, q / 10, ad5, c5, by first | go_num | (congr 1; omega), by rw [Nat.add_comm], hqd, hLn1, hn0, by rw [decUp_succ]; unfold RB; rw [List.map_cons, ← hbyte.out]; exact hr5'.out, hb5.out⟩
      case measure => simp [intOf]; omega
    · obtain rfl : q = 0 := by omega
      by_cases hL : L = 0
      · subst hL
        obtain rfl : n = 0 := by have h1 := hq.out; simpa using h1.symm
        go_wp2_with fail
        go_ret
        exact ⟨ret_str (by first | rw [itoa_zero] | (simp [itoa_zero]; done)), hB.out⟩
      · have hn0 : 0 < n := by have := hL0.out; omega
        have hall := Lib.hid (decUp_all hn0 hq.out.symm hLn.out)
        have hcv := run_text (P := Tryd.prog) wr 24 9 5 (some ad) c' (decUp n L) Tryd.underlying24 Tryd.underlying5 Tryd.underlying9 (by simp) hrow
        rw [decUp_length] at hcv
        have hL1 : ((L : Int) == 0) = false := by simp; omega
        have hn1 : ¬ (n : Int) < 0 := by omega
        have hrow' := Lib.hid hrow
        clear hrow
        go_wp2_with fail
        go_ret
        exact ⟨ret_str (by rw [hit.out, ← hall.out]), hB.out⟩
set_option maxHeartbeats 4000000 in
theorem spec_l01Dec_neg (n : Nat) (w : World) (h0n : 0 < n) (hn : n ≤ 9223372036854775808) :
    Calls Tryd.prog 62 #[.int .i64 (-(n : Int))] w fun e w' => e = .returned (.string ⟨(Lib.itoa (-(n : Int))).toArray⟩) ∧ Below w.heap.size w w' := by
  obtain ⟨i0, hi, hz0, hz1, hz2⟩ := info_parts Tryd.info_byte
  have hba := Lib.hid (below_alloc (w := w) (.cells #[] 5))
  have hit := Lib.hid (Lib.itoa_neg n h0n)
  have hd20 := Lib.hid (Lib.nDigits_le20 n (by omega))
  go_enter Tryd.func62, Tryd.ntmps62
  go_wp2_with fail
  go_loopw [3, 4] (fun v i wr => ∃ (L q : Nat) (ad : Addr) (c' : Nat), i = .int .i64 (-(q : Int)) ∧ v = .slice (some ad) L c' ∧ Hid (q = n / 10 ^ L) ∧ Hid (L ≤ Lib.nDigits n) ∧ Hid (L = 0 ∨ 0 < n) ∧ RB wr (some ad) (decUp n L) ∧ Below w.heap.size w wr) (fun _ i _ => (intOf i).natAbs)
  case atStart => exact ⟨0, n, _, _, rfl, rfl, Lib.hid (by simp), Lib.hid (Nat.zero_le _), Lib.hid (Or.inl rfl), by rw [decUp_zero]; exact Row.nil _ _, hba.out⟩
  case round =>
    obtain ⟨L, q, ad, c', rfl, rfl, hq, hLn, hL0, hrow, hB⟩ := hrel
    replace hB := Lib.hid hB
    have hqn : q ≤ 9223372036854775808 := by have h1 := hq.out; have h2 := Nat.div_le_self n (10 ^ L); omega
    by_cases hlt : 0 < q
    · have hqd := Lib.hid (show q / 10 = n / 10 ^ (L + 1) by rw [hq.out, Nat.div_div_eq_div_mul, Nat.pow_succ])
      have hLn1 := Lib.hid (more_digits (u := n) (L := L) (by have := hq.out; omega))
      have hn0 := Lib.hid (show L + 1 = 0 ∨ 0 < n by (have h1 := hq.out; have h2 := Nat.div_le_self n (10 ^ L); right; omega))
      have hL20 : L ≤ 20 := by have h1 := hLn.out; have h2 := hd20.out; omega
      have htd : Int.tdiv (-(q : Int)) 10 = -((q / 10 : Nat) : Int) := by rw [Int.neg_tdiv, Int.tdiv_eq_ediv_of_nonneg (by omega)]; omega
      have hq0 : (-(q : Int) != 0) = true := by simp; omega
      have hq1 : ¬ (q : Int) = 0 := by omega
      obtain ⟨r, hr⟩ : ∃ r : Int, r = (q : Int) % 10 := ⟨_, rfl⟩
      by_cases hz : r = 0
      · have hbyte := Lib.hid (show (.int .u8 48 : Value) = byteV (Lib.dg n L) by unfold byteV; rw [dg_toNat, ← hq.out]; congr 1; omega)
        have htm : Int.tmod (-(q : Int)) 10 = 0 := by rw [Int.neg_tmod, Int.tmod_eq_emod_of_nonneg (by omega)]; omega
        clear hr hz
        have hlit := Lib.hid (World.ownsRow_lit (base := w.heap.size) (e := 5) (size := 1) wr #[.int .u8 48] 1 (by have := hB.out.size; omega) (by simp [maxLen]) rfl)
        have hsrc := Lib.hid (Row.add (hrow.kept (below_alloc (.cells #[.int .u8 48] 5))))
        have hlen := Lib.hid (show ((decUp n L).map byteV).length = L * 1 by rw [List.length_map, decUp_length, Nat.mul_one])
        have hbA := Lib.hid (hB.out.alloc hB.out.size (.cells #[.int .u8 48] 5))
        have hszr := hB.out.size
        clear hrow
        go_wp2_with (at_builtin; refine wpList_append_own _ rfl _ _ 24 rfl w.heap.size 5 i0 (.int .u8 0) 1 1 Tryd.underlying24 hi hz0 hz1 hz2 rfl (by decide) _ 1 [.int .u8 48] rfl hlit.out ad L c' ((decUp n L).map byteV) rfl hlen.out hsrc.out (bytes_one _) (by simp only [maxLen]; omega) (by omega) (by simp only [World.size_alloc]; omega) ?_; intro v5 w5 hown5 hg5 _; have hb5 := Lib.hid (hbA.out.grown hg5 (by simp only [World.size_alloc]; omega) (fun k hk => (hlit.out.lt k hk).1)); obtain ⟨a5, c5, hv5, hr5, _⟩ := own_slice hown5; subst hv5; have hne5 := own_some hown5 (by omega); have hr5' := Lib.hid hr5; clear hown5 hg5 hr5)
        obtain ⟨ad5, rfl⟩ : ∃ x, a5 = some x := by cases a5 with | none => exact absurd rfl hne5 | some x => exact ⟨x, rfl⟩
        go_roundw
        case rel => exact ⟨L + 1, q / 10, ad5, c5, by first | go_num | (congr 1; omega), by rw [Nat.add_comm], hqd, hLn1, hn0, by rw [decUp_succ]; unfold RB; rw [List.map_cons, ← hbyte.out]; exact hr5'.out, hb5.out⟩
        case measure => simp only [intOf]; omega
      · have hbyte := Lib.hid (show (.int .u8 (48 + r) : Value) = byteV (Lib.dg n L) by unfold byteV; rw [dg_toNat, ← hq.out]; congr 1; omega)
        have htm : Int.tmod (-(q : Int)) 10 = -r := by rw [Int.neg_tmod, Int.tmod_eq_emod_of_nonneg (by omega)]; omega
        have hr1 : 0 < r := by omega
        have hr9 : r ≤ 9 := by omega
        clear hr hz
        have hlit := Lib.hid (World.ownsRow_lit (base := w.heap.size) (e := 5) (size := 1) wr #[.int .u8 (48 + r)] 1 (by have := hB.out.size; omega) (by simp [maxLen]) rfl)
        have hsrc := Lib.hid (Row.add (hrow.kept (below_alloc (.cells #[.int .u8 (48 + r)] 5))))
        have hlen := Lib.hid (show ((decUp n L).map byteV).length = L * 1 by rw [List.length_map, decUp_length, Nat.mul_one])
        have hbA := Lib.hid (hB.out.alloc hB.out.size (.cells #[.int .u8 (48 + r)] 5))
        have hszr := hB.out.size
        clear hrow
        go_wp2_with (at_builtin; refine wpList_append_own _ rfl _ _ 24 rfl w.heap.size 5 i0 (.int .u8 0) 1 1 Tryd.underlying24 hi hz0 hz1 hz2 rfl (by decide) _ 1 [.int .u8 (48 + r)] rfl hlit.out ad L c' ((decUp n L).map byteV) rfl hlen.out hsrc.out (bytes_one _) (by simp only [maxLen]; omega) (by omega) (by simp only [World.size_alloc]; omega) ?_; intro v5 w5 hown5 hg5 _; have hb5 := Lib.hid (hbA.out.grown hg5 (by simp only [World.size_alloc]; omega) (fun k hk => (hlit.out.lt k hk).1)); obtain ⟨a5, c5, hv5, hr5, _⟩ := own_slice hown5; subst hv5; have hne5 := own_some hown5 (by omega); have hr5' := Lib.hid hr5; clear hown5 hg5 hr5)
        obtain ⟨ad5, rfl⟩ : ∃ x, a5 = some x := by cases a5 with | none => exact absurd rfl hne5 | some x => exact ⟨x, rfl⟩
        go_roundw
        case rel => exact ⟨L + 1, q / 10, ad5, c5, by first | go_num | (congr 1; omega), by rw [Nat.add_comm], hqd, hLn1, hn0, by rw [decUp_succ]; unfold RB; rw [List.map_cons, ← hbyte.out]; exact hr5'.out, hb5.out⟩
        case measure => simp only [intOf]; omega
    · obtain rfl : q = 0 := by omega
      have hL : ¬ L = 0 := fun h => by subst h; have h1 := hq.out; simp at h1; omega
      have hall := Lib.hid (decUp_all h0n hq.out.symm hLn.out)
      have hcv := run_text (P := Tryd.prog) wr 24 9 5 (some ad) c' (decUp n L) Tryd.underlying24 Tryd.underlying5 Tryd.underlying9 (by simp) hrow
      rw [decUp_length] at hcv
      have hL1 : ((L : Int) == 0) = false := by simp; omega
      have hn1 : -(n : Int) < 0 := by omega
      have hsl : ¬ 9223372036854775807 < 1 + (decUp n L).length := by rw [decUp_length]; have h1 := hLn.out; have h2 := hd20.out; omega
      have hrow' := Lib.hid hrow
      clear hrow
      go_wp2_with fail
      go_ret
      exact ⟨ret_str (by rw [hit.out, ← hall.out]; rfl), hB.out⟩
theorem spec_l01Dec (n : Int) (w : World) (h0 : -9223372036854775808 ≤ n) (h1 : n ≤ 9223372036854775807) :
    Calls Tryd.prog 62 #[.int .i64 n] w fun e w' => e = .returned (.string ⟨(Lib.itoa n).toArray⟩) ∧ Below w.heap.size w w' := by
  by_cases h : 0 ≤ n
  · obtain ⟨m, rfl⟩ := Int.eq_ofNat_of_zero_le h
    exact spec_l01Dec_pos m w (by omega)
  · obtain ⟨m, hm⟩ := Int.eq_ofNat_of_zero_le (show 0 ≤ -n by omega)
    obtain rfl : n = -(m : Int) := by omega
    exact spec_l01Dec_neg m w (by omega) (by omega)
/-- the table of the library's that the decimal form reads -/
def Pow10 (w : World) : Prop := Lib.TabIs Tryd.prog w "internal/strconv.uint64pow10" .u64 Lib.pow10Tab
theorem impl_Decimal (n : Int) (w : World) (h0 : -9223372036854775808 ≤ n) (h1 : n ≤ 9223372036854775807) (ht : Pow10 w) :
    Calls Tryd.prog 31 #[.int .i64 n] w fun e w' => e = .returned (.string ⟨(Lib.itoa n).toArray⟩) ∧ Below w.heap.size w w' := by
  have hf := Lib.hid ((Tryd.strconv_FormatInt_10 n h0 h1 w ht).mono fun (e : Ending) (w' : World) ⟨he, k, os, hw⟩ => (show e = Ending.returned (.string ⟨(Lib.itoa n).toArray⟩) ∧ Below w.heap.size w w' from ⟨he, by rw [hw]; exact Lib.below_grow _ _ (Nat.le_refl _) _ _⟩))
  go_enter Tryd.func31, Tryd.ntmps31
  go_wp2_with (go_at_call 65; ((with_reducible refine hf.out.mono ?_); rintro e w' ⟨rfl, hb⟩))
  go_ret
  exact ⟨rfl, hb⟩
end Go.Proofs.YtcbjfgjlhjjpiaaDoor
