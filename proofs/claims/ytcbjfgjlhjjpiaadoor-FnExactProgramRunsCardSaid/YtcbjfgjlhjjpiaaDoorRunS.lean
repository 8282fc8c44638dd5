/- The walk of the reference's text of the runs of a program card. -/
import Derived.Test.YtcbjfgjlhjjpiaaDoorRunL
import Derived.Test.YtcbjfgjlhjjpiaaDoorDec
import Derived.Test.YtcbjfgjlhjjpiaaDoorWords
import Derived.Lib.ItoaLen
import Derived.IntWalk
import Derived.Deep.RegionWith
import Derived.Deep.RegionHeld3
namespace Go.Proofs.YtcbjfgjlhjjpiaaDoor
open Go.RowKit
set_option maxRecDepth 100000
set_option linter.unusedVariables false
set_option linter.unusedSimpArgs false
set_option linter.unnecessarySimpa false

theorem joinT_ne {ps : List ByteArray} (h : ps ≠ []) (hw : ∀ p ∈ ps, 0 < p.size) : 0 < (joinT ps).size := by
  cases ps with
  | nil => exact absurd rfl h
  | cons p r =>
    have h1 := hw p List.mem_cons_self
    show 0 < (Lib.join ((p :: r).map (·.data.toList)) [32]).toArray.size
    rw [List.map_cons, Lib.join_cons]
    have h2 : p.data.toList.length = p.size := len_bytes p
    simp; omega
def progRunsT (s : ByteArray) : ByteArray := if validProgL s.data.toList then runsT s else ⟨#[]⟩
theorem pr_no {s : ByteArray} (h : validProgL s.data.toList = false) : progRunsT s = ⟨#[]⟩ := by unfold progRunsT; rw [h]; rfl
theorem pr_ok {s : ByteArray} (h : validProgL s.data.toList = true) : progRunsT s = runsT s := by unfold progRunsT; rw [h]; rfl
theorem prog_20 {s : ByteArray} (h : validProgL s.data.toList = true) : s.size ≤ 20 := by
  have hl := len_bytes s
  unfold validProgL inB at h
  simp only [Bool.and_eq_true, decide_eq_true_eq] at h
  omega
theorem nil_app (x : ByteArray) : (⟨#[]⟩ : ByteArray) ++ x = x := by
  apply ByteArray.ext
  rw [ByteArray.data_append]
  simp
theorem not_empty {x : ByteArray} (h : 0 < x.size) : x.toList.isEmpty = false := by
  rw [toList_eq]
  have hl := len_bytes x
  cases hx : x.data.toList with
  | nil => rw [hx] at hl; simp at hl; omega
  | cons a r => rfl
theorem wordR_pos {s : ByteArray} {i k : Nat} (hi : i < s.size) : 0 < (wordR s i k).size := by rw [wordR_size hi]; omega
theorem wordR_max {s : ByteArray} {i k : Nat} (hi : i < s.size) (hik : i < k) (hk : k ≤ 20) : (wordR s i k).size ≤ 22 := by
  rw [wordR_size hi]
  have := Lib.itoa_length_le ((k : Int) - (i : Int)) (by omega) (by omega)
  omega
set_option maxHeartbeats 2000000 in
theorem spec_l05Runs (s : ByteArray) (w : World) (hs : s.size ≤ 20) :
    Calls Tryd.prog 29 #[.string s] w fun e w' => e = .returned (.string (runsT s)) ∧ Below w.heap.size w w' := by
  go_enter Tryd.func29, Tryd.ntmps29
  go_wp2_with fail
  go_loopw [3, 4] (fun v i wr => ∃ (I : Nat) (ps : List ByteArray), I ≤ s.size ∧ i = .int .i64 I ∧ v = .string (joinT ps) ∧ Hid (RunsAt s I ps) ∧ Hid (∀ p ∈ ps, 0 < p.size) ∧ (joinT ps).size ≤ 23 * I ∧ Below w.heap.size w wr) (fun _ i _ => s.size - (intOf i).toNat)
  case atStart => exact ⟨0, [], by omega, rfl, rfl, Lib.hid (RunsAt.start s), Lib.hid (by simp), by decide, Below.refl _ _⟩
  case round =>
    obtain ⟨I, ps, hI, rfl, rfl, hat, hpos, hsz, hB⟩ := hrel
    obtain ⟨w1, hw1⟩ : ∃ w1, w1 = wr := ⟨_, rfl⟩
    subst hw1
    by_cases hlt : I < s.size
    · have hlt' : (I : Int) < (s.size : Int) := by omega
      go_wp2_with fail
      go_loopw [5] (fun v wr => ∃ n : Nat, 1 ≤ n ∧ I + n ≤ s.size ∧ v = .int .i64 n ∧ Hid (∀ j, I ≤ j → j < I + n → s.data.toList[j]? = some s[I]) ∧ Below w.heap.size w wr) (fun v _ => s.size - (intOf v).toNat)
      case atStart => exact ⟨1, by omega, by omega, rfl, Lib.hid (fun j h1 h2 => by obtain rfl : j = I := (by omega); exact get_bytes s j hlt), hB⟩
      case round =>
        obtain ⟨n, hn1, hn2, rfl, heq, hB2⟩ := hrel
        obtain ⟨K, hK⟩ : ∃ K, K = I + n := ⟨_, rfl⟩
        rw [← hK] at hn2 heq
        have hcast : (I : Int) + (n : Int) = (K : Int) := by omega
        have hIK : I < K := by omega
        obtain ⟨J, hJ⟩ : ∃ J, J = I + 1 := ⟨_, rfl⟩
        have hJs : J ≤ s.size := by omega
        have hIJ : I ≤ J := by omega
        have hJc : (I : Int) + 1 = (J : Int) := by omega
        have hwr : IntKind.i64.wrap ((I : Int) + 1) = (J : Int) := by rw [hJc]; exact IntWalk.i64_in _ (by omega)
        have hsE : (s.extract I J).size = 1 := by rw [ByteArray.size_extract]; omega
        have hmin : min J s.size = J := by omega
        have hJI : J - I = 1 := by omega
        have hIn : n ≤ 20 := by omega
        have hwJ : IntKind.i64.wrap (J : Int) = (J : Int) := IntWalk.i64_in _ (by omega)
        have hJ' := Lib.hid hJ
        clear hJ
        have hK' := Lib.hid hK
        clear hK
        by_cases hlt2 : K < s.size
        · have hlt3 : (K : Int) < (s.size : Int) := by omega
          have hd1 : decide ((K : Int) < (s.size : Int)) = true := decide_eq_true hlt3
          have hd2 : decide (K < s.size) = true := decide_eq_true hlt2
          have hg := get_bytes s (K) hlt2
          by_cases hc : s[K] = s[I]
          · have hcu : ((s[K].toNat : Int) == (s[I].toNat : Int)) = true := by rw [hc]; exact beq_self_eq_true _
            have hcu2 : s[K].toNat = s[I].toNat := by rw [hc]
            have hmore := Lib.hid (show ∀ j, I ≤ j → j < K + 1 → s.data.toList[j]? = some s[I] from fun j h1 h2 => by
              by_cases h3 : j = K
              · subst h3; rw [hg, hc]
              · exact heq.out j h1 (by omega))
            clear hc hg
            go_wp2_with fail
            first | go_quiet (fail) | fail
            go_wp2_with fail
            go_roundw
            case rel => exact ⟨n + 1, by omega, by omega, by go_num, by rw [← Nat.add_assoc, ← hK'.out]; exact hmore, by first | exact below_drewN hB2 _ | exact hB2⟩
            case measure => simp [intOf]; omega
          · have hcu : ((s[K].toNat : Int) == (s[I].toNat : Int)) = false := by
              have : ¬ s[K].toNat = s[I].toNat := fun e => hc (UInt8.toNat_inj.1 e)
              exact beq_false_of_ne (by omega)
            have hcu2 : ¬ s[K].toNat = s[I].toNat := fun e => hc (UInt8.toNat_inj.1 e)
            have hne : s.data.toList[K]? ≠ some s[I] := by rw [hg]; intro e; exact hc (Option.some.inj e)
            clear hc hg
            go_wp2_with fail
            first | go_quiet (fail) | fail
            have hnx := Lib.hid (hat.out.next hlt (by omega) (by omega) heq.out hne)
            have hwm := Lib.hid (wordR_max (k := K) hlt (by omega) (by omega))
            have hpos' := Lib.hid (show ∀ p ∈ ps ++ [wordR s I (K)], 0 < p.size from fun p hp => by rcases List.mem_append.1 hp with h | h; exact hpos.out p h; obtain rfl := List.mem_singleton.1 h; exact wordR_pos hlt)
            have hw : Hid (wordR s I (K) = s.extract I J ++ ⟨(Lib.itoa (n : Int)).toArray⟩) := Lib.hid (by unfold wordR; rw [← hJ'.out, show (K : Int) - (I : Int) = (n : Int) by omega])
            have hil := Lib.itoa_length_le (n : Int) (by omega) (by omega)
            clear hne
            by_cases hps : ps = []
            · subst hps
              rw [joinT_nil] at *
              go_wp2_with fail
              have hl1 : ¬ 9223372036854775807 < 1 + (Lib.itoa (n : Int)).length := by omega
              generalize hWq : World.drewN wr _ = wq at *
              have hBq : Hid (Below w.heap.size w wq) := Lib.hid (by rw [← hWq]; exact below_drewN hB2 _)
              clear hWq
              (first | go_region_held3 (fun W => Below wq.heap.size wq W) (first | exact (below_drewN (Below.refl _ _) 1) | (rename Below wq.heap.size wq _ => hH; (refine bthen hH ?_; assumption))) (first | (go_at_call 62; ((with_reducible refine (spec_l01Dec (n : Int) _ (by omega) (by omega)).mono ?_); rintro e wq0 ⟨rfl, hbq5⟩))) | fail)
              all_goals
                have hHb := ‹Below wq.heap.size wq _›
                go_wp2_with fail
                go_roundw
                case rel => exact ⟨K, [] ++ [wordR s I K], hn2, by go_num, by rw [List.nil_append, joinT_one, hw.out, nil_app], hnx, hpos', by rw [List.nil_append, joinT_one]; have h1 := hwm.out; omega, bthen hBq.out hHb⟩
                case measure => simp [intOf]; omega
            · have hj0 := joinT_ne hps hpos.out
              have hje := not_empty hj0
              go_wp2_with fail
              have hl1 : ¬ 9223372036854775807 < 1 + (Lib.itoa (n : Int)).length := by omega
              have hl2 : ¬ 9223372036854775807 < (joinT ps).size + 1 + (1 + (Lib.itoa (n : Int)).length) := by omega
              have hl3 : ¬ 9223372036854775807 < (joinT ps).size + (1 + (1 + (Lib.itoa (n : Int)).length)) := by omega
              generalize hWq : World.drewN wr _ = wq at *
              have hBq : Hid (Below w.heap.size w wq) := Lib.hid (by rw [← hWq]; exact below_drewN hB2 _)
              clear hWq
              (first | go_region_held3 (fun W => Below wq.heap.size wq W) (first | exact (below_drewN (Below.refl _ _) 1) | (rename Below wq.heap.size wq _ => hH; (refine bthen hH ?_; assumption))) (first | (go_at_call 62; ((with_reducible refine (spec_l01Dec (n : Int) _ (by omega) (by omega)).mono ?_); rintro e wq0 ⟨rfl, hbq5⟩))) | fail)
              all_goals
                have hHb := ‹Below wq.heap.size wq _›
                go_wp2_with fail
                go_roundw
                case rel => exact ⟨K, ps ++ [wordR s I K], hn2, by go_num, by rw [joinT_snoc _ hps, hw.out], hnx, hpos', by rw [joinT_snoc _ hps, ByteArray.size_append, ByteArray.size_append]; have h1 := hwm.out; have h2 : (⟨#[32]⟩ : ByteArray).size = 1 := rfl; omega, bthen hBq.out hHb⟩
                case measure => simp [intOf]; omega
        · have hd1 : decide ((K : Int) < (s.size : Int)) = false := decide_eq_false (by omega)
          have hd2 : decide (K < s.size) = false := decide_eq_false hlt2
          have hne : s.data.toList[K]? ≠ some s[I] := by rw [List.getElem?_eq_none (by rw [len_bytes]; omega)]; simp
          go_wp2_with fail
          first | go_quiet (fail) | fail
          have hnx := Lib.hid (hat.out.next hlt (by omega) (by omega) heq.out hne)
          have hwm := Lib.hid (wordR_max (k := K) hlt (by omega) (by omega))
          have hpos' := Lib.hid (show ∀ p ∈ ps ++ [wordR s I (K)], 0 < p.size from fun p hp => by rcases List.mem_append.1 hp with h | h; exact hpos.out p h; obtain rfl := List.mem_singleton.1 h; exact wordR_pos hlt)
          have hw : Hid (wordR s I (K) = s.extract I J ++ ⟨(Lib.itoa (n : Int)).toArray⟩) := Lib.hid (by unfold wordR; rw [← hJ'.out, show (K : Int) - (I : Int) = (n : Int) by omega])
          have hil := Lib.itoa_length_le (n : Int) (by omega) (by omega)
          clear hne
          by_cases hps : ps = []
          · subst hps
            rw [joinT_nil] at *
            go_wp2_with fail
            have hl1 : ¬ 9223372036854775807 < 1 + (Lib.itoa (n : Int)).length := by omega
            generalize hWq : World.drewN wr _ = wq at *
            have hBq : Hid (Below w.heap.size w wq) := Lib.hid (by rw [← hWq]; exact below_drewN hB2 _)
            clear hWq
            (first | go_region_held3 (fun W => Below wq.heap.size wq W) (first | exact (below_drewN (Below.refl _ _) 1) | (rename Below wq.heap.size wq _ => hH; (refine bthen hH ?_; assumption))) (first | (go_at_call 62; ((with_reducible refine (spec_l01Dec (n : Int) _ (by omega) (by omega)).mono ?_); rintro e wq0 ⟨rfl, hbq5⟩))) | fail)
            all_goals
              have hHb := ‹Below wq.heap.size wq _›
              go_wp2_with fail
              go_roundw
              case rel => exact ⟨K, [] ++ [wordR s I K], hn2, by go_num, by rw [List.nil_append, joinT_one, hw.out, nil_app], hnx, hpos', by rw [List.nil_append, joinT_one]; have h1 := hwm.out; omega, bthen hBq.out hHb⟩
              case measure => simp [intOf]; omega
          · have hj0 := joinT_ne hps hpos.out
            have hje := not_empty hj0
            go_wp2_with fail
            have hl1 : ¬ 9223372036854775807 < 1 + (Lib.itoa (n : Int)).length := by omega
            have hl2 : ¬ 9223372036854775807 < (joinT ps).size + 1 + (1 + (Lib.itoa (n : Int)).length) := by omega
            have hl3 : ¬ 9223372036854775807 < (joinT ps).size + (1 + (1 + (Lib.itoa (n : Int)).length)) := by omega
            generalize hWq : World.drewN wr _ = wq at *
            have hBq : Hid (Below w.heap.size w wq) := Lib.hid (by rw [← hWq]; exact below_drewN hB2 _)
            clear hWq
            (first | go_region_held3 (fun W => Below wq.heap.size wq W) (first | exact (below_drewN (Below.refl _ _) 1) | (rename Below wq.heap.size wq _ => hH; (refine bthen hH ?_; assumption))) (first | (go_at_call 62; ((with_reducible refine (spec_l01Dec (n : Int) _ (by omega) (by omega)).mono ?_); rintro e wq0 ⟨rfl, hbq5⟩))) | fail)
            all_goals
              have hHb := ‹Below wq.heap.size wq _›
              go_wp2_with fail
              go_roundw
              case rel => exact ⟨K, ps ++ [wordR s I K], hn2, by go_num, by rw [joinT_snoc _ hps, hw.out], hnx, hpos', by rw [joinT_snoc _ hps, ByteArray.size_append, ByteArray.size_append]; have h1 := hwm.out; have h2 : (⟨#[32]⟩ : ByteArray).size = 1 := rfl; omega, bthen hBq.out hHb⟩
              case measure => simp [intOf]; omega
    · obtain rfl : I = s.size := by omega
      have hdn := Lib.hid hat.out.done
      go_wp2_with fail
      go_ret
      exact ⟨ret_str hdn.out.symm, hB⟩
theorem spec_ProgramRuns (s : ByteArray) (w : World) (hs : s.size ≤ 1048576) :
    Calls Tryd.prog 8 #[.string s] w fun e w' => e = .returned (.string (progRunsT s)) ∧ Below w.heap.size w w' := by
  have hok := Lib.hid (fun W => spec_l05Ok s (small hs) W)
  cases hv : validProgL s.data.toList
  · have hf := Lib.hid (pr_no hv)
    rw [hv] at hok
    go_enter Tryd.func8, Tryd.ntmps8
    go_wp2_with (go_at_call 28; ((with_reducible refine (hok.out _).mono ?_); rintro e w' ⟨rfl, rfl⟩))
    go_ret
    exact ⟨ret_str (by rw [hf.out]), Below.refl _ _⟩
  · have hf := Lib.hid (pr_ok hv)
    have h20 := prog_20 hv
    rw [hv] at hok
    go_enter Tryd.func8, Tryd.ntmps8
    go_wp2_with (first | (go_at_call 28; ((with_reducible refine (hok.out _).mono ?_); rintro e w' ⟨rfl, rfl⟩)) | (go_at_call 29; ((with_reducible refine (spec_l05Runs s _ h20).mono ?_); rintro e w' ⟨rfl, hb⟩)))
    go_ret
    exact ⟨ret_str (by rw [hf.out]), hb⟩
end Go.Proofs.YtcbjfgjlhjjpiaaDoor
