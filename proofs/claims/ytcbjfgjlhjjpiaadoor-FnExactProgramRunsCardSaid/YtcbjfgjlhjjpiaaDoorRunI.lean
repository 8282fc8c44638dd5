/- The walk of the program's text of the runs of a program card. -/
import Derived.Test.YtcbjfgjlhjjpiaaDoorRunS
import Derived.Test.YtcbjfgjlhjjpiaaDoorApp
import Derived.Test.YtcbjfgjlhjjpiaaDoorTabs
import Derived.Laws.AppendOwn
namespace Go.Proofs.YtcbjfgjlhjjpiaaDoor
open Go.RowKit
set_option maxRecDepth 100000
set_option linter.unusedVariables false
set_option linter.unusedSimpArgs false
set_option linter.unnecessarySimpa false

theorem RunsAt.none {s : ByteArray} {i : Nat} (h : RunsAt s i []) : i = 0 := by
  obtain ⟨m, h1, h2, h3⟩ := h
  have : m = 0 := h2.symm
  subst this
  exact (congrArg Prod.fst h3).symm
theorem prog_1 {s : ByteArray} (h : validProgL s.data.toList = true) : 1 ≤ s.size := by
  have hl := len_bytes s
  unfold validProgL inB at h
  simp only [Bool.and_eq_true, decide_eq_true_eq] at h
  omega
theorem OV.cap {lo hi e size n c : Nat} {w : World} {a : Option Addr} {vs : List Value} (h : OV lo hi w e size a n c vs) : n ≤ c := by
  obtain ⟨a', c', hv, _, h1, _⟩ := own_slice h.1
  simp only [Value.slice.injEq] at hv
  omega
theorem joinT_more (ps : List ByteArray) (p : ByteArray) : (joinT (ps ++ [p])).size ≤ (joinT ps).size + 1 + p.size := by
  by_cases h : ps = []
  · subst h; rw [List.nil_append, joinT_one]; omega
  · rw [joinT_snoc p h, ByteArray.size_append, ByteArray.size_append]
    have : (⟨#[32]⟩ : ByteArray).size = 1 := rfl
    omega
set_option maxHeartbeats 2000000 in
theorem impl_ProgramRuns (s : ByteArray) (w : World) (hs : s.size ≤ 1048576) (ht : Pow10 w) :
    Calls Tryd.prog 9 #[.string s] w fun e w' => e = .returned (.string (progRunsT s)) ∧ Below w.heap.size w w' := by
  obtain ⟨i0, hi, hz0, hz1, hz2⟩ := info_parts Tryd.info_string
  have hok := Lib.hid (fun W => impl_ValidProgram s (small hs) W)
  cases hv : validProgL s.data.toList
  · have hf := Lib.hid (pr_no hv)
    rw [hv] at hok
    go_enter Tryd.func9, Tryd.ntmps9
    go_wp2_with (go_at_call 30; ((with_reducible refine (hok.out _).mono ?_); rintro e w' ⟨rfl, rfl⟩))
    go_ret
    exact ⟨ret_str (by rw [hf.out]), Below.refl _ _⟩
  have hf := Lib.hid (pr_ok hv)
  have h20 := prog_20 hv
  have h1s := prog_1 hv
  rw [hv] at hok
  have hba := Lib.hid (below_alloc (w := w) (.cells #[] 9))
  have hown0 := Lib.hid (World.ownsRow_lit (base := w.heap.size) (e := 9) (size := 1) w #[] 0 (Nat.le_refl _) (by simp [maxLen]) rfl)
  go_enter Tryd.func9, Tryd.ntmps9
  go_wp2_with (go_at_call 30; ((with_reducible refine (hok.out _).mono ?_); rintro e w' ⟨rfl, rfl⟩))
  go_loopw [3, 4] (fun v i wr => ∃ (I : Nat) (ps : List ByteArray) (a' : Option Addr) (c' : Nat), I ≤ s.size ∧ i = .int .i64 I ∧ v = .slice a' ps.length c' ∧ Hid (RunsAt s I ps) ∧ Hid (∀ p ∈ ps, 0 < p.size) ∧ (joinT ps).size ≤ 23 * I ∧ Hid (OV w.heap.size wr.heap.size wr 9 1 a' ps.length c' (ps.map Value.string)) ∧ Below w.heap.size w wr) (fun _ i _ => s.size - (intOf i).toNat)
  case atStart => exact ⟨0, [], _, _, by omega, rfl, rfl, Lib.hid (RunsAt.start s), Lib.hid (by simp), by decide, Lib.hid (OV.of hown0.out), hba.out⟩
  case round =>
    obtain ⟨I, ps, a3, c3, hI, rfl, rfl, hat, hpos, hsz, hown, hB⟩ := hrel
    obtain ⟨w1, hw1⟩ : ∃ w1, w1 = wr := ⟨_, rfl⟩
    subst hw1
    by_cases hlt : I < s.size
    · have hlt' : (I : Int) < (s.size : Int) := by omega
      go_wp2_with fail
      go_loopw [5] (fun v wr => ∃ K : Nat, I ≤ K ∧ K ≤ s.size ∧ v = .int .i64 K ∧ Hid (∀ j, I ≤ j → j < K → s.data.toList[j]? = some s[I]) ∧ Below w1.heap.size w1 wr) (fun v _ => s.size - (intOf v).toNat)
      case atStart => exact ⟨I, by omega, by omega, rfl, Lib.hid (fun j h1 h2 => absurd h1 (by omega)), Below.refl _ _⟩
      case round =>
        obtain ⟨K, hn1, hn2, rfl, heq, hB2⟩ := hrel
        by_cases hlt2 : K < s.size
        · have hlt3 : (K : Int) < (s.size : Int) := by omega
          have hd1 : decide ((K : Int) < (s.size : Int)) = true := decide_eq_true hlt3
          have hd2 : decide (K < s.size) = true := decide_eq_true hlt2
          have hg := get_bytes s K hlt2
          by_cases hc : s[K] = s[I]
          · have hcu : ((s[K].toNat : Int) == (s[I].toNat : Int)) = true := by rw [hc]; exact beq_self_eq_true _
            have hcu2 : s[K].toNat = s[I].toNat := by rw [hc]
            have hmore := Lib.hid (show ∀ j, I ≤ j → j < K + 1 → s.data.toList[j]? = some s[I] from fun j h1 h2 => by
              by_cases h3 : j = K
              · subst h3; rw [hg, hc]
              · exact heq.out j h1 (by omega))
            clear hc hg
            go_wp2_with fail
            first | go_quiet (fail) | fail
            go_wp2_with fail
            go_roundw
            case rel => exact ⟨K + 1, by omega, by omega, by go_num, hmore, by first | exact below_drewN hB2 _ | exact hB2⟩
            case measure => simp [intOf]; omega
          · have hcu : ((s[K].toNat : Int) == (s[I].toNat : Int)) = false := by
              have : ¬ s[K].toNat = s[I].toNat := fun e => hc (UInt8.toNat_inj.1 e)
              exact beq_false_of_ne (by omega)
            have hcu2 : ¬ s[K].toNat = s[I].toNat := fun e => hc (UInt8.toNat_inj.1 e)
            have hne : s.data.toList[K]? ≠ some s[I] := by rw [hg]; intro e; exact hc (Option.some.inj e)
            have hIK : I < K := by
              by_cases h : I = K
              · subst h; exact absurd rfl hc
              · omega
            clear hc hg
            go_wp2_with fail
            first | go_quiet (fail) | fail
            have hnx := Lib.hid (hat.out.next hlt hIK (by omega) heq.out hne)
            have hwm := Lib.hid (wordR_max (k := K) hlt (by omega) (by omega))
            obtain ⟨n, hn⟩ : ∃ n : Nat, (K : Int) - (I : Int) = (n : Int) := ⟨K - I, by omega⟩
            obtain ⟨J, hJ⟩ : ∃ J, J = I + 1 := ⟨_, rfl⟩
            have hw : Hid (wordR s I K = s.extract I J ++ ⟨(Lib.itoa (n : Int)).toArray⟩) := Lib.hid (by unfold wordR; rw [← hJ, hn])
            have hJs : J ≤ s.size := by omega
            have hIJ : I ≤ J := by omega
            have hJc : (I : Int) + 1 = (J : Int) := by omega
            have hwr : IntKind.i64.wrap ((I : Int) + 1) = (J : Int) := by rw [hJc]; exact IntWalk.i64_in _ (by omega)
            have hwJ : IntKind.i64.wrap (J : Int) = (J : Int) := IntWalk.i64_in _ (by omega)
            have hwn : IntKind.i64.wrap (n : Int) = (n : Int) := IntWalk.i64_in _ (by omega)
            have hsE : (s.extract I J).size = 1 := by rw [ByteArray.size_extract]; omega
            have hmin : min J s.size = J := by omega
            have hJI : J - I = 1 := by omega
            clear hJ hne
            have hil := Lib.itoa_length_le (n : Int) (by omega) (by omega)
            have hl1 : ¬ 9223372036854775807 < 1 + (Lib.itoa (n : Int)).length := by omega
            go_wp2_with fail
            generalize hWq : World.drewN wr _ = wq at *
            have hBq : Hid (Below w1.heap.size w1 wq) := Lib.hid (by rw [← hWq]; exact below_drewN hB2 _)
            clear hWq
            have hpl := hat.out.len
            have hm1 := Lib.hid (show ps.length + 1 ≤ maxLen by unfold maxLen; omega)
            have hm2 : (ps.length + 1) * 16 ≤ 140737488355328 := by omega
            have hq0 := Lib.hid (fun (W : World) (hb : Below (wq.drewN 1).heap.size (wq.drewN 1) W) => bthen hB (bthen hBq.out (bthen (below_drewN (Below.refl wq.heap.size wq) 1) hb)))
            have hoA := Lib.hid (fun (W : World) (hb : Below (wq.drewN 1).heap.size (wq.drewN 1) W) => ((hown.out.kept hBq.out).kept (bthen (below_drewN (Below.refl wq.heap.size wq) 1) hb)).1)
            have hap := Lib.hid (fun (W w5 : World) (hb : Below (wq.drewN 1).heap.size (wq.drewN 1) W) (o : Obj) (hg : (W.alloc o).grownBy w5 (Value.slice a3 ps.length c3).ownBlock) => app_below (hq0.out W hb) (hq0.out W hb).size (hoA.out W hb) (Nat.le_refl _) hg)
            have hsz := Lib.hid (fun (W : World) (hb : Below (wq.drewN 1).heap.size (wq.drewN 1) W) (o : Obj) => (show w.heap.size ≤ (W.alloc o).heap.size by have := (hq0.out W hb).size; rw [World.size_alloc]; omega))
            have hdec := Lib.hid (fun (W : World) (hb : Below (wq.drewN 1).heap.size (wq.drewN 1) W) => impl_Decimal (n : Int) W (by omega) (by omega) (TabIs.kept ht (hq0.out W hb)))
            have hpos' := Lib.hid (show ∀ p ∈ ps ++ [wordR s I K], 0 < p.size from fun p hp => by rcases List.mem_append.1 hp with h | h; exact hpos.out p h; obtain rfl := List.mem_singleton.1 h; exact wordR_pos hlt)
            have hjm := Lib.hid (joinT_more ps (wordR s I K))
            first | go_region_held3 (fun W => Below w.heap.size w W) (first | exact hq0.out _ (Below.refl _ _) | (rename Below w.heap.size w _ => hH; first | assumption | exact hH.alloc hH.size _ | (refine bthen hH ?_; assumption))) (first | (go_at_call 31; (refine (hdec.out _ (Below.refl _ _)).mono ?_); rintro e wq0 ⟨rfl, hbq0⟩; have hH0 := hq0.out _ hbq0) | (refine step_row rfl _ _ 56 rfl w.heap.size 9 i0 (.string ⟨#[]⟩) 1 16 Tryd.underlying56 hi hz0 hz1 hz2 rfl (by decide) (.slice a3 ps.length c3) ps.length (ps.map Value.string) rfl ((hoA.out _ hbq0).alloc _) (some ⟨wq0.heap.size, 0, none⟩) 1 1 [.string (s.extract I J ++ ⟨(Lib.itoa (n : Int)).toArray⟩)] rfl rfl (row_block (heap_alloc_new _ _)) (one_one rfl) hm1.out hm2 (hsz.out _ hbq0 _) ?_; intro v5 w5 hown5 hg5; have hH5 := hap.out _ _ hbq0 _ hg5; obtain ⟨a5, c5, hv5, _, _⟩ := own_slice hown5; subst hv5; have ho5 := Lib.hid hown5; clear hown5 hg5)) | fail
            all_goals
              go_wp2_with fail
              go_roundw
              case rel => exact ⟨K, ps ++ [wordR s I K], a5, c5, hn2, by go_num, by rw [List.length_append]; rfl, hnx, hpos', by have := hjm.out; have := hwm.out; omega, Lib.hid (by rw [List.length_append, List.map_append, hw.out]; exact OV.of ho5.out), hH5⟩
              case measure => simp [intOf]; omega
        · have hd1 : decide ((K : Int) < (s.size : Int)) = false := decide_eq_false (by omega)
          have hd2 : decide (K < s.size) = false := decide_eq_false hlt2
          have hne : s.data.toList[K]? ≠ some s[I] := by rw [List.getElem?_eq_none (by rw [len_bytes]; omega)]; simp
          have hIK : I < K := by omega
          go_wp2_with fail
          first | go_quiet (fail) | fail
          have hnx := Lib.hid (hat.out.next hlt hIK (by omega) heq.out hne)
          have hwm := Lib.hid (wordR_max (k := K) hlt (by omega) (by omega))
          obtain ⟨n, hn⟩ : ∃ n : Nat, (K : Int) - (I : Int) = (n : Int) := ⟨K - I, by omega⟩
          obtain ⟨J, hJ⟩ : ∃ J, J = I + 1 := ⟨_, rfl⟩
          have hw : Hid (wordR s I K = s.extract I J ++ ⟨(Lib.itoa (n : Int)).toArray⟩) := Lib.hid (by unfold wordR; rw [← hJ, hn])
          have hJs : J ≤ s.size := by omega
          have hIJ : I ≤ J := by omega
          have hJc : (I : Int) + 1 = (J : Int) := by omega
          have hwr : IntKind.i64.wrap ((I : Int) + 1) = (J : Int) := by rw [hJc]; exact IntWalk.i64_in _ (by omega)
          have hwJ : IntKind.i64.wrap (J : Int) = (J : Int) := IntWalk.i64_in _ (by omega)
          have hwn : IntKind.i64.wrap (n : Int) = (n : Int) := IntWalk.i64_in _ (by omega)
          have hsE : (s.extract I J).size = 1 := by rw [ByteArray.size_extract]; omega
          have hmin : min J s.size = J := by omega
          have hJI : J - I = 1 := by omega
          clear hJ hne
          have hil := Lib.itoa_length_le (n : Int) (by omega) (by omega)
          have hl1 : ¬ 9223372036854775807 < 1 + (Lib.itoa (n : Int)).length := by omega
          go_wp2_with fail
          generalize hWq : World.drewN wr _ = wq at *
          have hBq : Hid (Below w1.heap.size w1 wq) := Lib.hid (by rw [← hWq]; exact below_drewN hB2 _)
          clear hWq
          have hpl := hat.out.len
          have hm1 := Lib.hid (show ps.length + 1 ≤ maxLen by unfold maxLen; omega)
          have hm2 : (ps.length + 1) * 16 ≤ 140737488355328 := by omega
          have hq0 := Lib.hid (fun (W : World) (hb : Below (wq.drewN 1).heap.size (wq.drewN 1) W) => bthen hB (bthen hBq.out (bthen (below_drewN (Below.refl wq.heap.size wq) 1) hb)))
          have hoA := Lib.hid (fun (W : World) (hb : Below (wq.drewN 1).heap.size (wq.drewN 1) W) => ((hown.out.kept hBq.out).kept (bthen (below_drewN (Below.refl wq.heap.size wq) 1) hb)).1)
          have hap := Lib.hid (fun (W w5 : World) (hb : Below (wq.drewN 1).heap.size (wq.drewN 1) W) (o : Obj) (hg : (W.alloc o).grownBy w5 (Value.slice a3 ps.length c3).ownBlock) => app_below (hq0.out W hb) (hq0.out W hb).size (hoA.out W hb) (Nat.le_refl _) hg)
          have hsz := Lib.hid (fun (W : World) (hb : Below (wq.drewN 1).heap.size (wq.drewN 1) W) (o : Obj) => (show w.heap.size ≤ (W.alloc o).heap.size by have := (hq0.out W hb).size; rw [World.size_alloc]; omega))
          have hdec := Lib.hid (fun (W : World) (hb : Below (wq.drewN 1).heap.size (wq.drewN 1) W) => impl_Decimal (n : Int) W (by omega) (by omega) (TabIs.kept ht (hq0.out W hb)))
          have hpos' := Lib.hid (show ∀ p ∈ ps ++ [wordR s I K], 0 < p.size from fun p hp => by rcases List.mem_append.1 hp with h | h; exact hpos.out p h; obtain rfl := List.mem_singleton.1 h; exact wordR_pos hlt)
          have hjm := Lib.hid (joinT_more ps (wordR s I K))
          first | go_region_held3 (fun W => Below w.heap.size w W) (first | exact hq0.out _ (Below.refl _ _) | (rename Below w.heap.size w _ => hH; first | assumption | exact hH.alloc hH.size _ | (refine bthen hH ?_; assumption))) (first | (go_at_call 31; (refine (hdec.out _ (Below.refl _ _)).mono ?_); rintro e wq0 ⟨rfl, hbq0⟩; have hH0 := hq0.out _ hbq0) | (refine step_row rfl _ _ 56 rfl w.heap.size 9 i0 (.string ⟨#[]⟩) 1 16 Tryd.underlying56 hi hz0 hz1 hz2 rfl (by decide) (.slice a3 ps.length c3) ps.length (ps.map Value.string) rfl ((hoA.out _ hbq0).alloc _) (some ⟨wq0.heap.size, 0, none⟩) 1 1 [.string (s.extract I J ++ ⟨(Lib.itoa (n : Int)).toArray⟩)] rfl rfl (row_block (heap_alloc_new _ _)) (one_one rfl) hm1.out hm2 (hsz.out _ hbq0 _) ?_; intro v5 w5 hown5 hg5; have hH5 := hap.out _ _ hbq0 _ hg5; obtain ⟨a5, c5, hv5, _, _⟩ := own_slice hown5; subst hv5; have ho5 := Lib.hid hown5; clear hown5 hg5)) | fail
          all_goals
            go_wp2_with fail
            go_roundw
            case rel => exact ⟨K, ps ++ [wordR s I K], a5, c5, hn2, by go_num, by rw [List.length_append]; rfl, hnx, hpos', by have := hjm.out; have := hwm.out; omega, Lib.hid (by rw [List.length_append, List.map_append, hw.out]; exact OV.of ho5.out), hH5⟩
            case measure => simp [intOf]; omega
    · obtain rfl : I = s.size := by omega
      have hdn := Lib.hid hat.out.done
      have hps : ps ≠ [] := fun e => by subst e; have := hat.out.none; omega
      have hrow := hown.out.row
      have hcp := hown.out.cap
      have hpl := hat.out.len
      obtain ⟨b, o, rfl, hj⟩ : ∃ b o, a3 = some ⟨b, o, none⟩ ∧ ∀ (j : Nat) x, ps[j]? = some x → w1.cell? ⟨b, o + j, none⟩ = some (.string x) := by
        cases ps with
        | nil => exact absurd rfl hps
        | cons p r =>
          obtain ⟨b, o, rfl, hc⟩ := hrow.at (j := 0) (v := .string p) rfl
          exact ⟨b, o, rfl, fun j x hx => Row.off hrow (by rw [List.getElem?_map, hx]; rfl)⟩
      have hbk : b < w1.heap.size := hown.out.2 _ rfl
      have hlen : (Lib.join (ps.map (·.data.toList)) (⟨#[32]⟩ : ByteArray).data.toList).length ≤ 140737488355328 := by
        have e : (joinT ps).data.toList.length = (joinT ps).size := len_bytes _
        have e2 : (joinT ps).data.toList = Lib.join (ps.map (·.data.toList)) [32] := rfl
        rw [e2] at e
        show (Lib.join (ps.map (·.data.toList)) [32]).length ≤ _
        omega
      have hjn := Lib.hid (Tryd.strings_Join b o c3 ps ⟨#[32]⟩ w1 hj hbk (by omega) hcp hlen)
      clear hj hlen hrow hps
      go_wp2_with fail
      refine hjn.out.mono ?_
      rintro e w5 ⟨rfl, hb5⟩
      go_wp2_with fail
      go_ret
      exact ⟨ret_str (by rw [hf.out, hdn.out]), bthen hB hb5⟩
end Go.Proofs.YtcbjfgjlhjjpiaaDoor
