/- The walks of the functions that draw decks, and spoil them: what is drawn lies in rows of the call's own; nothing but the source is written. -/
import Derived.Test.YtcbjfgjlhjjpiaaGreatDoorDrA
namespace Go.Proofs.YtcbjfgjlhjjpiaaGreatDoor
open Go.RowKit
set_option maxRecDepth 100000
set_option linter.unusedVariables false
set_option linter.unusedSimpArgs false
set_option linter.unnecessarySimpa false

/-- a deck of the call's own, with cards of n columns, has been drawn -/
def DrawnD (w : World) (B : Nat) (a : Option Addr) (c : Nat) (l : List UInt8) (k n m : Nat) (e : Ending) (w' : World) : Prop :=
  ∃ (a' : Option Addr) (c' : Nat) (xss : List (List Int)), e = .returned (.slice a' xss.length c') ∧ xss.length ≤ m ∧ (∀ x ∈ xss, x.length ≤ n) ∧ OD w.heap.size w'.heap.size w' 30 2 a' c' xss ∧ SrcIs w' B a c l k ∧ Within B (B + 1) w w'
set_option maxHeartbeats 2000000 in
theorem spec_l02DrawDeck (B : Nat) (a : Option Addr) (c : Nat) (l : List UInt8) (k0 : Nat) (n m : Nat) (w : World) (h : SrcIs w B a c l k0) (hk0 : k0 ≤ 134217728) (hl : l.length ≤ 1073741824) (hn : n ≤ 8) (hm : m ≤ 50) :
    Calls Tryz.prog 182 #[.pointer (some ⟨B, 0, none⟩), .int .i64 n, .int .i64 m] w (DrawnD w B a c l (k0 + 2 + m * 64) n m) := by
  have hT := Lib.hid (St.start h)
  have hz := hT.out.size
  clear h
  obtain ⟨i0, hi, hz0, hz1, hz2⟩ := info_parts Tryz.info_card0
  have hba := Lib.hid (below_alloc (w := w) (.cells #[] 30))
  have hown0 := Lib.hid (World.ownsRow_lit (base := w.heap.size) (e := 30) (size := 1) w #[] 0 (Nat.le_refl _) (by simp [maxLen]) rfl)
  replace hT := Lib.hid (hT.out.kept hba.out)
  have hod := Lib.hid (OD.nil w.heap.size (w.alloc (.cells #[] 30)) 30 2 (by simpa using hown0.out))
  clear hba hown0
  go_enter Tryz.func182, Tryz.ntmps182
  go_wp2_with fail
  refine (spec_pick B a c l _ (m + 1) _ hT.out.src (by omega) hl (by omega) (by omega)).mono ?_
  rintro e w1 ⟨r, rfl, ⟨r0, r1, _⟩, hs, hw⟩
  replace r1 := r1 (by omega)
  obtain ⟨q, rfl⟩ := Int.eq_ofNat_of_zero_le r0
  replace hT := Lib.hid (hT.out.step hs hw)
  replace hod := Lib.hid ((hod.out.within hw (Or.inr (by omega))).wider (Nat.le_refl _) hw.size)
  have hsz1 := hw.size
  simp only [World.size_alloc] at hsz1
  have hqm : q ≤ m := by omega
  clear hs hw r0 r1
  go_wp2_with fail
  go_loopw [7, 8] (fun v i wr => ∃ (r : Nat) (a' : Option Addr) (c' : Nat) (xss : List (List Int)), xss.length + r ≤ m ∧ i = .int .i64 r ∧ v = .slice a' xss.length c' ∧ (∀ x ∈ xss, x.length ≤ n) ∧ OD w.heap.size wr.heap.size wr 30 2 a' c' xss ∧ St w B a c l (k0 + 2 + xss.length * 64) wr ∧ w.heap.size < wr.heap.size) (fun _ i _ => (intOf i).toNat)
  case atStart => exact ⟨q, _, _, [], by simpa using hqm, rfl, rfl, by simp, hod.out, hT.out.more (by omega), by omega⟩
  case round =>
    clear hT hod
    obtain ⟨r, a3, c3, xss, hrm, rfl, rfl, hP0, hod, hT, hsz⟩ := hrel
    have hP := Lib.hid hP0
    replace hT := Lib.hid hT
    replace hod := Lib.hid hod
    have hxm : xss.length ≤ 50 := by omega
    have hm63 := Lib.hid (show xss.length + 1 ≤ maxLen by unfold maxLen; omega)
    clear hP0
    by_cases hlt : 0 < r
    · obtain ⟨r, rfl⟩ : ∃ q, r = q + 1 := ⟨r - 1, by omega⟩
      generalize hN : xss.length = N at *
      have hN' := Lib.hid hN
      clear hN
      go_wp2_with fail
      refine (spec_l02Draw B a c l _ n _ hT.out.src (by omega) hl (by omega)).mono ?_
      rintro e w4 ⟨a5, c5, x, rfl, hxl, _, hox, hs, hw⟩
      rw [hxl] at hox ⊢
      replace hT := Lib.hid (hT.out.step hs hw)
      replace hod := Lib.hid (hod.out.within hw (Or.inr (by omega)))
      have hsz4 := hw.size
      clear hs hw
      obtain ⟨hs0_, hd⟩ := hod.out.parts
      have hov := Lib.hid (hd.row hN'.out)
      have hox' := Lib.hid ((OV.of hox).kept (below_alloc (.cells #[.slice a5 n c5] 30)))
      have hszv : w.heap.size ≤ w4.heap.size := by omega
      have hps := Lib.hid (fun (v6 : Option Addr) (c6 : Nat) (w6 : World) (hg : (w4.alloc (.cells #[.slice a5 n c5] 30)).grownBy w6 (Value.slice a3 N c3).ownBlock) (h5 : w6.ownsRow (w.heap.size) 30 1 (.slice v6 (N + 1) c6) (N + 1) (headsV hs0_ xss ++ [.slice a5 n c5])) => (hd.kept (below_alloc (.cells #[.slice a5 n c5] 30))).pushN (by decide) (by omega) (by simp only [World.size_alloc]; omega) hxl hN'.out hox'.out.1 hg h5)
      clear hd hox hod
      go_wp2_with (at_builtin; refine wpList_append_own _ rfl _ _ 60 rfl (w.heap.size) 30 i0 (.agg #[.slice none 0 0]) 1 24 Tryz.underlying60 hi hz0 hz1 hz2 rfl (by decide) _ N (headsV hs0_ xss) rfl (hov.out.alloc _) ⟨_, 0, none⟩ 1 1 [.slice a5 n c5] rfl rfl (news_one _ _ _) (one_one rfl) hm63.out (by omega) (by simp only [World.size_alloc]; omega) ?_; intro v6 w6 hown6 hg6 _; have hb6 := (((Below.refl (w.heap.size) _).alloc hszv _).grown hg6 (by simp only [World.size_alloc]; omega) (fun k hk => (hov.out.lt k hk).1)); replace hT := Lib.hid (hT.out.below (hb6.mono (by omega))); have hsz6 := hb6.size; obtain ⟨a6, c6, hv6, _, _⟩ := own_slice hown6; subst hv6; have hod6 := Lib.hid (hps.out _ _ _ hg6 hown6); clear hown6 hg6 hb6 hov hps hox')
      go_roundw
      case rel => exact ⟨r, a6, c6, xss ++ [x], by rw [List.length_append, List.length_singleton, hN'.out]; omega, by first | go_num | (congr 1; omega), by rw [List.length_append, hN'.out]; rfl, deck_snoc hP.out (by omega), hod6.out, hT.out.more (by rw [List.length_append, List.length_singleton, hN'.out]; omega), by omega⟩
      case measure => first | (simp [intOf]; done) | (simp [intOf]; omega)
    · obtain rfl : r = 0 := by omega
      go_wp2_with fail
      go_ret
      exact ⟨a3, c3, xss, rfl, by omega, hP.out, hod.out, (hT.out.src).more (by omega), hT.out.win⟩
/-- a list of cards of the call's own, seldom no deck, has been drawn -/
def DrawnW (w : World) (B : Nat) (a : Option Addr) (c : Nat) (l : List UInt8) (k : Nat) (e : Ending) (w' : World) : Prop :=
  ∃ (a' : Option Addr) (c' : Nat) (xss : List (List Int)), e = .returned (.slice a' xss.length c') ∧ DeckP xss ∧ OW w.heap.size w'.heap.size w' 30 2 a' c' xss ∧ SrcIs w' B a c l k ∧ Within B (B + 1) w w'
set_option maxHeartbeats 4000000 in
theorem spec_l02BentDeck (B : Nat) (a : Option Addr) (c : Nat) (l : List UInt8) (k0 : Nat) (w : World) (h : SrcIs w B a c l k0) (hk0 : k0 ≤ 67108864) (hl : l.length ≤ 1073741824) :
    Calls Tryz.prog 149 #[.pointer (some ⟨B, 0, none⟩)] w (DrawnW w B a c l (k0 + 4000)) := by
  have hT := Lib.hid (St.start h)
  have hz := hT.out.size
  clear h
  obtain ⟨i0, hi, hz0, hz1, hz2⟩ := info_parts Tryz.info_card0
  go_enter Tryz.func149, Tryz.ntmps149
  go_wp2_with fail
  refine (spec_pick B a c l _ (4) w hT.out.src (by omega) hl (by omega) (by omega)).mono ?_
  rintro e v1 ⟨r, rfl, ⟨r0, r1, r2⟩, hs, hw⟩
  have hmv1 := hw.size
  replace hT := Lib.hid (hT.out.step hs hw)
  have hzv1 := hT.out.size
  clear hs hw
  replace r1 := r1 (by omega)
  clear r2
  obtain ⟨q, rfl⟩ := Int.eq_ofNat_of_zero_le r0
  have hcast := Lib.hid (show (1 : Int) + (q : Int) = ((q + 1 : Nat) : Int) by omega)
  go_wp2_with fail
  rw [hcast.out]
  refine (spec_l02DrawDeck B a c l _ (q + 1) 7 v1 hT.out.src (by omega) hl (by omega) (by omega)).mono ?_
  rintro e v2 ⟨a3, c3, xss, rfl, hl7, hP0, hod, hs, hw⟩
  have hP := Lib.hid hP0
  replace hod := Lib.hid (hod.wider (show w.heap.size ≤ v1.heap.size by omega) (Nat.le_refl _))
  clear hP0
  have hmv2 := hw.size
  replace hT := Lib.hid (hT.out.step hs hw)
  have hzv2 := hT.out.size
  clear hs hw
  generalize hN : xss.length = N at *
  have hN' := Lib.hid hN
  have hm63 := Lib.hid (show N + 1 ≤ maxLen by unfold maxLen; omega)
  clear hN
  have hodk := hod
  go_wp2_with fail
  refine (spec_pick B a c l _ 16 v2 hT.out.src (by omega) hl (by omega) (by omega)).mono ?_
  rintro e v3 ⟨t, rfl, ⟨t0, t1, _⟩, hs, hw⟩
  replace hod := Lib.hid ((hod.out.within hw (Or.inr (by omega))).wider (Nat.le_refl _) hw.size)
  have hmv3 := hw.size
  replace hT := Lib.hid (hT.out.step hs hw)
  have hzv3 := hT.out.size
  clear hs hw
  clear hodk
  by_cases e0 : t = 0
  · subst e0
    clear t0 t1
    have hcast2 := Lib.hid (show (q : Int) + 1 + 1 = ((q + 1 + 1 : Nat) : Int) by omega)
    have hcast3 := Lib.hid (show (1 : Int) + (q : Int) + 1 = ((q + 1 + 1 : Nat) : Int) by omega)
    go_wp2_with fail
    first | rw [hcast2.out] | rw [hcast3.out]
    refine (spec_l02Draw B a c l _ (q + 1 + 1) v3 hT.out.src (by omega) hl (by omega)).mono ?_
    rintro e v4 ⟨a5, c5, x, rfl, hxl, _, hox, hs, hw⟩
    rw [hxl] at hox ⊢
    replace hod := Lib.hid (hod.out.within hw (Or.inr (by omega)))
    have hszw := hw.size
    have hmv4 := hw.size
    replace hT := Lib.hid (hT.out.step hs hw)
    have hzv4 := hT.out.size
    clear hs hw
    obtain ⟨hs0_, hd⟩ := hod.out.parts
    have hov := Lib.hid (hd.row hN'.out)
    have hox' := Lib.hid ((OV.of hox).kept (below_alloc (.cells #[.slice a5 (q + 1 + 1) c5] 30)))
    have hszv : w.heap.size ≤ v4.heap.size := by omega
    have hps := Lib.hid (fun (v6 : Option Addr) (c6 : Nat) (w6 : World) (hg : (v4.alloc (.cells #[.slice a5 (q + 1 + 1) c5] 30)).grownBy w6 (Value.slice a3 N c3).ownBlock) (h5 : w6.ownsRow (w.heap.size) 30 1 (.slice v6 (N + 1) c6) (N + 1) (headsV hs0_ xss ++ [.slice a5 (q + 1 + 1) c5])) => (hd.kept (below_alloc (.cells #[.slice a5 (q + 1 + 1) c5] 30))).pushN (by decide) (by omega) (by simp only [World.size_alloc]; omega) hxl hN'.out hox'.out.1 hg h5)
    clear hd hox hod
    go_wp2_with (at_builtin; refine wpList_append_own _ rfl _ _ 60 rfl (w.heap.size) 30 i0 (.agg #[.slice none 0 0]) 1 24 Tryz.underlying60 hi hz0 hz1 hz2 rfl (by decide) _ N (headsV hs0_ xss) rfl (hov.out.alloc _) ⟨_, 0, none⟩ 1 1 [.slice a5 (q + 1 + 1) c5] rfl rfl (news_one _ _ _) (one_one rfl) hm63.out (by omega) (by simp only [World.size_alloc]; omega) ?_; intro v6 w6 hown6 hg6 _; have hb6 := (((Below.refl (w.heap.size) _).alloc hszv _).grown hg6 (by simp only [World.size_alloc]; omega) (fun k hk => (hov.out.lt k hk).1)); replace hT := Lib.hid (hT.out.below (hb6.mono (by omega))); have hsz6 := hb6.size; obtain ⟨a6, c6, hv6, _, _⟩ := own_slice hown6; subst hv6; have hod6 := Lib.hid (hps.out _ _ _ hg6 hown6); clear hown6 hg6 hb6 hov hps hox')
    go_wp2_with fail
    go_ret
    exact ⟨a6, c6, xss ++ [x], by rw [List.length_append, hN'.out]; rfl, ⟨by rw [List.length_append, hN'.out]; simp; omega, deck_snoc (fun y hy => Nat.le_trans (hP.out y hy) (by omega)) (by omega)⟩, hod6.out.toOW, (hT.out.src).more (by omega), hT.out.win⟩
  · have e0b : (t == 0) = false := by simp [e0]
    by_cases e1 : t = 1
    · subst e1
      clear t0 t1 e0
      by_cases hn0 : N = 0
      · have hd : decide ((0 : Int) < (N : Int)) = false := decide_eq_false (by omega)
        have hd2 : decide (0 < N) = false := decide_eq_false (by omega)
        go_wp2_with fail
        go_ret
        exact ⟨a3, c3, xss, by rw [hN'.out]; first | rfl | (rw [hn0]; rfl), ⟨by rw [hN'.out]; omega, fun y hy => Nat.le_trans (hP.out y hy) (by omega)⟩, hod.out.toOW, (hT.out.src).more (by omega), hT.out.win⟩
      · have hd : decide ((0 : Int) < (N : Int)) = true := decide_eq_true (by omega)
        have hd2 : decide (0 < N) = true := decide_eq_true (by omega)
        go_wp2_with fail
        refine (spec_pick B a c l _ N v3 hT.out.src (by omega) hl (by omega) (by omega)).mono ?_
        rintro e v4 ⟨u, rfl, ⟨u0, u1, _⟩, hs, hw⟩
        replace hod := Lib.hid ((hod.out.within hw (Or.inr (by omega))).wider (Nat.le_refl _) hw.size)
        have hmv4 := hw.size
        replace hT := Lib.hid (hT.out.step hs hw)
        have hzv4 := hT.out.size
        clear hs hw
        replace u1 := u1 (by omega)
        obtain ⟨i, rfl⟩ := Int.eq_ofNat_of_zero_le u0
        have hiN : i < N := by omega
        have hiN2 : (i : Int) < (N : Int) := by omega
        obtain ⟨x, hxi⟩ := get_some (l := xss) (k := i) (by rw [hN'.out]; exact hiN)
        have hxn := hP.out x (List.mem_of_getElem? hxi)
        obtain ⟨hs0_, hd0⟩ := hod.out.parts
        have hrow0 := Lib.hid (hd0.2.1)
        obtain ⟨g0, rfl, hg01, hg02⟩ := OV.addr hd0.2.1 (by rw [hN'.out]; omega)
        obtain ⟨p5, hp5⟩ := get_some (l := hs0_) (k := i) (by rw [hd0.1, hN'.out]; exact hiN)
        obtain ⟨a5, c5⟩ := p5
        have hox := Lib.hid (hd0.2.2.1 i _ x hp5 hxi)
        have hc5 := Lib.hid ((hd0.2.1.1.cellAt i (by rw [hN'.out]; omega)).trans (headsV_at hp5 hxi))
        have hf5 := Lib.hid (hd0.2.1.1.frozenAt i)
        have hap : ∀ p, a5 = some p → ¬ g0 = p.block := fun p hp e => hd0.2.1.apart hox.out (by decide) rfl hp e.symm
        have hsp := Lib.hid (spec_l02Spoil B a c l _ g0 i a5 c5 x _ _ v4 hT.out.src (by omega) hl hc5.out hf5.out (by omega) hox.out (by omega) (by omega) hap)
        clear hrow0 hd0 hf5 u0 u1 hs0_ hp5
        go_wp2_with fail
        refine hsp.out.mono ?_
        rintro e w7 ⟨rfl, v9, hs, hw, hcase⟩
        replace hT := Lib.hid (hT.out.step hs hw)
        replace hod := Lib.hid (hod.out.within hw (Or.inr (by omega)))
        have hc9 := Lib.hid (hw.cell hc5.out (by dsimp only; omega))
        have hz9 := hT.out.size
        have hsz9 := hw.size
        clear hs hw hsp hc5
        go_wp2_with fail
        rcases hcase with ⟨a6, c6, ys, hy, hoy, rfl⟩ | ⟨g, j, z, rfl, hj, rfl⟩ | rfl
        · go_ret
          have hW := OW.spoilA (k := i) (by decide) hod.out.toOW hsz9 (by omega) hxi hoy
          refine ⟨_, c3, xss.set i ys, by rw [List.length_set, hN'.out]; rfl, ⟨by rw [List.length_set, hN'.out]; omega, deck_set (fun y hy => Nat.le_trans (hP.out y hy) (by omega)) (by omega)⟩, ?_, ((hT.out.set (p := ⟨g0, i, none⟩) (by dsimp only; omega) _).src).more (by omega), (hT.out.set (p := ⟨g0, i, none⟩) (by dsimp only; omega) _).win⟩
          simpa [World.setCell] using hW
        · go_ret
          have hgb := OV.addr hox.out (by omega)
          obtain ⟨g_, hg_, hg1, hg2⟩ := hgb
          obtain rfl : g = g_ := by simpa using hg_
          have hW := OD.spoilB (j := j) (by decide) hod.out hxi (b := g0) (off := 0) rfl (by rw [Nat.zero_add]; exact hc9.out) z
          refine ⟨_, c3, xss.set i (x.set j z), by rw [List.length_set, hN'.out]; rfl, ⟨by rw [List.length_set, hN'.out]; omega, deck_set (fun y hy => Nat.le_trans (hP.out y hy) (by omega)) (by rw [List.length_set]; omega)⟩, ?_, ((hT.out.set (p := ⟨g, j, none⟩) (by dsimp only; omega) _).src).more (by omega), (hT.out.set (p := ⟨g, j, none⟩) (by dsimp only; omega) _).win⟩
          exact hW.wider (Nat.le_refl _) (by simp only [World.size_setCell]; exact hsz9)
        · go_ret
          exact ⟨_, c3, xss, by rw [hN'.out]; rfl, ⟨by rw [hN'.out]; omega, fun y hy => Nat.le_trans (hP.out y hy) (by omega)⟩, (hod.out.toOW).wider (Nat.le_refl _) hsz9, (hT.out.src).more (by omega), hT.out.win⟩
    · have e1b : (t == 1) = false := by simp [e1]
      by_cases e2 : t = 2
      · subst e2
        clear t0 t1 e0 e1 hod hP hN' hm63 hl7
        have hba := Lib.hid (below_alloc (w := v3) (.cells #[] 30))
        have hown0 := Lib.hid (World.ownsRow_lit (base := v3.heap.size) (e := 30) (size := 1) v3 #[] 0 (Nat.le_refl _) (by simp [maxLen]) rfl)
        replace hT := Lib.hid (hT.out.kept hba.out)
        have hod := Lib.hid (OD.nil v3.heap.size (v3.alloc (.cells #[] 30)) 30 2 (by simpa using hown0.out))
        clear hba hown0
        go_wp2_with fail
        refine (spec_pick B a c l _ 2 _ hT.out.src (by omega) hl (by omega) (by omega)).mono ?_
        rintro e v9 ⟨r2, rfl, ⟨r20, r21, _⟩, hs, hw⟩
        replace r21 := r21 (by omega)
        obtain ⟨q2, rfl⟩ := Int.eq_ofNat_of_zero_le r20
        replace hT := Lib.hid (hT.out.step hs hw)
        replace hod := Lib.hid ((hod.out.within hw (Or.inr (by omega))).wider (Nat.le_refl _) hw.size)
        have hsz1 := hw.size
        simp only [World.size_alloc] at hsz1
        have hz9 := hT.out.size
        have hcast4 := Lib.hid (show (40 : Int) + (q2 : Int) = ((40 + q2 : Nat) : Int) by omega)
        have hqm : 40 + q2 ≤ 41 := by omega
        generalize 40 + q2 = q4 at *
        clear hs hw r20 r21
        go_wp2_with fail
        rw [hcast4.out]
        go_loopw [4, 5] (fun v i wr => ∃ (r : Nat) (a' : Option Addr) (c' : Nat) (xss : List (List Int)), xss.length + r ≤ 41 ∧ i = .int .i64 r ∧ v = .slice a' xss.length c' ∧ (∀ x ∈ xss, x.length ≤ 1) ∧ OD v3.heap.size wr.heap.size wr 30 2 a' c' xss ∧ St w B a c l (k0 + 600 + xss.length * 64) wr ∧ v3.heap.size < wr.heap.size) (fun _ i _ => (intOf i).toNat)
        case atStart => exact ⟨q4, _, _, [], by simpa using hqm, by first | rfl | (rw [show wrap64 (q4 : Int) = (q4 : Int) by unfold wrap64; omega]), rfl, by simp, hod.out, hT.out.more (by omega), by omega⟩
        case round =>
          clear hT hod
          obtain ⟨r, a3, c3, xss, hrm, rfl, rfl, hP0, hod, hT, hsz⟩ := hrel
          have hP := Lib.hid hP0
          replace hT := Lib.hid hT
          replace hod := Lib.hid hod
          have hxm : xss.length ≤ 50 := by omega
          have hm63 := Lib.hid (show xss.length + 1 ≤ maxLen by unfold maxLen; omega)
          clear hP0
          by_cases hlt : 0 < r
          · obtain ⟨r, rfl⟩ : ∃ q, r = q + 1 := ⟨r - 1, by omega⟩
            generalize hN : xss.length = N at *
            have hN' := Lib.hid hN
            clear hN
            go_wp2_with fail
            refine (spec_l02Draw B a c l _ 1 _ hT.out.src (by omega) hl (by omega)).mono ?_
            rintro e w4 ⟨a5, c5, x, rfl, hxl, _, hox, hs, hw⟩
            rw [hxl] at hox ⊢
            replace hT := Lib.hid (hT.out.step hs hw)
            replace hod := Lib.hid (hod.out.within hw (Or.inr (by omega)))
            have hsz4 := hw.size
            clear hs hw
            obtain ⟨hs0_, hd⟩ := hod.out.parts
            have hov := Lib.hid (hd.row hN'.out)
            have hox' := Lib.hid ((OV.of hox).kept (below_alloc (.cells #[.slice a5 1 c5] 30)))
            have hszv : v3.heap.size ≤ w4.heap.size := by omega
            have hps := Lib.hid (fun (v6 : Option Addr) (c6 : Nat) (w6 : World) (hg : (w4.alloc (.cells #[.slice a5 1 c5] 30)).grownBy w6 (Value.slice a3 N c3).ownBlock) (h5 : w6.ownsRow (v3.heap.size) 30 1 (.slice v6 (N + 1) c6) (N + 1) (headsV hs0_ xss ++ [.slice a5 1 c5])) => (hd.kept (below_alloc (.cells #[.slice a5 1 c5] 30))).pushN (by decide) (by omega) (by simp only [World.size_alloc]; omega) hxl hN'.out hox'.out.1 hg h5)
            clear hd hox hod
            go_wp2_with (at_builtin; refine wpList_append_own _ rfl _ _ 60 rfl (v3.heap.size) 30 i0 (.agg #[.slice none 0 0]) 1 24 Tryz.underlying60 hi hz0 hz1 hz2 rfl (by decide) _ N (headsV hs0_ xss) rfl (hov.out.alloc _) ⟨_, 0, none⟩ 1 1 [.slice a5 1 c5] rfl rfl (news_one _ _ _) (one_one rfl) hm63.out (by omega) (by simp only [World.size_alloc]; omega) ?_; intro v6 w6 hown6 hg6 _; have hb6 := (((Below.refl (v3.heap.size) _).alloc hszv _).grown hg6 (by simp only [World.size_alloc]; omega) (fun k hk => (hov.out.lt k hk).1)); replace hT := Lib.hid (hT.out.below (hb6.mono (by omega))); have hsz6 := hb6.size; obtain ⟨a6, c6, hv6, _, _⟩ := own_slice hown6; subst hv6; have hod6 := Lib.hid (hps.out _ _ _ hg6 hown6); clear hown6 hg6 hb6 hov hps hox')
            go_roundw
            case rel => exact ⟨r, a6, c6, xss ++ [x], by rw [List.length_append, List.length_singleton, hN'.out]; omega, by first | go_num | (congr 1; omega), by rw [List.length_append, hN'.out]; rfl, deck_snoc hP.out (by omega), hod6.out, hT.out.more (by rw [List.length_append, List.length_singleton, hN'.out]; omega), by omega⟩
            case measure => first | (simp [intOf]; done) | (simp [intOf]; omega)
          · obtain rfl : r = 0 := by omega
            go_wp2_with fail
            go_ret
            exact ⟨a3, c3, xss, rfl, ⟨by omega, fun y hy => Nat.le_trans (hP.out y hy) (by omega)⟩, (hod.out.toOW).wider (by omega) (Nat.le_refl _), (hT.out.src).more (by omega), hT.out.win⟩
      · have e2b : (t == 2) = false := by simp [e2]
        clear t0 t1
        go_wp2_with fail
        go_ret
        exact ⟨a3, c3, xss, by rw [hN'.out]; first | rfl | (rw [hn0]; rfl), ⟨by rw [hN'.out]; omega, fun y hy => Nat.le_trans (hP.out y hy) (by omega)⟩, hod.out.toOW, (hT.out.src).more (by omega), hT.out.win⟩
end Go.Proofs.YtcbjfgjlhjjpiaaGreatDoor
