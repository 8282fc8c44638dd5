/- The walks of the laws' own functions on decks and of the functions that ask of decks: what each returns, and that memory has at most new blocks. -/
import Derived.Test.YtcbjfgjlhjjpiaaGreatDoorCrd
import Derived.Test.YtcbjfgjlhjjpiaaGreatDoorData
import Derived.Deep.RegionHeld3
namespace Go.Proofs.YtcbjfgjlhjjpiaaGreatDoor
open Go.RowKit
set_option maxRecDepth 100000
set_option linter.unusedVariables false
set_option linter.unusedSimpArgs false
set_option linter.unnecessarySimpa false

/-! ### decks that are valid, decks that are the same -/
def deckCardB (xss : List (List Int)) (xs : List Int) : Bool := validCardL xs && decide (xs.length = (xss.headD []).length)
def validDeckL (xss : List (List Int)) : Bool := xss.all (deckCardB xss) && decide (xss.length ≤ 40)
theorem deckCard_bad {xss : List (List Int)} {xs : List Int} (h : validCardL xs = false) : deckCardB xss xs = false := by unfold deckCardB; rw [h]; rfl
theorem deckCard_is {xss : List (List Int)} {xs y : List Int} (h : validCardL xs = true) (h0 : xss[0]? = some y) : deckCardB xss xs = decide (xs.length = y.length) := by
  unfold deckCardB; rw [h, List.headD_eq_head?_getD, List.head?_eq_getElem?, h0]; simp
theorem validDeck_not {xss : List (List Int)} {k : Nat} {x : List Int} (h : xss[k]? = some x) (hx : deckCardB xss x = false) : validDeckL xss = false := by
  unfold validDeckL; rw [all_not h hx]; rfl
theorem validDeck_end {xss : List (List Int)} {k : Nat} (h : xss.length ≤ k) (hk : (xss.take k).all (deckCardB xss) = true) : validDeckL xss = decide (xss.length ≤ 40) := by
  unfold validDeckL; rw [all_take h hk]; rfl
set_option maxHeartbeats 1000000 in
theorem impl_ValidDeck (a : Option Addr) (c : Nat) (xss : List (List Int)) (w : World) (hx : RD w a xss) (hn : deckSz xss ≤ 1048576) :
    Calls Tryz.prog 95 #[.slice a xss.length c] w fun e w' => e = .returned (.bool (validDeckL xss)) ∧ Below w.heap.size w w' := by
  have hdl := deckSz_len xss
  have hn' := Lib.hid hn
  generalize hN : xss.length = n at *
  have hN' := Lib.hid hN
  clear hN
  go_enter Tryz.func95, Tryz.ntmps95
  go_wp2_with fail
  go_loopw [7] (fun i wr => ∃ k : Nat, k ≤ n ∧ i = .int .i64 k ∧ Hid ((xss.take k).all (deckCardB xss) = true) ∧ Below w.heap.size w wr) (fun i _ => n - (intOf i).toNat)
  case atStart => exact ⟨0, by omega, rfl, Lib.hid rfl, Below.refl _ _⟩
  case round =>
    obtain ⟨k, hk, rfl, hall, hb⟩ := hrel
    by_cases hlt : k < n
    · obtain ⟨x, hxk⟩ := get_some (l := xss) (k := k) (by rw [hN'.out]; exact hlt)
      obtain ⟨y, hy0⟩ := get_some (l := xss) (k := 0) (by rw [hN'.out]; omega)
      obtain ⟨b1, o1, a1, c1, rfl, hc1, hr1, hca, hcm⟩ := (hx.kept hb).at hxk
      obtain ⟨a2, c2, hc2, hr2, hca2, hcm2⟩ := (hx.kept hb).off hy0
      rw [Nat.add_zero] at hc2
      have hs1 := deckSz_at hxk
      have hsm : x.length ≤ maxLen := by unfold maxLen; omega
      have hpos : 0 < n := by omega
      have hpos' : (0 : Int) < n := by omega
      have hba := below_alloc (w := wr) (.cells #[.slice a1 x.length c1] 30)
      have hbx : (wr.alloc (.cells #[.slice a1 x.length c1] 30)).cell? ⟨wr.heap.size, 0, none⟩ = some (.slice a1 x.length c1) := by simp [go_sem]
      have hby := keep hba hc2
      have hrx := hr1.kept hba
      have hxk' := Lib.hid hxk
      have hy0' := Lib.hid hy0
      have hB := Lib.hid (bthen hb hba)
      clear hxk hy0 hs1 hba
      cases hv : validCardL x
      · have hf := Lib.hid (validDeck_not hxk'.out (deckCard_bad hv))
        go_wp2_with fail
        generalize hW : (wr.alloc (.cells #[.slice a1 x.length c1] 30)) = W0 at *
        first | go_region_with (go_at_call 69; ((with_reducible refine (impl_ValidCard _ _ _ _ (hrx.kept (Below.refl _ _).drew) hsm).mono ?_); rintro e wq ⟨rfl, hbq⟩)) | fail
        all_goals
          go_wp2_with fail
          go_ret
          exact ⟨ret_bool (by rw [hf.out]), bthen hB.out (bthen (Below.refl _ _).drew hbq)⟩
      · cases hq : decide (x.length = y.length)
        · have hf := Lib.hid (validDeck_not hxk'.out ((deckCard_is hv hy0'.out).trans hq))
          have hne : ((x.length : Int) != (y.length : Int)) = true := by simp at hq; simp; omega
          clear hq
          go_wp2_with fail
          generalize hW : (wr.alloc (.cells #[.slice a1 x.length c1] 30)) = W0 at *
          (first | go_region_held3 (fun W => Below W0.heap.size W0 W ∧ W.cell? ⟨wr.heap.size, 0, none⟩ = some (.slice a1 x.length c1) ∧ W.cell? ⟨b1, o1, none⟩ = some (.slice a2 y.length c2)) (first | exact held2 (below_drewN (Below.refl _ _) 1) hbx hby | (rename Below W0.heap.size W0 _ ∧ _ => hH; refine held2 ?_ hbx hby; (refine bthen hH.1 ?_; assumption))) (first | (go_at_call 69; ((with_reducible refine (impl_ValidCard _ _ _ _ (hrx.kept (And.left ‹Below W0.heap.size W0 _ ∧ _›)) hsm).mono ?_); rintro e wq0 ⟨rfl, hbq⟩)) | (go_at_call 128; ((with_reducible refine (impl_columns _ _ _ _).mono ?_); rintro e wq1 ⟨rfl, hbq⟩))) | fail)
          all_goals
            have hHb := And.left ‹Below W0.heap.size W0 _ ∧ _›
            go_wp2_with fail
            go_ret
            exact ⟨ret_bool (by rw [hf.out]), bthen hB.out hHb⟩
        · have hf := Lib.hid (all_succ hxk'.out hall.out ((deckCard_is hv hy0'.out).trans hq))
          have hne : ((x.length : Int) != (y.length : Int)) = false := by simp at hq; simp; omega
          clear hq
          go_wp2_with fail
          generalize hW : (wr.alloc (.cells #[.slice a1 x.length c1] 30)) = W0 at *
          (first | go_region_held3 (fun W => Below W0.heap.size W0 W ∧ W.cell? ⟨wr.heap.size, 0, none⟩ = some (.slice a1 x.length c1) ∧ W.cell? ⟨b1, o1, none⟩ = some (.slice a2 y.length c2)) (first | exact held2 (below_drewN (Below.refl _ _) 1) hbx hby | (rename Below W0.heap.size W0 _ ∧ _ => hH; refine held2 ?_ hbx hby; (refine bthen hH.1 ?_; assumption))) (first | (go_at_call 69; ((with_reducible refine (impl_ValidCard _ _ _ _ (hrx.kept (And.left ‹Below W0.heap.size W0 _ ∧ _›)) hsm).mono ?_); rintro e wq0 ⟨rfl, hbq⟩)) | (go_at_call 128; ((with_reducible refine (impl_columns _ _ _ _).mono ?_); rintro e wq1 ⟨rfl, hbq⟩))) | fail)
          all_goals
            have hHb := And.left ‹Below W0.heap.size W0 _ ∧ _›
            go_wp2_with fail
            go_roundw
            case rel => exact ⟨k + 1, by omega, by go_num, hf, bthen hB.out hHb⟩
            case measure => simp [intOf]; omega
    · have hf := Lib.hid (validDeck_end (by rw [hN'.out]; omega) hall.out)
      have hk40 := Lib.hid (show decide ((n : Int) ≤ 40) = decide (xss.length ≤ 40) by rw [hN'.out]; exact decide_eq_decide.2 (by omega))
      go_wp2_with fail
      go_ret
      exact ⟨by first | exact ret_bool (by rw [hf.out, ← hk40.out]) | exact ret_bool (by rw [hf.out, hN'.out]; simp; omega), hb⟩
set_option maxHeartbeats 1000000 in
theorem spec_l02Deck (a : Option Addr) (c : Nat) (xss : List (List Int)) (w : World) (hx : RD w a xss) (hn : deckSz xss ≤ 1048576) :
    Calls Tryz.prog 154 #[.slice a xss.length c] w fun e w' => e = .returned (.bool (validDeckL xss)) ∧ Below w.heap.size w w' := by
  have hdl := deckSz_len xss
  have hn' := Lib.hid hn
  generalize hN : xss.length = n at *
  have hN' := Lib.hid hN
  clear hN
  go_enter Tryz.func154, Tryz.ntmps154
  go_wp2_with fail
  go_loopw [3] (fun i wr => ∃ k : Nat, k ≤ n ∧ i = .int .i64 k ∧ Hid ((xss.take k).all (deckCardB xss) = true) ∧ Below w.heap.size w wr) (fun i _ => n - (intOf i).toNat)
  case atStart => exact ⟨0, by omega, rfl, Lib.hid rfl, Below.refl _ _⟩
  case round =>
    obtain ⟨k, hk, rfl, hall, hb⟩ := hrel
    by_cases hlt : k < n
    · obtain ⟨x, hxk⟩ := get_some (l := xss) (k := k) (by rw [hN'.out]; exact hlt)
      obtain ⟨y, hy0⟩ := get_some (l := xss) (k := 0) (by rw [hN'.out]; omega)
      obtain ⟨b1, o1, a1, c1, rfl, hc1, hr1, hca, hcm⟩ := (hx.kept hb).at hxk
      obtain ⟨a2, c2, hc2, hr2, hca2, hcm2⟩ := (hx.kept hb).off hy0
      rw [Nat.add_zero] at hc2
      have hs1 := deckSz_at hxk
      have hsm : x.length ≤ maxLen := by unfold maxLen; omega
      have hpos : 0 < n := by omega
      have hpos' : (0 : Int) < n := by omega
      have hxk' := Lib.hid hxk
      have hy0' := Lib.hid hy0
      clear hxk hy0 hs1
      cases hv : validCardL x
      · have hf := Lib.hid (validDeck_not hxk'.out (deckCard_bad hv))
        go_wp2_with fail
        first | go_quiet ((go_at_call 123; exact Calls.quiet_of_same ((spec_l02Ok_at b1 (o1 + k) a1 c1 x _ (by simpa [go_sem] using hc1) (hr1.kept (below_drewN (Below.refl _ _) _)) hsm).mono fun _ _ h => ⟨by rw [h.1, hv], h.2.symm⟩))) | fail
        go_wp2_with fail
        go_ret
        exact ⟨ret_bool (by rw [hf.out]), below_drewN hb _⟩
      · cases hq : decide (x.length = y.length)
        · have hf := Lib.hid (validDeck_not hxk'.out ((deckCard_is hv hy0'.out).trans hq))
          have hne : ((x.length : Int) != (y.length : Int)) = true := by simp at hq; simp; omega
          clear hq
          go_wp2_with fail
          first | go_quiet ((go_at_call 123; exact Calls.quiet_of_same ((spec_l02Ok_at b1 (o1 + k) a1 c1 x _ (by simpa [go_sem] using hc1) (hr1.kept (below_drewN (Below.refl _ _) _)) hsm).mono fun _ _ h => ⟨by rw [h.1, hv], h.2.symm⟩))) | fail
          go_wp2_with fail
          go_ret
          exact ⟨ret_bool (by rw [hf.out]), below_drewN hb _⟩
        · have hf := Lib.hid (all_succ hxk'.out hall.out ((deckCard_is hv hy0'.out).trans hq))
          have hne : ((x.length : Int) != (y.length : Int)) = false := by simp at hq; simp; omega
          clear hq
          go_wp2_with fail
          first | go_quiet ((go_at_call 123; exact Calls.quiet_of_same ((spec_l02Ok_at b1 (o1 + k) a1 c1 x _ (by simpa [go_sem] using hc1) (hr1.kept (below_drewN (Below.refl _ _) _)) hsm).mono fun _ _ h => ⟨by rw [h.1, hv], h.2.symm⟩))) | fail
          go_wp2_with fail
          go_roundw
          case rel => exact ⟨k + 1, by omega, by go_num, hf, below_drewN hb _⟩
          case measure => simp [intOf]; omega
    · have hf := Lib.hid (validDeck_end (by rw [hN'.out]; omega) hall.out)
      have hk40 := Lib.hid (show decide ((n : Int) ≤ 40) = decide (xss.length ≤ 40) by rw [hN'.out]; exact decide_eq_decide.2 (by omega))
      go_wp2_with fail
      go_ret
      exact ⟨by first | exact ret_bool (by rw [hf.out, ← hk40.out]) | exact ret_bool (by rw [hf.out, hN'.out]; simp; omega), hb⟩
end Go.Proofs.YtcbjfgjlhjjpiaaGreatDoor
