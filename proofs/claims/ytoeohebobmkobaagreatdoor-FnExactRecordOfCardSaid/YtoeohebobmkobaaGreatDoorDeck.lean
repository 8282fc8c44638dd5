/- The walks of the laws' own functions on decks and of the functions that ask of decks: what each returns, and that memory has at most new blocks. -/
import Derived.Test.YtoeohebobmkobaaGreatDoorCrd
import Derived.Test.YtoeohebobmkobaaGreatDoorData
import Derived.Deep.RegionHeld3
namespace Go.Proofs.YtoeohebobmkobaaGreatDoor
open Go.RowKit
set_option maxRecDepth 100000
set_option linter.unusedVariables false
set_option linter.unusedSimpArgs false
set_option linter.unnecessarySimpa false

set_option maxHeartbeats 400000 in
theorem laws_szCardS (a : Option Addr) (c : Nat) (xss : List (List Int)) (left : Int) (w : World) (hx : RD w a xss) (h0 : 0 ≤ left) (h1 : left ≤ 1048576) (hn : xss.length ≤ maxLen) :
    Calls Tryz.prog 8 #[.slice a xss.length c, .int .i64 left] w fun e w' => e = .returned (.int .i64 (szI left (deckSz xss))) ∧ Below w.heap.size w w' := by
  unfold maxLen at hn
  have hd := deckSz_len xss
  by_cases hneg : left - (xss.length : Int) < 0
  · have hs := Lib.hid (show szI left (deckSz xss) = -1 by unfold szI; rw [if_pos (by omega)])
    clear hd
    go_enter Tryz.func8, Tryz.ntmps8
    go_wp2_with fail
    go_ret
    exact ⟨ret_int (by rw [hs.out]), Below.refl _ _⟩
  · have hde := Lib.hid (show deckSz xss = xss.length + (xss.map List.length).sum from rfl)
    generalize hN : xss.length = n at *
    have hN' := Lib.hid hN
    clear hN hd
    go_enter Tryz.func8, Tryz.ntmps8
    go_wp2_with fail
    go_loopw [1, 5] (fun l i wr => ∃ k : Nat, k ≤ n ∧ i = .int .i64 k ∧ Hid ((n : Int) + lensUp xss k ≤ left) ∧ l = .int .i64 (left - n - lensUp xss k) ∧ Below w.heap.size w wr) (fun _ i _ => n - (intOf i).toNat)
    case atStart => exact ⟨0, by omega, rfl, Lib.hid (by simp [lensUp]; omega), by simp [lensUp], Below.refl _ _⟩
    case round =>
      obtain ⟨k, hk, rfl, hle, rfl, hb⟩ := hrel
      by_cases hlt : k < n
      · obtain ⟨x, hxk⟩ := get_some (l := xss) (k := k) (by rw [hN'.out]; exact hlt)
        obtain ⟨b1, o1, a1, c1, rfl, hc1, hr1, hca, hcm⟩ := (hx.kept hb).at hxk
        have hxk' := Lib.hid hxk
        have hsucc := Lib.hid (lensUp_succ hxk)
        have hl0 := hle.out
        generalize hL : lensUp xss k = L at *
        have hL' := Lib.hid hL
        have hlm : x.length ≤ maxLen := by omega
        clear hxk hL
        by_cases hsm : left - n - L - (x.length : Int) < 0
        · have hz : szI (left - n - L) x.length = -1 := by unfold szI; rw [if_pos hsm]
          have hz' := Lib.hid hz
          have hc := (laws_szCard a1 c1 x.length (left - n - L) (by omega) (by omega) hlm wr)
          rw [hz'.out] at hc
          have hcl := Lib.hid hc
          clear hz hc
          go_wp2_with (go_at_call 15; ((with_reducible refine hcl.out.mono ?_); rintro e w' ⟨rfl, hb'⟩))
          go_ret
          have hle2 := lensUp_le xss (k + 1)
          have h3 := hsucc.out
          have h4 := hde.out
          exact ⟨ret_int (by unfold szI; rw [if_pos (by omega)]), bthen hb hb'⟩
        · have hz : szI (left - n - L) x.length = left - n - L - x.length := by unfold szI; rw [if_neg hsm]
          have hc := (laws_szCard a1 c1 x.length (left - n - L) (by omega) (by omega) hlm wr)
          rw [hz] at hc
          have hcl := Lib.hid hc
          clear hz hc
          have hnn : 0 ≤ left - n - L - (x.length : Int) := by omega
          have hnn2 : left - n - L - (x.length : Int) ≤ 1048576 := by omega
          go_wp2_with (go_at_call 15; ((with_reducible refine hcl.out.mono ?_); rintro e w' ⟨rfl, hb'⟩))
          go_roundw
          case rel =>
            have h3 := hsucc.out
            exact ⟨k + 1, by omega, by go_num, Lib.hid (by omega), by rw [h3]; go_num, bthen hb hb'⟩
          case measure => simp [intOf]; omega
      · go_wp2_with fail
        go_ret
        have h3 := lensUp_all (xss := xss) (k := k) (by rw [hN'.out]; omega)
        have h4 := hde.out
        have h5 := hle.out
        exact ⟨ret_int (by unfold szI; rw [if_neg (by omega)]; omega), hb⟩
theorem laws_szCardS_over (a : Option Addr) (c : Nat) (x : List (List Int)) (left : Int) (w : World) (hx : RD w a x) (h0 : 0 ≤ left) (h1 : left ≤ 1048576) (hn : x.length ≤ maxLen) (h : left < (deckSz x : Int)) :
    Calls Tryz.prog 8 #[.slice a x.length c, .int .i64 left] w fun e w' => e = .returned (.int .i64 (-1)) ∧ Below w.heap.size w w' :=
  (laws_szCardS a c x left w hx h0 h1 hn).mono fun e w' h' => ⟨by rw [h'.1]; unfold szI; rw [if_pos (by omega)], h'.2⟩
theorem laws_szCardS_ok (a : Option Addr) (c : Nat) (x : List (List Int)) (left : Int) (w : World) (hx : RD w a x) (h0 : 0 ≤ left) (h1 : left ≤ 1048576) (hn : x.length ≤ maxLen) (h : (deckSz x : Int) ≤ left) :
    Calls Tryz.prog 8 #[.slice a x.length c, .int .i64 left] w fun e w' => e = .returned (.int .i64 (left - (deckSz x : Int))) ∧ Below w.heap.size w w' :=
  (laws_szCardS a c x left w hx h0 h1 hn).mono fun e w' h' => ⟨by rw [h'.1]; unfold szI; rw [if_neg (by omega)], h'.2⟩
theorem Tryz.info_card : (Tryz.prog.info? 46).map (fun i => (i.zero, i.size, i.bytes)) = some (some (.agg #[.slice none 0 0]), 1, 24) := by kernel_rfl
set_option maxHeartbeats 400000 in
theorem laws_toCardS (a : Option Addr) (c : Nat) (xss : List (List Int)) (w : World) (hx : RD w a xss) (hn : deckSz xss ≤ 1048576) :
    Calls Tryz.prog 11 #[.slice a xss.length c] w fun e w' => ∃ a' c', e = .returned (.slice a' xss.length c') ∧ OD w.heap.size w'.heap.size w' 46 2 a' c' xss ∧ Below w.heap.size w w' := by
  obtain ⟨i0, hi, hz0, hz1, hz2⟩ := info_parts Tryz.info_card
  have hdl := deckSz_len xss
  have hn' := Lib.hid hn
  generalize hN : xss.length = n at *
  have hN' := Lib.hid hN
  clear hN
  have hm := Lib.hid (show n ≤ maxLen by simp [maxLen]; omega)
  go_enter Tryz.func11, Tryz.ntmps11
  go_wp2_with (at_make; refine wpList_make_full _ rfl _ _ 34 rfl w.heap.size 46 i0 (.agg #[.slice none 0 0]) 1 Tryz.underlying34 hi hz0 hz1 _ _ _ _ n rfl rfl rfl rfl (by rw [hz2]; omega) hm.out (by exact Nat.le_refl _) ?_; intro w1 hown hgrow)
  have hown0 : ODz w.heap.size w1.heap.size w1 46 2 (some ⟨w.heap.size, 0, none⟩) n (xss.take 0) n := by
    refine ⟨[], rfl, ?_, fun k p xs e1 e2 => by simp at e1, fun i j p q u v _ e1 => by simp at e1⟩
    refine OV.of ?_
    simpa [Value.cells, toList_madeCells_one, headsV] using hown
  have hb0 : Below w.heap.size w w1 := (Below.refl _ _).grown hgrow (Nat.le_refl _) (by simp)
  have hsz0 := (own_at hown rfl).2
  clear hown hgrow
  go_loopw [4] (fun i wr => ∃ k m : Nat, k + m = n ∧ i = .int .i64 k ∧ ODz w.heap.size wr.heap.size wr 46 2 (some ⟨w.heap.size, 0, none⟩) n (xss.take k) m ∧ Below w.heap.size w wr ∧ w.heap.size < wr.heap.size) (fun i _ => n - (intOf i).toNat)
  case atStart => exact ⟨0, n, by omega, rfl, hown0, hb0, hsz0⟩
  case round =>
    obtain ⟨k, m, hk, rfl, hown, hb, hsz⟩ := hrel
    by_cases hlt : k < n
    · obtain ⟨x, hxk⟩ := get_some (l := xss) (k := k) (by rw [hN'.out]; exact hlt)
      obtain ⟨b1, o1, a1, c1, rfl, hc1, hr1, hca, hcm⟩ := (hx.kept hb).at hxk
      have hxs := deckSz_at hxk
      have hsmall : x.length ≤ 1048576 := by omega
      have hxk' := Lib.hid hxk
      clear hxk hxs
      obtain ⟨m, rfl⟩ : ∃ q, m = q + 1 := ⟨m - 1, by omega⟩
      go_wp2_with fail
      refine (laws_toCard a1 c1 x _ hr1 hsmall).mono ?_
      rintro e w2 ⟨a2, c2, rfl, ho2, hb2⟩
      have hlk : (xss.take k).length = k := by rw [List.length_take, hN'.out]; omega
      obtain ⟨hcc, hff⟩ := (hown.kept hb2).next
      rw [hlk] at hcc hff
      have hput := hown.put (by decide) hb2 (Nat.le_of_lt hsz) ho2
      rw [hlk] at hput
      have hput' := Lib.hid hput
      have hbb := Lib.hid (bthen hb hb2)
      have hs2 := hb2.size
      clear ho2 hput hb2 hlk
      go_wp2_with fail
      go_roundw
      case rel =>
        refine ⟨k + 1, m, by omega, by go_num, ?_, hbb.out.setCell (Nat.le_refl _) _, by simp only [World.size_setCell]; omega⟩
        have h9 := hput'.out
        rw [List.take_add_one, hxk'.out]
        exact h9
      case measure => simp [intOf]; omega
    · go_wp2_with fail
      go_ret
      obtain rfl : m = 0 := by omega
      have h9 := hown.all
      rw [List.take_of_length_le (by rw [hN'.out]; omega)] at h9
      exact ⟨_, _, rfl, h9, hb⟩
set_option maxHeartbeats 400000 in
theorem laws_eqCardS_same (a b : Option Addr) (ca cb : Nat) (xss : List (List Int)) (w : World) (hx : RD w a xss) (hy : RD w b xss) (h1 : deckSz xss ≤ 1048576) :
    Calls Tryz.prog 14 #[.slice a xss.length ca, .slice b xss.length cb] w fun e w' => e = .returned (.bool true) ∧ Below w.heap.size w w' := by
  have hdl := deckSz_len xss
  have hn' := Lib.hid h1
  generalize hN : xss.length = n at *
  have hN' := Lib.hid hN
  clear hN
  go_enter Tryz.func14, Tryz.ntmps14
  go_wp2_with fail
  go_loopw [5] (fun i wr => ∃ k : Nat, k ≤ n ∧ i = .int .i64 k ∧ Below w.heap.size w wr) (fun i _ => n - (intOf i).toNat)
  case atStart => exact ⟨0, by omega, rfl, Below.refl _ _⟩
  case round =>
    obtain ⟨k, hk, rfl, hb⟩ := hrel
    by_cases hlt : k < n
    · obtain ⟨x, hxk⟩ := get_some (l := xss) (k := k) (by rw [hN'.out]; exact hlt)
      obtain ⟨b1, o1, a1, c1, rfl, hc1, hr1, hca, hcm⟩ := (hx.kept hb).at hxk
      obtain ⟨b2, o2, a2, c2, rfl, hc2, hr2, hca2, hcm2⟩ := (hy.kept hb).at hxk
      have hxs := deckSz_at hxk
      have hsmall : x.length ≤ maxLen := by unfold maxLen; omega
      have hxk' := Lib.hid hxk
      clear hxk hxs
      go_wp2_with fail
      (first | go_region_held3 (fun W => Below wr.heap.size wr W ∧ W.cell? ⟨b1, o1 + k, none⟩ = some (.slice a1 x.length c1) ∧ W.cell? ⟨b2, o2 + k, none⟩ = some (.slice a2 x.length c2)) (first | exact held2 (below_drewN (Below.refl _ _) 1) hc1 hc2 | (rename Below wr.heap.size wr _ ∧ _ => hH; refine held2 ?_ hc1 hc2; (refine bthen hH.1 ?_; assumption))) (first | (go_at_call 20; ((with_reducible refine (laws_eqCard_same _ _ _ _ _ _ (hr1.kept (And.left ‹Below wr.heap.size wr _ ∧ _›)) (hr2.kept (And.left ‹Below wr.heap.size wr _ ∧ _›)) hsmall).mono ?_); rintro e wq0 ⟨rfl, hbq⟩))) | fail)
      have hHb := And.left ‹Below wr.heap.size wr _ ∧ _›
      go_wp2_with fail
      go_roundw
      case rel => exact ⟨k + 1, by omega, by go_num, bthen hb hHb⟩
      case measure => simp [intOf]; omega
    · go_wp2_with fail
      go_ret
      exact ⟨rfl, hb⟩
/-! ### decks that are valid, decks that are the same -/
def deckCardB (xss : List (List Int)) (xs : List Int) : Bool := validCardL xs && decide (xs.length = (xss.headD []).length)
def validDeckL (xss : List (List Int)) : Bool := xss.all (deckCardB xss) && decide (xss.length ≤ 40)
theorem deckCard_bad {xss : List (List Int)} {xs : List Int} (h : validCardL xs = false) : deckCardB xss xs = false := by unfold deckCardB; rw [h]; rfl
theorem deckCard_is {xss : List (List Int)} {xs y : List Int} (h : validCardL xs = true) (h0 : xss[0]? = some y) : deckCardB xss xs = decide (xs.length = y.length) := by
  unfold deckCardB; rw [h, List.headD_eq_head?_getD, List.head?_eq_getElem?, h0]; simp
theorem validDeck_not {xss : List (List Int)} {k : Nat} {x : List Int} (h : xss[k]? = some x) (hx : deckCardB xss x = false) : validDeckL xss = false := by
  unfold validDeckL; rw [all_not h hx]; rfl
theorem validDeck_end {xss : List (List Int)} {k : Nat} (h : xss.length ≤ k) (hk : (xss.take k).all (deckCardB xss) = true) : validDeckL xss = decide (xss.length ≤ 40) := by
  unfold validDeckL; rw [all_take h hk]; rfl
set_option maxHeartbeats 1000000 in
theorem impl_ValidDeck (a : Option Addr) (c : Nat) (xss : List (List Int)) (w : World) (hx : RD w a xss) (hn : deckSz xss ≤ 1048576) :
    Calls Tryz.prog 37 #[.slice a xss.length c] w fun e w' => e = .returned (.bool (validDeckL xss)) ∧ Below w.heap.size w w' := by
  have hdl := deckSz_len xss
  have hn' := Lib.hid hn
  generalize hN : xss.length = n at *
  have hN' := Lib.hid hN
  clear hN
  go_enter Tryz.func37, Tryz.ntmps37
  go_wp2_with fail
  go_loopw [7] (fun i wr => ∃ k : Nat, k ≤ n ∧ i = .int .i64 k ∧ Hid ((xss.take k).all (deckCardB xss) = true) ∧ Below w.heap.size w wr) (fun i _ => n - (intOf i).toNat)
  case atStart => exact ⟨0, by omega, rfl, Lib.hid rfl, Below.refl _ _⟩
  case round =>
    obtain ⟨k, hk, rfl, hall, hb⟩ := hrel
    by_cases hlt : k < n
    · obtain ⟨x, hxk⟩ := get_some (l := xss) (k := k) (by rw [hN'.out]; exact hlt)
      obtain ⟨y, hy0⟩ := get_some (l := xss) (k := 0) (by rw [hN'.out]; omega)
      obtain ⟨b1, o1, a1, c1, rfl, hc1, hr1, hca, hcm⟩ := (hx.kept hb).at hxk
      obtain ⟨a2, c2, hc2, hr2, hca2, hcm2⟩ := (hx.kept hb).off hy0
      rw [Nat.add_zero] at hc2
      have hs1 := deckSz_at hxk
      have hsm : x.length ≤ maxLen := by unfold maxLen; omega
      have hpos : 0 < n := by omega
      have hpos' : (0 : Int) < n := by omega
      have hba := below_alloc (w := wr) (.cells #[.slice a1 x.length c1] 46)
      have hbx : (wr.alloc (.cells #[.slice a1 x.length c1] 46)).cell? ⟨wr.heap.size, 0, none⟩ = some (.slice a1 x.length c1) := by simp [go_sem]
      have hby := keep hba hc2
      have hrx := hr1.kept hba
      have hxk' := Lib.hid hxk
      have hy0' := Lib.hid hy0
      have hB := Lib.hid (bthen hb hba)
      clear hxk hy0 hs1 hba
      cases hv : validCardL x
      · have hf := Lib.hid (validDeck_not hxk'.out (deckCard_bad hv))
        go_wp2_with fail
        generalize hW : (wr.alloc (.cells #[.slice a1 x.length c1] 46)) = W0 at *
        first | go_region_with (go_at_call 44; ((with_reducible refine (impl_ValidCard _ _ _ _ (hrx.kept (Below.refl _ _).drew) hsm).mono ?_); rintro e wq ⟨rfl, hbq⟩)) | fail
        all_goals
          go_wp2_with fail
          go_ret
          exact ⟨ret_bool (by rw [hf.out]), bthen hB.out (bthen (Below.refl _ _).drew hbq)⟩
      · cases hq : decide (x.length = y.length)
        · have hf := Lib.hid (validDeck_not hxk'.out ((deckCard_is hv hy0'.out).trans hq))
          have hne : ((x.length : Int) != (y.length : Int)) = true := by simp at hq; simp; omega
          clear hq
          go_wp2_with fail
          generalize hW : (wr.alloc (.cells #[.slice a1 x.length c1] 46)) = W0 at *
          (first | go_region_held3 (fun W => Below W0.heap.size W0 W ∧ W.cell? ⟨wr.heap.size, 0, none⟩ = some (.slice a1 x.length c1) ∧ W.cell? ⟨b1, o1, none⟩ = some (.slice a2 y.length c2)) (first | exact held2 (below_drewN (Below.refl _ _) 1) hbx hby | (rename Below W0.heap.size W0 _ ∧ _ => hH; refine held2 ?_ hbx hby; (refine bthen hH.1 ?_; assumption))) (first | (go_at_call 44; ((with_reducible refine (impl_ValidCard _ _ _ _ (hrx.kept (And.left ‹Below W0.heap.size W0 _ ∧ _›)) hsm).mono ?_); rintro e wq0 ⟨rfl, hbq⟩)) | (go_at_call 65; ((with_reducible refine (impl_columns _ _ _ _).mono ?_); rintro e wq1 ⟨rfl, hbq⟩))) | fail)
          all_goals
            have hHb := And.left ‹Below W0.heap.size W0 _ ∧ _›
            go_wp2_with fail
            go_ret
            exact ⟨ret_bool (by rw [hf.out]), bthen hB.out hHb⟩
        · have hf := Lib.hid (all_succ hxk'.out hall.out ((deckCard_is hv hy0'.out).trans hq))
          have hne : ((x.length : Int) != (y.length : Int)) = false := by simp at hq; simp; omega
          clear hq
          go_wp2_with fail
          generalize hW : (wr.alloc (.cells #[.slice a1 x.length c1] 46)) = W0 at *
          (first | go_region_held3 (fun W => Below W0.heap.size W0 W ∧ W.cell? ⟨wr.heap.size, 0, none⟩ = some (.slice a1 x.length c1) ∧ W.cell? ⟨b1, o1, none⟩ = some (.slice a2 y.length c2)) (first | exact held2 (below_drewN (Below.refl _ _) 1) hbx hby | (rename Below W0.heap.size W0 _ ∧ _ => hH; refine held2 ?_ hbx hby; (refine bthen hH.1 ?_; assumption))) (first | (go_at_call 44; ((with_reducible refine (impl_ValidCard _ _ _ _ (hrx.kept (And.left ‹Below W0.heap.size W0 _ ∧ _›)) hsm).mono ?_); rintro e wq0 ⟨rfl, hbq⟩)) | (go_at_call 65; ((with_reducible refine (impl_columns _ _ _ _).mono ?_); rintro e wq1 ⟨rfl, hbq⟩))) | fail)
          all_goals
            have hHb := And.left ‹Below W0.heap.size W0 _ ∧ _›
            go_wp2_with fail
            go_roundw
            case rel => exact ⟨k + 1, by omega, by go_num, hf, bthen hB.out hHb⟩
            case measure => simp [intOf]; omega
    · have hf := Lib.hid (validDeck_end (by rw [hN'.out]; omega) hall.out)
      have hk40 := Lib.hid (show decide ((n : Int) ≤ 40) = decide (xss.length ≤ 40) by rw [hN'.out]; exact decide_eq_decide.2 (by omega))
      go_wp2_with fail
      go_ret
      exact ⟨by first | exact ret_bool (by rw [hf.out, ← hk40.out]) | exact ret_bool (by rw [hf.out, hN'.out]; simp; omega), hb⟩
set_option maxHeartbeats 1000000 in
theorem spec_l02Deck (a : Option Addr) (c : Nat) (xss : List (List Int)) (w : World) (hx : RD w a xss) (hn : deckSz xss ≤ 1048576) :
    Calls Tryz.prog 59 #[.slice a xss.length c] w fun e w' => e = .returned (.bool (validDeckL xss)) ∧ Below w.heap.size w w' := by
  have hdl := deckSz_len xss
  have hn' := Lib.hid hn
  generalize hN : xss.length = n at *
  have hN' := Lib.hid hN
  clear hN
  go_enter Tryz.func59, Tryz.ntmps59
  go_wp2_with fail
  go_loopw [3] (fun i wr => ∃ k : Nat, k ≤ n ∧ i = .int .i64 k ∧ Hid ((xss.take k).all (deckCardB xss) = true) ∧ Below w.heap.size w wr) (fun i _ => n - (intOf i).toNat)
  case atStart => exact ⟨0, by omega, rfl, Lib.hid rfl, Below.refl _ _⟩
  case round =>
    obtain ⟨k, hk, rfl, hall, hb⟩ := hrel
    by_cases hlt : k < n
    · obtain ⟨x, hxk⟩ := get_some (l := xss) (k := k) (by rw [hN'.out]; exact hlt)
      obtain ⟨y, hy0⟩ := get_some (l := xss) (k := 0) (by rw [hN'.out]; omega)
      obtain ⟨b1, o1, a1, c1, rfl, hc1, hr1, hca, hcm⟩ := (hx.kept hb).at hxk
      obtain ⟨a2, c2, hc2, hr2, hca2, hcm2⟩ := (hx.kept hb).off hy0
      rw [Nat.add_zero] at hc2
      have hs1 := deckSz_at hxk
      have hsm : x.length ≤ maxLen := by unfold maxLen; omega
      have hpos : 0 < n := by omega
      have hpos' : (0 : Int) < n := by omega
      have hxk' := Lib.hid hxk
      have hy0' := Lib.hid hy0
      clear hxk hy0 hs1
      cases hv : validCardL x
      · have hf := Lib.hid (validDeck_not hxk'.out (deckCard_bad hv))
        go_wp2_with fail
        first | go_quiet ((go_at_call 74; exact Calls.quiet_of_same ((spec_l02Ok_at b1 (o1 + k) a1 c1 x _ (by simpa [go_sem] using hc1) (hr1.kept (below_drewN (Below.refl _ _) _)) hsm).mono fun _ _ h => ⟨by rw [h.1, hv], h.2.symm⟩))) | fail
        go_wp2_with fail
        go_ret
        exact ⟨ret_bool (by rw [hf.out]), below_drewN hb _⟩
      · cases hq : decide (x.length = y.length)
        · have hf := Lib.hid (validDeck_not hxk'.out ((deckCard_is hv hy0'.out).trans hq))
          have hne : ((x.length : Int) != (y.length : Int)) = true := by simp at hq; simp; omega
          clear hq
          go_wp2_with fail
          first | go_quiet ((go_at_call 74; exact Calls.quiet_of_same ((spec_l02Ok_at b1 (o1 + k) a1 c1 x _ (by simpa [go_sem] using hc1) (hr1.kept (below_drewN (Below.refl _ _) _)) hsm).mono fun _ _ h => ⟨by rw [h.1, hv], h.2.symm⟩))) | fail
          go_wp2_with fail
          go_ret
          exact ⟨ret_bool (by rw [hf.out]), below_drewN hb _⟩
        · have hf := Lib.hid (all_succ hxk'.out hall.out ((deckCard_is hv hy0'.out).trans hq))
          have hne : ((x.length : Int) != (y.length : Int)) = false := by simp at hq; simp; omega
          clear hq
          go_wp2_with fail
          first | go_quiet ((go_at_call 74; exact Calls.quiet_of_same ((spec_l02Ok_at b1 (o1 + k) a1 c1 x _ (by simpa [go_sem] using hc1) (hr1.kept (below_drewN (Below.refl _ _) _)) hsm).mono fun _ _ h => ⟨by rw [h.1, hv], h.2.symm⟩))) | fail
          go_wp2_with fail
          go_roundw
          case rel => exact ⟨k + 1, by omega, by go_num, hf, below_drewN hb _⟩
          case measure => simp [intOf]; omega
    · have hf := Lib.hid (validDeck_end (by rw [hN'.out]; omega) hall.out)
      have hk40 := Lib.hid (show decide ((n : Int) ≤ 40) = decide (xss.length ≤ 40) by rw [hN'.out]; exact decide_eq_decide.2 (by omega))
      go_wp2_with fail
      go_ret
      exact ⟨by first | exact ret_bool (by rw [hf.out, ← hk40.out]) | exact ret_bool (by rw [hf.out, hN'.out]; simp; omega), hb⟩
end Go.Proofs.YtoeohebobmkobaaGreatDoor
