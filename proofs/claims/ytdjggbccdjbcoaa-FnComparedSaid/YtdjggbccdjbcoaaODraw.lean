/- The walks of the functions that draw decks: every card has the width asked for, and its columns have characters. -/
import Derived.Test.YtdjggbccdjbcoaaDrawT
import Derived.Test.YtdjggbccdjbcoaaCopy
import Derived.Test.YtdjggbccdjbcoaaOPush
import Derived.Test.YtdjggbccdjbcoaaRead
import Derived.Test.YtdjggbccdjbcoaaPlainC
import Derived.Deep.RegionLaw
namespace Go.Proofs.Ytdjggbccdjbcoaa
open Go.RowKit
set_option maxRecDepth 100000
set_option linter.unusedVariables false
set_option linter.unusedSimpArgs false
set_option linter.unnecessarySimpa false

/-- the columns of a text -/
def cardT (s : ByteArray) : List Int := s.data.toList.map fun c => codeI c.toNat
theorem cardT_length (s : ByteArray) : (cardT s).length = s.size := by unfold cardT; rw [List.length_map, len_bytes]
theorem cardT_at {s : ByteArray} {k : Nat} (h : k < s.size) : (cardT s)[k]? = some (codeI (s[k].toNat : Int)) := by
  unfold cardT; rw [List.getElem?_map, get_bytes s k h]; rfl
theorem cardT_snoc {s : ByteArray} {k : Nat} (h : k < s.size) : (cardT s).take (k + 1) = (cardT s).take k ++ [codeI (s[k].toNat : Int)] := by
  rw [List.take_add_one, cardT_at h]; rfl
theorem cardT_legal {s : ByteArray} (h : charsB s = true) : legalL (cardT s) = true := by
  unfold legalL cardT
  rw [List.all_eq_true]
  intro x hx
  obtain ⟨u, hu, rfl⟩ := List.mem_map.1 hx
  unfold charsB at h
  rw [List.all_eq_true] at h
  have hc := h u hu
  have := (char_back u hc).2.1
  rw [code0_yes hc] at this
  unfold legalB
  exact decide_eq_true this
theorem cardT_mask {s : ByteArray} (h : charsB s = true) : ∀ x ∈ cardT s, 0 ≤ x ∧ x ≤ 4095 := by
  intro x hx
  unfold cardT at hx
  obtain ⟨u, hu, rfl⟩ := List.mem_map.1 hx
  unfold charsB at h
  rw [List.all_eq_true] at h
  have hc := h u hu
  rw [← code0_yes hc]
  exact code0_mask u
set_option maxHeartbeats 4000000 in
theorem spec_l03Card (s : ByteArray) (w : World) (hs : s.size ≤ 1048576) :
    Calls Try.prog 121 #[.string s] w fun e w' => ∃ a' c', e = .returned (.agg #[.slice a' s.size c']) ∧ w'.ownsRow w.heap.size 2 1 (.slice a' s.size c') s.size ((cardT s).map (Value.int .i64)) ∧ Below w.heap.size w w' := by
  obtain ⟨i0, hi, hz0, hz1, hz2⟩ := info_parts Try.info_int64
  have hb2 := Lib.hid (below_alloc2 w (.cells #[.slice none 0 0] 48) (.cells #[.slice none 0 0] 48))
  go_enter Try.func121, Try.ntmps121
  go_wp2_with fail
  go_loopw [4] (fun i wr => ∃ (k : Nat) (a' : Option Addr) (c' : Nat), k ≤ s.size ∧ i = .int .i64 k ∧ wr.cell? ⟨w.heap.size + 1, 0, none⟩ = some (.slice a' k c') ∧ wr.frozen? ⟨w.heap.size + 1, 0, none⟩ = false ∧ wr.cell? ⟨w.heap.size, 0, none⟩ = some (.slice none 0 0) ∧ wr.frozen? ⟨w.heap.size, 0, none⟩ = false ∧ OV (w.heap.size + 2) wr.heap.size wr 2 1 a' k c' (((cardT s).take k).map (Value.int .i64)) ∧ Below w.heap.size w wr ∧ w.heap.size + 2 ≤ wr.heap.size) (fun i _ => s.size - (intOf i).toNat)
  case atStart => exact ⟨0, none, 0, by omega, rfl, by simp [go_sem], by simp [go_sem], by simp [go_sem], by simp [go_sem], OV.of (World.ownsRow_nil _ _ _ _), hb2.out, by simp⟩
  case round =>
    obtain ⟨k, a3, c3, hk, rfl, hcr, hfr, hcz, hfz, hown, hB, hsz⟩ := hrel
    replace hown := Lib.hid hown
    replace hB := Lib.hid hB
    have hm63 := Lib.hid (show k + 1 ≤ maxLen by unfold maxLen; omega)
    by_cases hlt : k < s.size
    · have hsn := Lib.hid (cardT_snoc hlt)
      have hlt' : (k : Int) < (s.size : Int) := by omega
      have hcr2 := keep (below_alloc (w := wr) (.cells #[.int .i64 (codeI (s[k].toNat : Int))] 2)) hcr
      have hoA := Lib.hid (fun (W : World) (hb : Below wr.heap.size wr W) => (hown.out.kept hb).1)
      go_wp2_with fail
      go_region_law (first | (refine step_row rfl _ _ 46 (by rfl) (w.heap.size + 2) 2 i0 (.int .i64 0) 1 8 Try.underlying46 hi hz0 hz1 hz2 rfl (by decide) (.slice a3 k c3) k (((cardT s).take k).map (Value.int .i64)) (by rfl) (hoA.out _ (((Below.refl _ _).drew).alloc (Nat.le_refl _) _)) (some ⟨wr.heap.size, 0, none⟩) 1 1 [.int .i64 (codeI (s[k].toNat : Int))] (by rfl) rfl (row_block (heap_alloc_new _ _)) (one_one rfl) hm63.out (by omega) (by simp only [World.size_alloc, World.size_drew]; omega) ?_; intro v5 w5 hown5 hg5; have hb5 := (((Below.refl (w.heap.size + 2) _).drew.alloc hsz _).grown hg5 (by simp only [World.size_alloc, World.size_drew]; omega) (fun k hk => (hown.out.1.lt k hk).1)); have hcr5 := heldB hb5 (by omega) hcr; have hfr5 := (hb5.frozen (p := ⟨w.heap.size + 1, 0, none⟩) (by dsimp only; omega)).trans hfr; have hcz5 := heldB hb5 (by omega) hcz; have hfz5 := (hb5.frozen (p := ⟨w.heap.size, 0, none⟩) (by dsimp only; omega)).trans hfz; have hB5 := Lib.hid (hB.out.trans (hb5.mono (Nat.le_trans (Nat.le_add_right _ _) (Nat.le_refl _)))); have hsz5 := hb5.size; obtain ⟨a5, c5, hv5, _, _⟩ := own_slice hown5; subst hv5; have hown5' := Lib.hid hown5; clear hown5 hg5 hb5 hcr hfr hcz hfz hcr2) | (go_simp; go_at_call 85; refine (spec_l03Code _ _).mono ?_; rintro e w' ⟨rfl, rfl⟩))
      all_goals
        go_wp2_with fail
        go_roundw
        case rel =>
          refine ⟨k + 1, a5, c5, by omega, by go_num, by simp [go_sem, *], by simp [go_sem, *], by simp [go_sem, *], by simp [go_sem, *], ?_, ?_, by simp only [World.size_setCell]; omega⟩
          · have h9 := ownsRow_setCell_below hown5'.out (a := ⟨w.heap.size + 1, 0, none⟩) (by dsimp only; omega) (.slice a5 (k + 1) c5)
            rw [hsn.out, List.map_append]
            exact OV.of h9
          · exact hB5.out.setCell (by dsimp only; omega) _
        case measure => simp [intOf]; omega
    · obtain rfl : k = s.size := by omega
      have hall := Lib.hid (show (cardT s).take s.size = cardT s from List.take_of_length_le (by rw [cardT_length]; exact Nat.le_refl _))
      go_wp2_with fail
      refine bodyPost_ret (v := .agg #[.slice a3 s.size c3]) (by simp [results, Try.results121, go_sem, *]) rfl ⟨a3, c3, rfl, ?_, ?_⟩
      · have h9 := hown.out.1
        rw [hall.out] at h9
        exact own_mono (ownsRow_setCell_below (a := ⟨w.heap.size, 0, none⟩) h9 (by dsimp only; omega) _) (by omega)
      · exact hB.out.setCell (by dsimp only; omega) _
set_option maxHeartbeats 400000 in
theorem spec_l02Own_at (b o : Nat) (a : Option Addr) (c n : Nat) (xs : List Int) (w : World) (hp : w.cell? ⟨b, o, none⟩ = some (.slice a n c)) (hx : RI w a xs) (hxn : xs.length = n) (hn : n ≤ 1048576) :
    Calls Try.prog 120 #[.pointer (some ⟨b, o, none⟩)] w fun e w' => ∃ a' c', e = .returned (.agg #[.slice a' n c']) ∧ w'.ownsRow w.heap.size 2 1 (.slice a' n c') n (xs.map (Value.int .i64)) ∧ Below w.heap.size w w' := by
  have hb2 := Lib.hid (below_alloc (w := w) (.cells #[.slice none 0 0] 48))
  have hbl := World.block_lt_of_cell? w _ hp
  have hown := Lib.hid (fun W (hW : RI W a xs) => by have h := spec_l00Own a c xs W hW (by omega); rw [hxn] at h; exact h)
  clear hxn
  go_enter Try.func120, Try.ntmps120
  go_wp2_with fail
  refine (hown.out _ (hx.kept hb2.out)).mono ?_
  rintro e w1 ⟨a1, c1, rfl, hown, hb1⟩
  (have hc0 := keep (p := ⟨w.heap.size, 0, none⟩) (v := .slice none 0 0) hb1 (by simp [go_sem, *]); have hf0 := keepf (p := ⟨w.heap.size, 0, none⟩) (v := .slice none 0 0) hb1 (by simp [go_sem, *]) (by simp [go_sem, *]); have hl0 := World.block_lt_of_cell? _ _ hc0)
  have hown' := Lib.hid hown
  have hb1' := Lib.hid (bthen hb2.out hb1)
  clear hown hb1
  go_wp2_with fail
  refine bodyPost_ret (v := .agg #[.slice a1 n c1]) (by simp [results, Try.results120, go_sem, hc0]) rfl ⟨a1, c1, rfl, ?_, ?_⟩
  · exact own_mono (B' := w.heap.size + 1) (ownsRow_setCell_below (by simpa using hown'.out) (by simp) _) (by omega)
  · exact hb1'.out.setCell (by simp) _
theorem Try.info_card0 : (Try.prog.info? 48).map (fun i => (i.zero, i.size, i.bytes)) = some (some (.agg #[.slice none 0 0]), 1, 24) := by kernel_rfl
def LegalW (n : Nat) (xs : List Int) : Prop := xs.length = n ∧ legalL xs = true ∧ ∀ x ∈ xs, 0 ≤ x ∧ x ≤ 4095
theorem legal_snoc {n : Nat} {xss : List (List Int)} {x : List Int} (h : ∀ xs ∈ xss, LegalW n xs) (hx : LegalW n x) : ∀ xs ∈ xss ++ [x], LegalW n xs := by
  intro y hy; simp only [List.mem_append, List.mem_singleton] at hy; rcases hy with hy | rfl
  · exact h y hy
  · exact hx
set_option maxHeartbeats 4000000 in
theorem spec_l07Draw (B : Nat) (a : Option Addr) (c : Nat) (l : List UInt8) (k0 n m : Nat) (w : World) (h : SrcIs w B a c l k0) (hk0 : k0 ≤ 1048576) (hl : l.length ≤ 1073741824) (hn : n ≤ 20) (hm : m ≤ 100) :
    Calls Try.prog 93 #[.pointer (some ⟨B, 0, none⟩), .int .i64 n, .int .i64 m] w fun e w' => ∃ (a' : Option Addr) (c' : Nat) (xss : List (List Int)), e = .returned (.slice a' xss.length c') ∧ xss.length ≤ m ∧ (∀ xs ∈ xss, LegalW n xs) ∧ OD w.heap.size w'.heap.size w' 48 2 a' c' xss ∧ SrcIs w' B a c l (k0 + 2 + m * 88) ∧ Within B (B + 1) w w' := by
  have hBl := h.lt
  have h' := Lib.hid h
  clear h
  obtain ⟨i0, hi, hz0, hz1, hz2⟩ := info_parts Try.info_card0
  have hba := Lib.hid (below_alloc (w := w) (.cells #[] 48))
  have hown0 := Lib.hid (World.ownsRow_lit (base := w.heap.size) (e := 48) (size := 1) w #[] 0 (Nat.le_refl _) (by simp [maxLen]) rfl)
  have hs0 := Lib.hid (h'.out.kept hba.out)
  go_enter Try.func93, Try.ntmps93
  go_wp2_with fail
  refine (spec_pick B a c l _ (m + 1) _ hs0.out (by omega) hl (by omega) (by omega)).mono ?_
  rintro e w1 ⟨r, rfl, ⟨r0, r1, _⟩, hs, hw⟩
  replace r1 := r1 (by omega)
  obtain ⟨q, rfl⟩ := Int.eq_ofNat_of_zero_le r0
  have hod0 := Lib.hid (OD.nil w.heap.size (w.alloc (.cells #[] 48)) 48 2 (by simpa using hown0.out))
  have hW1 := Lib.hid ((Within.of_below hba.out).trans hw)
  have hod1 := Lib.hid ((hod0.out.within hw (Or.inr (by omega))).wider (Nat.le_refl _) hw.size)
  have hsz1 := hw.size
  simp only [World.size_alloc] at hsz1
  have hs1 := Lib.hid hs
  have hqm : q ≤ m := by omega
  clear hs hw r0 r1
  go_wp2_with fail
  go_loopw [7, 8] (fun v i wr => ∃ (r : Nat) (a' : Option Addr) (c' : Nat) (xss : List (List Int)), xss.length + r ≤ m ∧ i = .int .i64 r ∧ v = .slice a' xss.length c' ∧ (∀ xs ∈ xss, LegalW n xs) ∧ OD w.heap.size wr.heap.size wr 48 2 a' c' xss ∧ SrcIs wr B a c l (k0 + 2 + xss.length * 88) ∧ Within B (B + 1) w wr ∧ w.heap.size < wr.heap.size) (fun _ i _ => (intOf i).toNat)
  case atStart => exact ⟨q, _, _, [], by simpa using hqm, rfl, rfl, by simp, hod1.out, hs1.out.more (by omega), hW1.out, by omega⟩
  case round =>
    obtain ⟨r, a3, c3, xss, hrm, rfl, rfl, hP0, hod, hsr, hW, hsz⟩ := hrel
    have hP := Lib.hid hP0
    replace hsr := Lib.hid hsr
    replace hW := Lib.hid hW
    replace hod := Lib.hid hod
    have hxm : xss.length ≤ 100 := by omega
    have hm63 := Lib.hid (show xss.length + 1 ≤ maxLen by unfold maxLen; omega)
    clear hP0
    by_cases hlt : 0 < r
    · obtain ⟨r, rfl⟩ : ∃ q, r = q + 1 := ⟨r - 1, by omega⟩
      generalize hN : xss.length = N at *
      have hN' := Lib.hid hN
      clear hN
      by_cases h0 : N = 0
      · have hd0 : decide ((0 : Int) < (N : Int)) = false := by simp [h0]
        have hd1 : decide (0 < N) = false := by simp [h0]
        clear h0
        go_wp2_with fail
        refine (spec_l03DrawText B a c l _ n _ hsr.out (by omega) hl (by omega)).mono ?_
        rintro e w3 ⟨⟨t, rfl, ht, htc⟩, hs, hw⟩
        replace hod := Lib.hid ((hod.out.within hw (Or.inr (by omega))).wider (Nat.le_refl _) hw.size)
        replace hW := Lib.hid (hW.out.trans hw)
        replace hsz := Nat.lt_of_lt_of_le hsz hw.size
        replace hsr := Lib.hid hs
        have hxw := Lib.hid (show LegalW n (cardT t) from ⟨by rw [cardT_length]; exact ht, cardT_legal htc, cardT_mask htc⟩)
        have hcd := Lib.hid (show Calls Try.prog 121 #[.string t] w3 fun e w' => ∃ a' c', e = .returned (.agg #[.slice a' n c']) ∧ w'.ownsRow w3.heap.size 2 1 (.slice a' n c') n ((cardT t).map (Value.int .i64)) ∧ Below w3.heap.size w3 w' by
          have h := spec_l03Card t w3 (by omega)
          rw [ht] at h
          exact h)
        generalize cardT t = x at *
        clear hs hw ht htc
        go_wp2_with fail
        refine hcd.out.mono ?_
        rintro e w4 ⟨a5, c5, rfl, hox, hb⟩
        obtain ⟨hs0_, hd⟩ := hod.out.parts
        have hdp := Lib.hid (hd.kept hb)
        have hox' := Lib.hid ((OV.of hox).kept (below_alloc (.cells #[.slice a5 n c5] 48)))
        replace hsr := Lib.hid (hsr.out.kept hb)
        replace hW := Lib.hid (hW.out.trans (Within.of_below hb))
        have hM4 : w3.heap.size ≤ w4.heap.size := hb.size
        have hsz4 : w.heap.size ≤ w4.heap.size := by omega
        have hov := Lib.hid (hdp.out.row hN'.out)
        have hps := Lib.hid (fun (v6 : Option Addr) (c6 : Nat) (w6 : World) (hg : (w4.alloc (.cells #[.slice a5 n c5] 48)).grownBy w6 (Value.slice a3 N c3).ownBlock) (h5 : w6.ownsRow w.heap.size 48 1 (.slice v6 (N + 1) c6) (N + 1) (headsV hs0_ xss ++ [.slice a5 n c5])) => (hdp.out.kept (below_alloc (.cells #[.slice a5 n c5] 48))).pushN (by decide) (by omega) (by simp only [World.size_alloc]; omega) hxw.out.1 hN'.out hox'.out.1 hg h5)
        clear hd hb hox hod
        go_wp2_with (at_builtin; refine wpList_append_own _ rfl _ _ 51 rfl w.heap.size 48 i0 (.agg #[.slice none 0 0]) 1 24 Try.underlying51 hi hz0 hz1 hz2 rfl (by decide) _ N (headsV hs0_ xss) rfl (hov.out.alloc _) ⟨_, 0, none⟩ 1 1 [.slice a5 n c5] rfl rfl (news_one _ _ _) (one_one rfl) hm63.out (by omega) (by simp only [World.size_alloc]; omega) ?_; intro v6 w6 hown6 hg6 _; have hb6 := (((Below.refl w.heap.size _).alloc hsz4 _).grown hg6 (by simp only [World.size_alloc]; omega) (fun k hk => (hov.out.lt k hk).1)); have hs6 := Lib.hid (hsr.out.below hb6 (by omega)); have hW6 := Lib.hid (hW.out.then_below hb6 (Nat.le_refl _)); have hsz6 := hb6.size; obtain ⟨a6, c6, hv6, _, _⟩ := own_slice hown6; subst hv6; have hod6 := Lib.hid (hps.out _ _ _ hg6 hown6); clear hown6 hg6 hb6 hov hps)
        go_roundw
        case rel => exact ⟨r, a6, c6, xss ++ [x], by rw [List.length_append, List.length_singleton, hN'.out]; omega, by first | go_num | (congr 1; omega), by rw [List.length_append, hN'.out]; rfl, legal_snoc hP.out hxw.out, hod6.out, hs6.out.more (by rw [List.length_append, List.length_singleton, hN'.out]; omega), hW6.out, by omega⟩
        case measure => first | (simp [intOf]; done) | (simp [intOf]; omega)
      · have hd0 : (0 : Int) < (N : Int) := by omega
        have hd1 : 0 < N := by omega
        clear h0
        go_wp2_with fail
        refine (spec_one B a c l _ 4 _ hsr.out (by omega) hl (by omega) (by omega)).mono ?_
        rintro e w1 ⟨b, rfl, hs, hw⟩
        replace hod := Lib.hid ((hod.out.within hw (Or.inr (by omega))).wider (Nat.le_refl _) hw.size)
        replace hW := Lib.hid (hW.out.trans hw)
        replace hsz := Nat.lt_of_lt_of_le hsz hw.size
        replace hsr := Lib.hid hs
        clear hs hw
        cases b
        · go_wp2_with fail
          refine (spec_l03DrawText B a c l _ n _ hsr.out (by omega) hl (by omega)).mono ?_
          rintro e w3 ⟨⟨t, rfl, ht, htc⟩, hs, hw⟩
          replace hod := Lib.hid ((hod.out.within hw (Or.inr (by omega))).wider (Nat.le_refl _) hw.size)
          replace hW := Lib.hid (hW.out.trans hw)
          replace hsz := Nat.lt_of_lt_of_le hsz hw.size
          replace hsr := Lib.hid hs
          have hxw := Lib.hid (show LegalW n (cardT t) from ⟨by rw [cardT_length]; exact ht, cardT_legal htc, cardT_mask htc⟩)
          have hcd := Lib.hid (show Calls Try.prog 121 #[.string t] w3 fun e w' => ∃ a' c', e = .returned (.agg #[.slice a' n c']) ∧ w'.ownsRow w3.heap.size 2 1 (.slice a' n c') n ((cardT t).map (Value.int .i64)) ∧ Below w3.heap.size w3 w' by
            have h := spec_l03Card t w3 (by omega)
            rw [ht] at h
            exact h)
          generalize cardT t = x at *
          clear hs hw ht htc
          go_wp2_with fail
          refine hcd.out.mono ?_
          rintro e w4 ⟨a5, c5, rfl, hox, hb⟩
          obtain ⟨hs0_, hd⟩ := hod.out.parts
          have hdp := Lib.hid (hd.kept hb)
          have hox' := Lib.hid ((OV.of hox).kept (below_alloc (.cells #[.slice a5 n c5] 48)))
          replace hsr := Lib.hid (hsr.out.kept hb)
          replace hW := Lib.hid (hW.out.trans (Within.of_below hb))
          have hM4 : w3.heap.size ≤ w4.heap.size := hb.size
          have hsz4 : w.heap.size ≤ w4.heap.size := by omega
          have hov := Lib.hid (hdp.out.row hN'.out)
          have hps := Lib.hid (fun (v6 : Option Addr) (c6 : Nat) (w6 : World) (hg : (w4.alloc (.cells #[.slice a5 n c5] 48)).grownBy w6 (Value.slice a3 N c3).ownBlock) (h5 : w6.ownsRow w.heap.size 48 1 (.slice v6 (N + 1) c6) (N + 1) (headsV hs0_ xss ++ [.slice a5 n c5])) => (hdp.out.kept (below_alloc (.cells #[.slice a5 n c5] 48))).pushN (by decide) (by omega) (by simp only [World.size_alloc]; omega) hxw.out.1 hN'.out hox'.out.1 hg h5)
          clear hd hb hox hod
          go_wp2_with (at_builtin; refine wpList_append_own _ rfl _ _ 51 rfl w.heap.size 48 i0 (.agg #[.slice none 0 0]) 1 24 Try.underlying51 hi hz0 hz1 hz2 rfl (by decide) _ N (headsV hs0_ xss) rfl (hov.out.alloc _) ⟨_, 0, none⟩ 1 1 [.slice a5 n c5] rfl rfl (news_one _ _ _) (one_one rfl) hm63.out (by omega) (by simp only [World.size_alloc]; omega) ?_; intro v6 w6 hown6 hg6 _; have hb6 := (((Below.refl w.heap.size _).alloc hsz4 _).grown hg6 (by simp only [World.size_alloc]; omega) (fun k hk => (hov.out.lt k hk).1)); have hs6 := Lib.hid (hsr.out.below hb6 (by omega)); have hW6 := Lib.hid (hW.out.then_below hb6 (Nat.le_refl _)); have hsz6 := hb6.size; obtain ⟨a6, c6, hv6, _, _⟩ := own_slice hown6; subst hv6; have hod6 := Lib.hid (hps.out _ _ _ hg6 hown6); clear hown6 hg6 hb6 hov hps)
          go_roundw
          case rel => exact ⟨r, a6, c6, xss ++ [x], by rw [List.length_append, List.length_singleton, hN'.out]; omega, by first | go_num | (congr 1; omega), by rw [List.length_append, hN'.out]; rfl, legal_snoc hP.out hxw.out, hod6.out, hs6.out.more (by rw [List.length_append, List.length_singleton, hN'.out]; omega), hW6.out, by omega⟩
          case measure => first | (simp [intOf]; done) | (simp [intOf]; omega)
        · go_wp2_with fail
          refine (spec_pick B a c l _ (N : Int) _ hsr.out (by omega) hl (by omega) (by omega)).mono ?_
          rintro e w3 ⟨q_, rfl, ⟨q0, q1, _⟩, hs, hw⟩
          replace q1 := q1 (by omega)
          obtain ⟨j, rfl⟩ := Int.eq_ofNat_of_zero_le q0
          have hj : j < xss.length := by rw [hN'.out]; omega
          replace hod := Lib.hid ((hod.out.within hw (Or.inr (by omega))).wider (Nat.le_refl _) hw.size)
          replace hW := Lib.hid (hW.out.trans hw)
          replace hsz := Nat.lt_of_lt_of_le hsz hw.size
          replace hsr := Lib.hid hs
          obtain ⟨x, hxj⟩ := get_some (l := xss) (k := j) hj
          obtain ⟨b1, o1, a1, c1, rfl, hc1, hr1, _⟩ := hod.out.RD.at hxj
          have hxw := Lib.hid (hP.out x (List.mem_of_getElem? hxj))
          rw [hxw.out.1] at hc1
          have how := Lib.hid (spec_l02Own_at b1 (o1 + j) a1 c1 n x w3 hc1 hr1 hxw.out.1 (by omega))
          clear hs hw hxj hc1 hr1 hj q0
          go_wp2_with fail
          refine how.out.mono ?_
          rintro e w4 ⟨a5, c5, rfl, hox, hb⟩
          obtain ⟨hs0_, hd⟩ := hod.out.parts
          have hdp := Lib.hid (hd.kept hb)
          have hox' := Lib.hid ((OV.of hox).kept (below_alloc (.cells #[.slice a5 n c5] 48)))
          replace hsr := Lib.hid (hsr.out.kept hb)
          replace hW := Lib.hid (hW.out.trans (Within.of_below hb))
          have hM4 : w3.heap.size ≤ w4.heap.size := hb.size
          have hsz4 : w.heap.size ≤ w4.heap.size := by omega
          have hov := Lib.hid (hdp.out.row hN'.out)
          have hps := Lib.hid (fun (v6 : Option Addr) (c6 : Nat) (w6 : World) (hg : (w4.alloc (.cells #[.slice a5 n c5] 48)).grownBy w6 (Value.slice (some ⟨b1, o1, none⟩) N c3).ownBlock) (h5 : w6.ownsRow w.heap.size 48 1 (.slice v6 (N + 1) c6) (N + 1) (headsV hs0_ xss ++ [.slice a5 n c5])) => (hdp.out.kept (below_alloc (.cells #[.slice a5 n c5] 48))).pushN (by decide) (by omega) (by simp only [World.size_alloc]; omega) hxw.out.1 hN'.out hox'.out.1 hg h5)
          clear hd hb hox hod
          go_wp2_with (at_builtin; refine wpList_append_own _ rfl _ _ 51 rfl w.heap.size 48 i0 (.agg #[.slice none 0 0]) 1 24 Try.underlying51 hi hz0 hz1 hz2 rfl (by decide) _ N (headsV hs0_ xss) rfl (hov.out.alloc _) ⟨_, 0, none⟩ 1 1 [.slice a5 n c5] rfl rfl (news_one _ _ _) (one_one rfl) hm63.out (by omega) (by simp only [World.size_alloc]; omega) ?_; intro v6 w6 hown6 hg6 _; have hb6 := (((Below.refl w.heap.size _).alloc hsz4 _).grown hg6 (by simp only [World.size_alloc]; omega) (fun k hk => (hov.out.lt k hk).1)); have hs6 := Lib.hid (hsr.out.below hb6 (by omega)); have hW6 := Lib.hid (hW.out.then_below hb6 (Nat.le_refl _)); have hsz6 := hb6.size; obtain ⟨a6, c6, hv6, _, _⟩ := own_slice hown6; subst hv6; have hod6 := Lib.hid (hps.out _ _ _ hg6 hown6); clear hown6 hg6 hb6 hov hps)
          go_roundw
          case rel => exact ⟨r, a6, c6, xss ++ [x], by rw [List.length_append, List.length_singleton, hN'.out]; omega, by first | go_num | (congr 1; omega), by rw [List.length_append, hN'.out]; rfl, legal_snoc hP.out hxw.out, hod6.out, hs6.out.more (by rw [List.length_append, List.length_singleton, hN'.out]; omega), hW6.out, by omega⟩
          case measure => first | (simp [intOf]; done) | (simp [intOf]; omega)
    · obtain rfl : r = 0 := by omega
      go_wp2_with fail
      go_ret
      exact ⟨a3, c3, xss, rfl, by omega, hP.out, hod.out, hsr.out.more (by omega), hW.out⟩
set_option maxHeartbeats 1000000 in
theorem spec_A2Deck (a : Option Addr) (c : Nat) (l : List UInt8) (w : World) (hx : RB w a l) (hl : l.length ≤ 1073741824) :
    Calls Try.prog 43 #[.slice a l.length c] w fun e w' => ∃ (a' : Option Addr) (c' n : Nat) (xss : List (List Int)), e = .returned (.slice a' xss.length c') ∧ xss.length ≤ 8 ∧ 1 ≤ n ∧ n ≤ 3 ∧ (∀ xs ∈ xss, LegalW n xs) ∧ RD w' a' xss ∧ Below w.heap.size w w' := by
  go_enter Try.func43, Try.ntmps43
  go_wp2_with fail
  refine (spec_l00From a c l _ hx).mono ?_
  rintro e w1 ⟨rfl, hs, hb⟩
  have hs' := Lib.hid hs
  have hB1 := Lib.hid hb
  have hlt := hs.lt
  clear hs hb
  go_wp2_with fail
  refine (spec_pick w.heap.size a c l _ 3 _ hs'.out (by omega) hl (by omega) (by omega)).mono ?_
  rintro e w2 ⟨r, rfl, ⟨r0, r1, _⟩, hs2, hw2⟩
  replace r1 := r1 (by omega)
  obtain ⟨q, rfl⟩ := Int.eq_ofNat_of_zero_le r0
  have hw2' := Lib.hid hw2
  have hd1 := Lib.hid (spec_l07Draw w.heap.size a c l _ (q + 1) 8 w2 hs2 (by omega) hl (by omega) (by omega))
  have hcast := Lib.hid (show (1 : Int) + (q : Int) = ((q + 1 : Nat) : Int) by omega)
  clear hs2 hw2
  go_wp2_with fail
  rw [hcast.out]
  refine hd1.out.mono ?_
  rintro e w3 ⟨a3, c3, xss, rfl, hlen, hP, hod, hs3, hw3⟩
  have hw23 := Lib.hid ((hw2'.out.trans hw3).below (B := w.heap.size) hB1.out (Nat.le_refl _) hB1.out.size)
  have hod' := Lib.hid hod
  have hP' := Lib.hid hP
  have hlen' := Lib.hid hlen
  clear hs3 hw3 hod hP hlen hd1
  go_wp2_with fail
  go_ret
  exact ⟨a3, c3, q + 1, xss, rfl, hlen'.out, by omega, by omega, hP'.out, hod'.out.RD, hw23.out⟩
end Go.Proofs.Ytdjggbccdjbcoaa
