/- The walks of the functions that draw texts: each letter that is drawn is a character; nothing but the source is written. -/
import Derived.Test.YtdjggbccdjbcoaaSrc
import Derived.Test.YtdjggbccdjbcoaaTexts
import Derived.Test.YtdjggbccdjbcoaaRanks
import Derived.Test.YtdjggbccdjbcoaaPunch
import Derived.Test.YtdjggbccdjbcoaaApp
import Derived.Laws.AppendOwn
namespace Go.Proofs.Ytdjggbccdjbcoaa
open Go.RowKit
set_option maxRecDepth 100000
set_option linter.unusedVariables false
set_option linter.unusedSimpArgs false
set_option linter.unnecessarySimpa false

def short7 : ByteArray := ⟨#[65, 66, 48, 49, 32, 74, 90]⟩
theorem short7_are : ∀ c ∈ short7.data.toList, charB c.toNat = true := by decide +kernel
theorem chars_snoc {l : List UInt8} {u : UInt8} (h : ∀ c ∈ l, charB c.toNat = true) (hu : charB u.toNat = true) : ∀ c ∈ l ++ [u], charB c.toNat = true := by
  intro c hc; simp only [List.mem_append, List.mem_singleton] at hc; rcases hc with hc | rfl
  · exact h c hc
  · exact hu
theorem char_all {q : Nat} (h : q < 40) : charB ((⟨#[32, 38, 65, 66, 67, 68, 69, 70, 71, 72, 73, 45, 74, 75, 76, 77, 78, 79, 80, 81, 82, 47, 83, 84, 85, 86, 87, 88, 89, 90, 48, 49, 50, 51, 52, 53, 54, 55, 56, 57]⟩ : ByteArray)[q]'h).toNat = true := chars_are _ (List.mem_of_getElem? (chars_get h))
theorem char_7 {q : Nat} (h : q < 7) : charB ((⟨#[65, 66, 48, 49, 32, 74, 90]⟩ : ByteArray)[q]'h).toNat = true := short7_are _ (List.mem_of_getElem? (get_bytes short7 q h))
set_option maxHeartbeats 4000000 in
theorem spec_l03DrawText (B : Nat) (a : Option Addr) (c : Nat) (l : List UInt8) (k0 n : Nat) (w : World) (h : SrcIs w B a c l k0) (hk0 : k0 ≤ 536870912) (hl : l.length ≤ 1073741824) (hn : n ≤ 1048576) :
    Calls Try.prog 77 #[.pointer (some ⟨B, 0, none⟩), .int .i64 n] w fun e w' => (∃ t : ByteArray, e = .returned (.string t) ∧ t.size = n ∧ charsB t = true) ∧ SrcIs w' B a c l (k0 + 4 * n) ∧ Within B (B + 1) w w' := by
  have hBl := h.lt
  have h' := Lib.hid h
  clear h
  obtain ⟨i0, hi, hz0, hz1, hz2⟩ := info_parts Try.info_byte
  have hown0 := World.ownsRow_lit (base := w.heap.size) (e := 5) (size := 1) w #[] 0 (Nat.le_refl _) (by simp [maxLen]) rfl
  have hba := Lib.hid (below_alloc (w := w) (.cells #[] 5))
  go_enter Try.func77, Try.ntmps77
  go_wp2_with (first | (go_at_call 112; ((with_reducible refine (spec_l03Order _).mono ?_); rintro e w' ⟨rfl, rfl⟩)))
  go_loopw [6, 7] (fun v i wr => ∃ (k : Nat) (a' : Option Addr) (c' : Nat) (t : List UInt8), k ≤ n ∧ i = .int .i64 k ∧ t.length = k ∧ v = .slice a' t.length c' ∧ a' ≠ none ∧ (∀ u ∈ t, charB u.toNat = true) ∧ OV w.heap.size wr.heap.size wr 5 1 a' t.length c' (t.map byteV) ∧ SrcIs wr B a c l (k0 + 4 * k) ∧ Within B (B + 1) w wr ∧ w.heap.size ≤ wr.heap.size) (fun _ i _ => n - (intOf i).toNat)
  case atStart => exact ⟨0, _, _, [], by omega, rfl, rfl, rfl, by simp, by simp, OV.of hown0, h'.out.kept hba.out, Within.of_below hba.out, hba.out.size⟩
  case round =>
    obtain ⟨k, a3, c3, t, hk, rfl, htk, rfl, hne3, hP0, hown, hsr, hW, hsz⟩ := hrel
    have hP := Lib.hid hP0
    have htk' := Lib.hid htk
    have htn : t.length ≤ 1048576 := by omega
    replace hsr := Lib.hid hsr
    replace hW := Lib.hid hW
    replace hown := Lib.hid hown
    have hm63 := Lib.hid (show t.length + 1 ≤ maxLen by unfold maxLen; omega)
    clear hP0 htk
    by_cases hlt : k < n
    · have hlt' : (k : Int) < (n : Int) := by omega
      go_wp2_with fail
      refine (spec_one B a c l _ 3 _ hsr.out (by omega) hl (by omega) (by omega)).mono ?_
      rintro e w1 ⟨b, rfl, hs, hw⟩
      replace hown := Lib.hid (hown.out.within hw (Or.inr (by omega)))
      replace hW := Lib.hid (hW.out.trans hw)
      replace hsz := Nat.le_trans hsz hw.size
      replace hsr := Lib.hid hs
      clear hs hw
      cases b
      · go_wp2_with fail
        refine (spec_pick B a c l _ 7 _ hsr.out (by omega) hl (by omega) (by omega)).mono ?_
        rintro e w2 ⟨r, rfl, ⟨r0, r1, _⟩, hs, hw⟩
        replace r1 := r1 (by omega)
        obtain ⟨q, rfl⟩ := Int.eq_ofNat_of_zero_le r0
        have hq : q < 7 := by omega
        replace hown := Lib.hid (hown.out.within hw (Or.inr (by omega)))
        replace hW := Lib.hid (hW.out.trans hw)
        replace hsz := Nat.le_trans hsz hw.size
        replace hsr := Lib.hid hs
        clear hs hw
        have hown0 := hown.out.1
        go_wp2_with (at_builtin; refine wpList_append_own _ rfl _ _ 44 rfl w.heap.size 5 i0 (.int .u8 0) 1 1 Try.underlying44 hi hz0 hz1 hz2 rfl (by decide) _ t.length (t.map byteV) rfl (hown0.alloc _) ⟨_, 0, none⟩ 1 1 [.int .u8 (((⟨#[65, 66, 48, 49, 32, 74, 90]⟩ : ByteArray)[q]'hq).toNat : Int)] rfl rfl (news_one _ _ _) (one_one rfl) hm63.out (by omega) (by simp only [World.size_alloc]; omega) ?_; intro v5 w5 hown5 hg5 _; have hb5 := (((Below.refl w.heap.size _).alloc hsz _).grown hg5 (by simp only [World.size_alloc]; omega) (fun k hk => (hown0.lt k hk).1)); have hs5 := Lib.hid (hsr.out.below hb5 (by omega)); have hW5 := Lib.hid (hW.out.then_below hb5 (Nat.le_refl _)); have hsz5 := hb5.size; obtain ⟨a5, c5, hv5, _, _⟩ := own_slice hown5; subst hv5; have hown5' := Lib.hid hown5; clear hown5 hg5 hb5 hown0)
        go_roundw
        case rel =>
          refine ⟨k + 1, a5, c5, t ++ [((⟨#[65, 66, 48, 49, 32, 74, 90]⟩ : ByteArray)[q]'hq)], by omega, by go_num, by rw [List.length_append, htk'.out]; rfl, by rw [List.length_append]; rfl, own_some hown5'.out (by omega), chars_snoc hP.out (char_7 hq), ?_, hs5.out.more (by omega), hW5.out, by omega⟩
          have h9 := hown5'.out
          rw [List.length_append, List.map_append]
          exact OV.of h9
        case measure => simp [intOf]; omega
      · go_wp2_with fail
        refine (spec_pick B a c l _ 40 _ hsr.out (by omega) hl (by omega) (by omega)).mono ?_
        rintro e w2 ⟨r, rfl, ⟨r0, r1, _⟩, hs, hw⟩
        replace r1 := r1 (by omega)
        obtain ⟨q, rfl⟩ := Int.eq_ofNat_of_zero_le r0
        have hq : q < 40 := by omega
        replace hown := Lib.hid (hown.out.within hw (Or.inr (by omega)))
        replace hW := Lib.hid (hW.out.trans hw)
        replace hsz := Nat.le_trans hsz hw.size
        replace hsr := Lib.hid hs
        clear hs hw
        have hown0 := hown.out.1
        go_wp2_with (at_builtin; refine wpList_append_own _ rfl _ _ 44 rfl w.heap.size 5 i0 (.int .u8 0) 1 1 Try.underlying44 hi hz0 hz1 hz2 rfl (by decide) _ t.length (t.map byteV) rfl (hown0.alloc _) ⟨_, 0, none⟩ 1 1 [.int .u8 (((⟨#[32, 38, 65, 66, 67, 68, 69, 70, 71, 72, 73, 45, 74, 75, 76, 77, 78, 79, 80, 81, 82, 47, 83, 84, 85, 86, 87, 88, 89, 90, 48, 49, 50, 51, 52, 53, 54, 55, 56, 57]⟩ : ByteArray)[q]'hq).toNat : Int)] rfl rfl (news_one _ _ _) (one_one rfl) hm63.out (by omega) (by simp only [World.size_alloc]; omega) ?_; intro v5 w5 hown5 hg5 _; have hb5 := (((Below.refl w.heap.size _).alloc hsz _).grown hg5 (by simp only [World.size_alloc]; omega) (fun k hk => (hown0.lt k hk).1)); have hs5 := Lib.hid (hsr.out.below hb5 (by omega)); have hW5 := Lib.hid (hW.out.then_below hb5 (Nat.le_refl _)); have hsz5 := hb5.size; obtain ⟨a5, c5, hv5, _, _⟩ := own_slice hown5; subst hv5; have hown5' := Lib.hid hown5; clear hown5 hg5 hb5 hown0)
        go_roundw
        case rel =>
          refine ⟨k + 1, a5, c5, t ++ [((⟨#[32, 38, 65, 66, 67, 68, 69, 70, 71, 72, 73, 45, 74, 75, 76, 77, 78, 79, 80, 81, 82, 47, 83, 84, 85, 86, 87, 88, 89, 90, 48, 49, 50, 51, 52, 53, 54, 55, 56, 57]⟩ : ByteArray)[q]'hq)], by omega, by go_num, by rw [List.length_append, htk'.out]; rfl, by rw [List.length_append]; rfl, own_some hown5'.out (by omega), chars_snoc hP.out (char_all hq), ?_, hs5.out.more (by omega), hW5.out, by omega⟩
          have h9 := hown5'.out
          rw [List.length_append, List.map_append]
          exact OV.of h9
        case measure => simp [intOf]; omega
    · obtain rfl : k = n := by omega
      have hrow : RB wr a3 t := hown.out.row
      have hcv := run_text (P := Try.prog) wr 44 9 5 a3 c3 t Try.underlying44 Try.underlying5 Try.underlying9 hne3 hrow
      have hrow' := Lib.hid hrow
      clear hrow
      go_wp2_with fail
      go_ret
      exact ⟨⟨⟨t.toArray⟩, rfl, by rw [← htk'.out]; rfl, by unfold charsB; rw [List.all_eq_true]; exact fun u hu => hP.out u (by simpa using hu)⟩, hsr.out, hW.out⟩
theorem spec_A2Text (a : Option Addr) (c : Nat) (l : List UInt8) (w : World) (hx : RB w a l) (hl : l.length ≤ 1073741824) :
    Calls Try.prog 28 #[.slice a l.length c] w fun e w' => (∃ t : ByteArray, e = .returned (.string t) ∧ t.size ≤ 8 ∧ charsB t = true) ∧ Below w.heap.size w w' := by
  go_enter Try.func28, Try.ntmps28
  go_wp2_with fail
  refine (spec_l00From a c l _ hx).mono ?_
  rintro e w1 ⟨rfl, hs, hb⟩
  have hs' := Lib.hid hs
  have hB1 := Lib.hid hb
  have hlt := hs.lt
  clear hs hb
  go_wp2_with fail
  refine (spec_pick w.heap.size a c l _ 9 _ hs'.out (by omega) hl (by omega) (by omega)).mono ?_
  rintro e w2 ⟨r, rfl, ⟨r0, r1, _⟩, hs2, hw2⟩
  replace r1 := r1 (by omega)
  obtain ⟨q, rfl⟩ := Int.eq_ofNat_of_zero_le r0
  have hw2' := Lib.hid hw2
  have hd1 := Lib.hid (spec_l03DrawText w.heap.size a c l _ q w2 hs2 (by omega) hl (by omega))
  clear hs2 hw2
  go_wp2_with fail
  refine hd1.out.mono ?_
  rintro e w3 ⟨⟨t, rfl, ht, hc⟩, hs3, hw3⟩
  have hw23 := Lib.hid ((hw2'.out.trans hw3).below (B := w.heap.size) hB1.out (Nat.le_refl _) hB1.out.size)
  have ht' := Lib.hid ht
  have hc' := Lib.hid hc
  clear hs3 hw3 ht hc hd1
  go_wp2_with fail
  go_ret
  exact ⟨⟨t, rfl, by rw [ht'.out]; omega, hc'.out⟩, hw23.out⟩
end Go.Proofs.Ytdjggbccdjbcoaa
