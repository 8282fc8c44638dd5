/- The walks of the functions that read texts off cards and that tell illegal columns: what each returns, and that memory has at most new blocks. Plain lemmas for the laws: texts on cards and illegal columns. No program in sight. Plain lemmas for the laws: characters, holes and ranks; texts that are punched and read. No program in sight. The walks of the functions that draw decks: every card has the width asked for, and its columns have characters. -/
import Derived.Test.YtmpfnkheohlmiaaGreatDoorQA
import Derived.Test.YtmpfnkheohlmiaaGreatDoorQD
import Derived.Test.YtmpfnkheohlmiaaGreatDoorQE
import Derived.Test.YtmpfnkheohlmiaaGreatDoorQC
import Derived.Laws.IdiomStrings
import Derived.Test.YtmpfnkheohlmiaaGreatDoorQF
import Derived.Deep.RegionLaw
namespace Go.Proofs.YtmpfnkheohlmiaaGreatDoor
open Go.RowKit
set_option maxRecDepth 100000
set_option linter.unusedVariables false
set_option linter.unusedSimpArgs false
set_option linter.unnecessarySimpa false

/-- has a column a character? -/
def legalB (m : Int) : Bool := decide (0 ≤ rankM m)
def legalL (xs : List Int) : Bool := xs.all legalB
/-- the columns that have none -/
def illL (xs : List Int) (k : Nat) : List Int := ((List.range k).filter fun j => !legalB (xs.getD j 0)).map Int.ofNat
theorem illL_zero (xs : List Int) : illL xs 0 = [] := rfl
theorem illL_yes {xs : List Int} {k : Nat} {x : Int} (h : xs[k]? = some x) (hx : rankM x < 0) : illL xs (k + 1) = illL xs k ++ [(k : Int)] := by
  unfold illL
  rw [List.range_succ, List.filter_append, List.map_append]
  simp [List.getD_eq_getElem?_getD, h, legalB, hx]
theorem illL_no {xs : List Int} {k : Nat} {x : Int} (h : xs[k]? = some x) (hx : ¬ rankM x < 0) : illL xs (k + 1) = illL xs k := by
  unfold illL
  rw [List.range_succ, List.filter_append, List.map_append]
  simp [List.getD_eq_getElem?_getD, h, legalB]; omega
theorem illL_len (xs : List Int) (k : Nat) : (illL xs k).length ≤ k := by
  unfold illL; rw [List.length_map]
  exact Nat.le_trans (List.length_filter_le _ _) (by simp)
def illegalL (xs : List Int) : List Int := if validCardL xs then illL xs xs.length else []
def validCode (xs : List Int) : Int := if validCardL xs then 0 else 1
theorem illegal_bad {xs : List Int} (h : validCardL xs = false) : illegalL xs = [] ∧ validCode xs = 1 := by unfold illegalL validCode; rw [h]; exact ⟨rfl, rfl⟩
theorem illegal_ok {xs : List Int} (h : validCardL xs = true) : illegalL xs = illL xs xs.length ∧ validCode xs = 0 := by unfold illegalL validCode; rw [h]; exact ⟨rfl, rfl⟩
theorem illegalL_len (xs : List Int) : (illegalL xs).length ≤ 1048576 := by
  cases h : validCardL xs
  · rw [(illegal_bad h).1]; simp
  · rw [(illegal_ok h).1]; have := illL_len xs xs.length; have := validCard_len h; omega
/-! ### texts -/
def chU (m : Int) : UInt8 := UInt8.ofNat (charM m).toNat
theorem chU_is {m : Int} (h : 0 ≤ rankM m) : ((chU m).toNat : Int) = charM m := by
  obtain ⟨_, h1, h2, _⟩ := charM_is h
  unfold chU
  rw [UInt8.toNat_ofNat', Nat.mod_eq_of_lt (by omega)]; omega
def textL (xs : List Int) : List UInt8 := xs.map chU
def textS (xs : List Int) : ByteArray := ⟨(textL xs).toArray⟩
theorem textL_length (xs : List Int) : (textL xs).length = xs.length := by simp [textL]
theorem textL_take {xs : List Int} {k : Nat} {x : Int} (h : xs[k]? = some x) : textL (xs.take (k + 1)) = textL (xs.take k) ++ [chU x] := by
  unfold textL; rw [List.take_add_one, h]; simp
theorem textS_size (xs : List Int) : (textS xs).size = xs.length := by
  show (textL xs).toArray.size = _
  simp [textL]
def textOrS (xs : List Int) : ByteArray := if legalL xs then textS xs else ⟨#[]⟩
def readS (xs : List Int) : ByteArray := if validCardL xs then textOrS xs else ⟨#[]⟩
def readCode (xs : List Int) : Int := if validCardL xs then (if legalL xs then 0 else 8) else 1
theorem read_bad {xs : List Int} (h : validCardL xs = false) : readS xs = ⟨#[]⟩ ∧ readCode xs = 1 := by unfold readS readCode; rw [h]; exact ⟨rfl, rfl⟩
theorem read_not {xs : List Int} (h : validCardL xs = true) (h2 : legalL xs = false) : readS xs = ⟨#[]⟩ ∧ readCode xs = 8 := by unfold readS readCode textOrS; rw [h, h2]; exact ⟨rfl, rfl⟩
theorem read_ok {xs : List Int} (h : validCardL xs = true) (h2 : legalL xs = true) : readS xs = textS xs ∧ readCode xs = 0 := by unfold readS readCode textOrS; rw [h, h2]; exact ⟨rfl, rfl⟩
theorem legal_at {xs : List Int} {k : Nat} {x : Int} (h : legalL xs = true) (hx : xs[k]? = some x) : 0 ≤ rankM x := by
  have := List.all_eq_true.1 h x (List.mem_of_getElem? hx)
  simpa [legalB] using this
theorem impl_hasCharacters_1 (x : Int) (w : World) : Calls Tryz.prog 148 #[.int .i64 x] w fun e w' => e = .returned (.bool (!legalB x)) ∧ w = w' := by
  have hl : Hid (legalB x = decide (0 ≤ rankM x)) := Lib.hid rfl
  go_enter Tryz.func148, Tryz.ntmps148
  go_wp2_with (go_at_call 132; ((with_reducible refine (impl_rankOf _ _).mono ?_); rintro e w' ⟨rfl, rfl⟩))
  go_ret
  exact ⟨ret_bool (by rw [hl.out]; by_cases h : rankM x < 0 <;> simp [h] <;> omega), rfl⟩
theorem impl_hasCharacters (a : Option Addr) (c : Nat) (xs : List Int) (w : World) (hx : RI w a xs) (hn : xs.length ≤ maxLen) :
    Calls Tryz.prog 127 #[.slice a xs.length c] w fun e w' => e = .returned (.bool (legalL xs)) ∧ Below w.heap.size w w' := by
  have eg := Go.Proofs.enters_of Tryz.func148 (by kernel_rfl) rfl
  have hc := Lib.hid (slices_ContainsFunc_ints 148 #[] (fun m => !legalB m) a c xs w hx hn eg (fun x W hb => (impl_hasCharacters_1 x W).mono fun _ _ h => ⟨h.1, by rw [← h.2]; exact Below.refl _ _⟩))
  have hl : Hid (legalL xs = !(xs.any fun m => !legalB m)) := Lib.hid (by unfold legalL; rw [List.not_any_eq_all_not]; simp)
  go_enter Tryz.func127, Tryz.ntmps127
  go_wp2_with (go_at_call 90; ((with_reducible refine hc.out.mono ?_); rintro e w' ⟨rfl, hb⟩))
  go_ret
  exact ⟨ret_bool (by rw [hl.out]), hb⟩
set_option maxHeartbeats 400000 in
theorem impl_textOf (a : Option Addr) (c : Nat) (xs : List Int) (w : World) (hx : RI w a xs) (hn : xs.length ≤ 1048576) (hl : legalL xs = true) :
    Calls Tryz.prog 95 #[.slice a xs.length c] w fun e w' => e = .returned (.string (textS xs)) ∧ Below w.heap.size w w' := by
  obtain ⟨i0, hi, hz0, hz1, hz2⟩ := info_parts Tryz.info_byte
  have hl' := Lib.hid hl
  have hown0 := World.ownsRow_lit (base := w.heap.size) (e := 5) (size := 1) w #[] 0 (Nat.le_refl _) (by simp [maxLen]) rfl
  generalize hN : xs.length = n at *
  have hN' := Lib.hid hN
  clear hN hl
  go_enter Tryz.func95, Tryz.ntmps95
  go_wp2_with fail
  go_loopw [3, 9] (fun v i wr => ∃ (k : Nat) (a' : Option Addr) (c' : Nat), k ≤ n ∧ i = .int .i64 k ∧ v = .slice a' k c' ∧ a' ≠ none ∧ wr.ownsRow w.heap.size 5 1 (.slice a' k c') k ((textL (xs.take k)).map byteV) ∧ Below w.heap.size w wr) (fun _ i _ => n - (intOf i).toNat)
  case atStart => exact ⟨0, _, _, by omega, rfl, rfl, by simp, hown0, below_alloc _⟩
  case round =>
    obtain ⟨k, a3, c3, hk, rfl, rfl, hne, hown, hb⟩ := hrel
    by_cases hlt : k < n
    · obtain ⟨x, hxk⟩ := get_some (l := xs) (k := k) (by rw [hN'.out]; exact hlt)
      obtain ⟨b1, o1, rfl, hc1⟩ := (hx.kept hb).at hxk
      have hs := Lib.hid (textL_take hxk)
      have hrk := legal_at hl'.out hxk
      obtain ⟨q, hq⟩ := Int.eq_ofNat_of_zero_le hrk
      have hq40 : q < 40 := by have := rankM_ge x; omega
      have hch := Lib.hid ((char_at hq hq40).symm.trans (chU_is hrk).symm)
      have hq' := Lib.hid hq
      clear hxk hrk hq
      go_wp2_with (first | (go_at_call 132; refine (impl_rankOf x _).mono ?_; rintro e w' ⟨rfl, rfl⟩; rw [hq'.out]) | (at_builtin; refine wpList_append_own _ rfl _ _ 22 rfl (w.heap.size) 5 i0 (.int .u8 0) 1 1 Tryz.underlying22 hi hz0 hz1 hz2 rfl (by decide) _ (k) ((textL (xs.take k)).map byteV) rfl (hown.alloc _) ⟨_, 0, none⟩ 1 1 [.int .u8 (((⟨#[32, 38, 65, 66, 67, 68, 69, 70, 71, 72, 73, 45, 74, 75, 76, 77, 78, 79, 80, 81, 82, 47, 83, 84, 85, 86, 87, 88, 89, 90, 48, 49, 50, 51, 52, 53, 54, 55, 56, 57]⟩ : ByteArray)[q]'hq40).toNat : Int)] rfl rfl (news_one _ _ _) (one_one rfl) (by (have hq0 := hk); simp only [maxLen]; omega) (by (have hq0 := hk); omega) (by (have hq0 := hb.size); simp only [World.size_alloc]; omega) ?_; intro v1 w1 hown1 hgrow1 _; have hbq := Lib.hid (app_below hb hb.size hown (by first | exact Nat.le_refl _ | omega) hgrow1); obtain ⟨a1, c1, hv1, _, _⟩ := own_slice hown1; subst hv1; have hownq := Lib.hid hown1; clear hown1 hgrow1))
      go_roundw
      case rel => exact ⟨k + 1, a1, c1, by omega, by go_num, rfl, own_some hownq.out (by omega), by rw [hs.out, List.map_append]; have h9 := hownq.out; rw [hch.out] at h9; exact h9, hbq.out⟩
      case measure => simp [intOf]; omega
    · have e : k = n := by omega
      subst e
      have htk : xs.take k = xs := List.take_of_length_le (by rw [hN'.out]; exact Nat.le_refl _)
      rw [htk] at hown
      have hrow : RB wr a3 (textL xs) := by
        obtain ⟨a', c', hv, hr, _⟩ := own_slice hown
        simp only [Value.slice.injEq] at hv
        obtain ⟨rfl, _, _⟩ := hv
        exact hr
      have hcv := run_text (P := Tryz.prog) wr 22 9 5 a3 c3 (textL xs) Tryz.underlying22 Tryz.underlying5 Tryz.underlying9 hne hrow
      rw [textL_length, hN'.out] at hcv
      have hfin := Lib.hid (show (⟨(textL xs).toArray⟩ : ByteArray) = textS xs from rfl)
      go_wp2_with fail
      go_ret
      exact ⟨by rw [hfin.out]; rfl, hb⟩
theorem all_upto {xs : List Int} {k : Nat} {x : Int} (h : Hid ((xs.take k).all legalB = true)) (hx : xs[k]? = some x) (hk : 0 ≤ rankM x) : Hid ((xs.take (k + 1)).all legalB = true) := all_succ hx h.out (by simpa [legalB] using hk)
theorem textOr_no {xs : List Int} {k : Nat} {x : Int} (hx : xs[k]? = some x) (h : ¬ 0 ≤ rankM x) : textOrS xs = ⟨#[]⟩ ∧ legalL xs = false := by
  have : legalL xs = false := all_not hx (by simpa [legalB] using h)
  unfold textOrS; rw [this]; exact ⟨rfl, rfl⟩
theorem textOr_yes {xs : List Int} (h : legalL xs = true) : textOrS xs = textS xs := by unfold textOrS; rw [h]; rfl
set_option maxHeartbeats 400000 in
theorem spec_l03Text (a : Option Addr) (c : Nat) (xs : List Int) (w : World) (hx : RI w a xs) (hn : xs.length ≤ 1048576) :
    Calls Tryz.prog 99 #[.slice a xs.length c] w fun e w' => e = .returned (.tuple #[.string (textOrS xs), .bool (legalL xs)]) ∧ Below w.heap.size w w' := by
  obtain ⟨i0, hi, hz0, hz1, hz2⟩ := info_parts Tryz.info_byte
  have hown0 := World.ownsRow_lit (base := w.heap.size) (e := 5) (size := 1) w #[] 0 (Nat.le_refl _) (by simp [maxLen]) rfl
  generalize hN : xs.length = n at *
  have hN' := Lib.hid hN
  clear hN
  go_enter Tryz.func99, Tryz.ntmps99
  go_wp2_with fail
  go_loopw [4, 5] (fun v i wr => ∃ (k : Nat) (a' : Option Addr) (c' : Nat), k ≤ n ∧ i = .int .i64 k ∧ v = .slice a' k c' ∧ a' ≠ none ∧ wr.ownsRow w.heap.size 5 1 (.slice a' k c') k ((textL (xs.take k)).map byteV) ∧ Hid ((xs.take k).all legalB = true) ∧ Below w.heap.size w wr) (fun _ i _ => n - (intOf i).toNat)
  case atStart => exact ⟨0, _, _, by omega, rfl, rfl, by simp, hown0, Lib.hid rfl, below_alloc _⟩
  case round =>
    obtain ⟨k, a3, c3, hk, rfl, rfl, hne, hown, hall, hb⟩ := hrel
    by_cases hlt : k < n
    · obtain ⟨x, hxk⟩ := get_some (l := xs) (k := k) (by rw [hN'.out]; exact hlt)
      obtain ⟨b1, o1, rfl, hc1⟩ := (hx.kept hb).at hxk
      by_cases hrk : 0 ≤ rankM x
      · have hs := Lib.hid (textL_take hxk)
        have hd := Lib.hid (show decide (0 ≤ rankM x) = true from decide_eq_true hrk)
        have hch := Lib.hid (chU_is hrk).symm
        have hall' := all_upto hall hxk hrk
        clear hxk hrk
        go_wp2_with (first | (go_at_call 134; ((with_reducible refine (spec_l03Char _ _).mono ?_); rintro e w' ⟨rfl, rfl⟩; rw [hd.out])) | (at_builtin; refine wpList_append_own _ rfl _ _ 22 rfl (w.heap.size) 5 i0 (.int .u8 0) 1 1 Tryz.underlying22 hi hz0 hz1 hz2 rfl (by decide) _ (k) ((textL (xs.take k)).map byteV) rfl (hown.alloc _) ⟨_, 0, none⟩ 1 1 [.int .u8 (charM x)] rfl rfl (news_one _ _ _) (one_one rfl) (by (have hq0 := hk); simp only [maxLen]; omega) (by (have hq0 := hk); omega) (by (have hq0 := hb.size); simp only [World.size_alloc]; omega) ?_; intro v1 w1 hown1 hgrow1 _; have hbq := Lib.hid (app_below hb hb.size hown (by first | exact Nat.le_refl _ | omega) hgrow1); obtain ⟨a1, c1, hv1, _, _⟩ := own_slice hown1; subst hv1; have hownq := Lib.hid hown1; clear hown1 hgrow1))
        go_roundw
        case rel => exact ⟨k + 1, a1, c1, by omega, by go_num, rfl, own_some hownq.out (by omega), by rw [hs.out, List.map_append]; have h9 := hownq.out; rw [hch.out] at h9; exact h9, hall', hbq.out⟩
        case measure => simp [intOf]; omega
      · have hd := Lib.hid (show decide (0 ≤ rankM x) = false from decide_eq_false hrk)
        have hf := Lib.hid (textOr_no hxk hrk)
        clear hxk hrk
        go_wp2_with (go_at_call 134; ((with_reducible refine (spec_l03Char _ _).mono ?_); rintro e w' ⟨rfl, rfl⟩; rw [hd.out]))
        go_ret2
        exact ⟨by rw [hf.out.1, hf.out.2]; rfl, hb⟩
    · have e : k = n := by omega
      subst e
      have htk : xs.take k = xs := List.take_of_length_le (by rw [hN'.out]; exact Nat.le_refl _)
      rw [htk] at hown hall
      have hrow : RB wr a3 (textL xs) := by
        obtain ⟨a', c', hv, hr, _⟩ := own_slice hown
        simp only [Value.slice.injEq] at hv
        obtain ⟨rfl, _, _⟩ := hv
        exact hr
      have hcv := run_text (P := Tryz.prog) wr 22 9 5 a3 c3 (textL xs) Tryz.underlying22 Tryz.underlying5 Tryz.underlying9 hne hrow
      rw [textL_length, hN'.out] at hcv
      have hfin := Lib.hid (show (⟨(textL xs).toArray⟩ : ByteArray) = textOrS xs from (textOr_yes hall.out).symm)
      have hfin2 := Lib.hid (show legalL xs = true from hall.out)
      go_wp2_with fail
      go_ret2
      exact ⟨by rw [← hfin.out, hfin2.out]; rfl, hb⟩
end Go.Proofs.YtmpfnkheohlmiaaGreatDoor
namespace Go.Proofs.YtmpfnkheohlmiaaGreatDoor
open Go.RowKit
set_option linter.unusedVariables false
set_option linter.unusedSimpArgs false
set_option linter.unnecessarySimpa false

theorem ill_mem {xs : List Int} {n k : Nat} {v : Int} (h : (illL xs n)[k]? = some v) : ∃ j : Nat, v = j ∧ j < n ∧ legalB (xs.getD j 0) = false := by
  have hm := List.mem_of_getElem? h
  unfold illL at hm
  rw [List.mem_map] at hm
  obtain ⟨j, hj, rfl⟩ := hm
  rw [List.mem_filter, List.mem_range] at hj
  exact ⟨j, rfl, hj.1, by simpa using hj.2⟩
theorem ill_rise (xs : List Int) (n : Nat) : (illL xs n).Pairwise (· < ·) := by
  unfold illL
  rw [List.pairwise_map]
  refine (List.pairwise_lt_range.sublist List.filter_sublist).imp ?_
  intro a b h
  exact Int.ofNat_lt.2 h
theorem ill_next {xs : List Int} {n k : Nat} {u v : Int} (hu : (illL xs n)[k]? = some u) (hv : (illL xs n)[k + 1]? = some v) : u < v := by
  obtain ⟨h1, e1⟩ := List.getElem?_eq_some_iff.1 hu
  obtain ⟨h2, e2⟩ := List.getElem?_eq_some_iff.1 hv
  have := List.pairwise_iff_getElem.1 (ill_rise xs n) k (k + 1) h1 h2 (Nat.lt_succ_self k)
  rwa [e1, e2] at this
theorem ill_nil {xs : List Int} (h : legalL xs = true) : illL xs xs.length = [] := by
  unfold illL
  rw [List.map_eq_nil_iff, List.filter_eq_nil_iff]
  intro j hj
  rw [List.mem_range] at hj
  unfold legalL at h
  rw [List.all_eq_true] at h
  have := h xs[j] (List.getElem_mem hj)
  simp [List.getD_eq_getElem?_getD, hj, this]
theorem ill_some {xs : List Int} (h : legalL xs = false) : 0 < (illL xs xs.length).length := by
  unfold legalL at h
  rw [List.all_eq_false] at h
  obtain ⟨x, hx, hl⟩ := h
  obtain ⟨j, hj, rfl⟩ := List.getElem_of_mem hx
  have hm : (j : Int) ∈ illL xs xs.length := by
    unfold illL
    rw [List.mem_map]
    refine ⟨j, ?_, rfl⟩
    rw [List.mem_filter, List.mem_range]
    exact ⟨hj, by simp [List.getD_eq_getElem?_getD, hj, hl]⟩
  exact List.length_pos_of_mem hm
theorem code0_chU {m : Int} (h : 0 ≤ rankM m) : code0 (chU m).toNat = m := by
  obtain ⟨h1, _, _, h4⟩ := charM_is h
  rw [chU_is h, code0_yes h4, h1]
theorem text_codes {xs : List Int} (h : legalL xs = true) : (textL xs).map (fun c => code0 c.toNat) = xs := by
  unfold textL
  rw [List.map_map]
  have : ∀ x ∈ xs, ((fun c : UInt8 => code0 c.toNat) ∘ chU) x = id x := by
    intro x hx
    unfold legalL at h
    rw [List.all_eq_true] at h
    exact code0_chU (by simpa [legalB] using h x hx)
  rw [List.map_congr_left this, List.map_id]
theorem text_chars {xs : List Int} (h : legalL xs = true) : charsB (textS xs) = true := by
  unfold charsB textS
  rw [List.all_eq_true]
  intro c hc
  simp only at hc
  unfold textL at hc
  rw [List.mem_map] at hc
  obtain ⟨x, hx, rfl⟩ := hc
  unfold legalL at h
  rw [List.all_eq_true] at h
  have h0 : 0 ≤ rankM x := by simpa [legalB] using h x hx
  rw [chU_is h0]
  exact (charM_is h0).2.2.2
theorem punch_read {xs : List Int} (hv : validCardL xs = true) (h : legalL xs = true) : punchTextCode (textS xs) xs.length = 0 ∧ punchTextL (textS xs) xs.length = xs := by
  have hl := validCard_len hv
  have hs := textS_size xs
  obtain ⟨h1, h2⟩ := pt_ok (s := textS xs) (n := xs.length) (inB_true.2 ⟨by omega, by omega⟩) (by omega) (text_chars h)
  refine ⟨h1, ?_⟩
  rw [h2, hs]
  unfold punchUp
  have ht : (textS xs).data.toList = textL xs := rfl
  rw [ht, List.take_of_length_le (by rw [textL_length]; exact Nat.le_refl _), text_codes h]
  simp
end Go.Proofs.YtmpfnkheohlmiaaGreatDoor
namespace Go.Proofs.YtmpfnkheohlmiaaGreatDoor
open Go.RowKit
set_option linter.unusedVariables false
set_option linter.unusedSimpArgs false
set_option linter.unnecessarySimpa false

theorem char_back_dec : ∀ c : Fin 256, charB c.val = true → charM (code0 c.val) = c.val ∧ 0 ≤ rankM (code0 c.val) ∧ 0 ≤ rank0 c.val ∧ rank0 c.val ≤ 39 ∧ ((chars.getD (rank0 c.val).toNat 0).toNat : Int) = c.val := by decide +kernel
theorem char_back (u : UInt8) (h : charB u.toNat = true) : charM (code0 u.toNat) = u.toNat ∧ 0 ≤ rankM (code0 u.toNat) ∧ 0 ≤ rank0 u.toNat ∧ rank0 u.toNat ≤ 39 ∧ ((chars.getD (rank0 u.toNat).toNat 0).toNat : Int) = u.toNat :=
  char_back_dec ⟨u.toNat, UInt8.toNat_lt u⟩ h
theorem rank_inj {u v : UInt8} (hu : charB u.toNat = true) (hv : charB v.toNat = true) (h : rank0 u.toNat = rank0 v.toNat) : (u.toNat : Int) = v.toNat := by
  have h1 := (char_back u hu).2.2.2.2
  have h2 := (char_back v hv).2.2.2.2
  rw [h] at h1
  exact h1.symm.trans h2
theorem blank_char : 0 ≤ rankM 0 ∧ chU 0 = 32 := by decide +kernel
def colsT (t : ByteArray) : List Int := (t.data.toList.map fun c => code0 c.toNat) ++ [0]
theorem colsT_is (t : ByteArray) : punchUp t (t.size + 1) t.size = colsT t := by
  unfold punchUp colsT
  rw [List.take_of_length_le (by rw [len_bytes]; exact Nat.le_refl _), show t.size + 1 - t.size = 1 by omega]
  rfl
theorem colsT_length (t : ByteArray) : (colsT t).length = t.size + 1 := by
  unfold colsT; rw [List.length_append, List.length_map, len_bytes]; rfl
theorem code0_mask (u : UInt8) : 0 ≤ code0 u.toNat ∧ code0 u.toNat ≤ 4095 := by
  have hb := byte_bd u
  have := codeI_ge hb.1 hb.2
  unfold code0; split <;> omega
theorem colsT_valid {t : ByteArray} (h : t.size ≤ 8) : validCardL (colsT t) = true := by
  unfold validCardL
  rw [inB_true.2 ⟨by rw [colsT_length]; omega, by rw [colsT_length]; omega⟩, Bool.true_and, List.all_eq_true]
  intro x hx
  unfold colsT at hx
  simp only [List.mem_append, List.mem_map, List.mem_singleton] at hx
  rcases hx with ⟨c, _, rfl⟩ | rfl
  · exact inB_true.2 (code0_mask c)
  · exact inB_true.2 ⟨by decide, by decide⟩
theorem colsT_legal {t : ByteArray} (h : charsB t = true) : legalL (colsT t) = true := by
  unfold legalL
  rw [List.all_eq_true]
  intro x hx
  unfold colsT at hx
  unfold charsB at h
  rw [List.all_eq_true] at h
  simp only [List.mem_append, List.mem_map, List.mem_singleton] at hx
  rcases hx with ⟨c, hc, rfl⟩ | rfl
  · exact decide_eq_true (char_back c (h c hc)).2.1
  · exact decide_eq_true blank_char.1
theorem colsT_text {t : ByteArray} (h : charsB t = true) : textS (colsT t) = t ++ ⟨#[32]⟩ := by
  unfold charsB at h
  rw [List.all_eq_true] at h
  have h1 : textL (colsT t) = t.data.toList ++ [32] := by
    unfold textL colsT
    rw [List.map_append, List.map_map]
    congr 1
    · have : ∀ c ∈ t.data.toList, (chU ∘ fun c : UInt8 => code0 c.toNat) c = id c := by
        intro c hc
        obtain ⟨q1, q2, _⟩ := char_back c (h c hc)
        have := chU_is q2
        rw [q1] at this
        exact UInt8.toNat_inj.1 (by exact Int.ofNat_inj.1 this)
      rw [List.map_congr_left this, List.map_id]
    all_goals simp [blank_char.2]
  unfold textS
  rw [h1]
  apply ByteArray.ext
  apply Array.ext'
  simp
end Go.Proofs.YtmpfnkheohlmiaaGreatDoor
namespace Go.Proofs.YtmpfnkheohlmiaaGreatDoor
open Go.RowKit
set_option maxRecDepth 100000
set_option linter.unusedVariables false
set_option linter.unusedSimpArgs false
set_option linter.unnecessarySimpa false

/-- the columns of a text -/
def cardT (s : ByteArray) : List Int := s.data.toList.map fun c => codeI c.toNat
theorem cardT_length (s : ByteArray) : (cardT s).length = s.size := by unfold cardT; rw [List.length_map, len_bytes]
theorem cardT_at {s : ByteArray} {k : Nat} (h : k < s.size) : (cardT s)[k]? = some (codeI (s[k].toNat : Int)) := by
  unfold cardT; rw [List.getElem?_map, get_bytes s k h]; rfl
theorem cardT_snoc {s : ByteArray} {k : Nat} (h : k < s.size) : (cardT s).take (k + 1) = (cardT s).take k ++ [codeI (s[k].toNat : Int)] := by
  rw [List.take_add_one, cardT_at h]; rfl
theorem cardT_legal {s : ByteArray} (h : charsB s = true) : legalL (cardT s) = true := by
  unfold legalL cardT
  rw [List.all_eq_true]
  intro x hx
  obtain ⟨u, hu, rfl⟩ := List.mem_map.1 hx
  unfold charsB at h
  rw [List.all_eq_true] at h
  have hc := h u hu
  have := (char_back u hc).2.1
  rw [code0_yes hc] at this
  unfold legalB
  exact decide_eq_true this
theorem cardT_mask {s : ByteArray} (h : charsB s = true) : ∀ x ∈ cardT s, 0 ≤ x ∧ x ≤ 4095 := by
  intro x hx
  unfold cardT at hx
  obtain ⟨u, hu, rfl⟩ := List.mem_map.1 hx
  unfold charsB at h
  rw [List.all_eq_true] at h
  have hc := h u hu
  rw [← code0_yes hc]
  exact code0_mask u
set_option maxHeartbeats 4000000 in
theorem spec_l03Card (s : ByteArray) (w : World) (hs : s.size ≤ 1048576) :
    Calls Tryz.prog 122 #[.string s] w fun e w' => ∃ a' c', e = .returned (.agg #[.slice a' s.size c']) ∧ w'.ownsRow w.heap.size 2 1 (.slice a' s.size c') s.size ((cardT s).map (Value.int .i64)) ∧ Below w.heap.size w w' := by
  obtain ⟨i0, hi, hz0, hz1, hz2⟩ := info_parts Tryz.info_int64
  have hb2 := Lib.hid (below_alloc2 w (.cells #[.slice none 0 0] 32) (.cells #[.slice none 0 0] 32))
  go_enter Tryz.func122, Tryz.ntmps122
  go_wp2_with fail
  go_loopw [4] (fun i wr => ∃ (k : Nat) (a' : Option Addr) (c' : Nat), k ≤ s.size ∧ i = .int .i64 k ∧ wr.cell? ⟨w.heap.size + 1, 0, none⟩ = some (.slice a' k c') ∧ wr.frozen? ⟨w.heap.size + 1, 0, none⟩ = false ∧ wr.cell? ⟨w.heap.size, 0, none⟩ = some (.slice none 0 0) ∧ wr.frozen? ⟨w.heap.size, 0, none⟩ = false ∧ OV (w.heap.size + 2) wr.heap.size wr 2 1 a' k c' (((cardT s).take k).map (Value.int .i64)) ∧ Below w.heap.size w wr ∧ w.heap.size + 2 ≤ wr.heap.size) (fun i _ => s.size - (intOf i).toNat)
  case atStart => exact ⟨0, none, 0, by omega, rfl, by simp [go_sem], by simp [go_sem], by simp [go_sem], by simp [go_sem], OV.of (World.ownsRow_nil _ _ _ _), hb2.out, by simp⟩
  case round =>
    obtain ⟨k, a3, c3, hk, rfl, hcr, hfr, hcz, hfz, hown, hB, hsz⟩ := hrel
    replace hown := Lib.hid hown
    replace hB := Lib.hid hB
    have hm63 := Lib.hid (show k + 1 ≤ maxLen by unfold maxLen; omega)
    by_cases hlt : k < s.size
    · have hsn := Lib.hid (cardT_snoc hlt)
      have hlt' : (k : Int) < (s.size : Int) := by omega
      have hcr2 := keep (below_alloc (w := wr) (.cells #[.int .i64 (codeI (s[k].toNat : Int))] 2)) hcr
      have hoA := Lib.hid (fun (W : World) (hb : Below wr.heap.size wr W) => (hown.out.kept hb).1)
      go_wp2_with fail
      go_region_law (first | (refine step_row rfl _ _ 30 (by rfl) (w.heap.size + 2) 2 i0 (.int .i64 0) 1 8 Tryz.underlying30 hi hz0 hz1 hz2 rfl (by decide) (.slice a3 k c3) k (((cardT s).take k).map (Value.int .i64)) (by rfl) (hoA.out _ (((Below.refl _ _).drew).alloc (Nat.le_refl _) _)) (some ⟨wr.heap.size, 0, none⟩) 1 1 [.int .i64 (codeI (s[k].toNat : Int))] (by rfl) rfl (row_block (heap_alloc_new _ _)) (one_one rfl) hm63.out (by omega) (by simp only [World.size_alloc, World.size_drew]; omega) ?_; intro v5 w5 hown5 hg5; have hb5 := (((Below.refl (w.heap.size + 2) _).drew.alloc hsz _).grown hg5 (by simp only [World.size_alloc, World.size_drew]; omega) (fun k hk => (hown.out.1.lt k hk).1)); have hcr5 := heldB hb5 (by omega) hcr; have hfr5 := (hb5.frozen (p := ⟨w.heap.size + 1, 0, none⟩) (by dsimp only; omega)).trans hfr; have hcz5 := heldB hb5 (by omega) hcz; have hfz5 := (hb5.frozen (p := ⟨w.heap.size, 0, none⟩) (by dsimp only; omega)).trans hfz; have hB5 := Lib.hid (hB.out.trans (hb5.mono (Nat.le_trans (Nat.le_add_right _ _) (Nat.le_refl _)))); have hsz5 := hb5.size; obtain ⟨a5, c5, hv5, _, _⟩ := own_slice hown5; subst hv5; have hown5' := Lib.hid hown5; clear hown5 hg5 hb5 hcr hfr hcz hfz hcr2) | (go_simp; go_at_call 86; refine (spec_l03Code _ _).mono ?_; rintro e w' ⟨rfl, rfl⟩))
      all_goals
        go_wp2_with fail
        go_roundw
        case rel =>
          refine ⟨k + 1, a5, c5, by omega, by go_num, by simp [go_sem, *], by simp [go_sem, *], by simp [go_sem, *], by simp [go_sem, *], ?_, ?_, by simp only [World.size_setCell]; omega⟩
          · have h9 := ownsRow_setCell_below hown5'.out (a := ⟨w.heap.size + 1, 0, none⟩) (by dsimp only; omega) (.slice a5 (k + 1) c5)
            rw [hsn.out, List.map_append]
            exact OV.of h9
          · exact hB5.out.setCell (by dsimp only; omega) _
        case measure => simp [intOf]; omega
    · obtain rfl : k = s.size := by omega
      have hall := Lib.hid (show (cardT s).take s.size = cardT s from List.take_of_length_le (by rw [cardT_length]; exact Nat.le_refl _))
      go_wp2_with fail
      refine bodyPost_ret (v := .agg #[.slice a3 s.size c3]) (by simp [results, Tryz.results122, go_sem, *]) rfl ⟨a3, c3, rfl, ?_, ?_⟩
      · have h9 := hown.out.1
        rw [hall.out] at h9
        exact own_mono (ownsRow_setCell_below (a := ⟨w.heap.size, 0, none⟩) h9 (by dsimp only; omega) _) (by omega)
      · exact hB.out.setCell (by dsimp only; omega) _
set_option maxHeartbeats 400000 in
theorem spec_l02Own_at (b o : Nat) (a : Option Addr) (c n : Nat) (xs : List Int) (w : World) (hp : w.cell? ⟨b, o, none⟩ = some (.slice a n c)) (hx : RI w a xs) (hxn : xs.length = n) (hn : n ≤ 1048576) :
    Calls Tryz.prog 59 #[.pointer (some ⟨b, o, none⟩)] w fun e w' => ∃ a' c', e = .returned (.agg #[.slice a' n c']) ∧ w'.ownsRow w.heap.size 2 1 (.slice a' n c') n (xs.map (Value.int .i64)) ∧ Below w.heap.size w w' := by
  have hb2 := Lib.hid (below_alloc (w := w) (.cells #[.slice none 0 0] 32))
  have hbl := World.block_lt_of_cell? w _ hp
  have hown := Lib.hid (fun W (hW : RI W a xs) => by have h := spec_l00Own a c xs W hW (by omega); rw [hxn] at h; exact h)
  clear hxn
  go_enter Tryz.func59, Tryz.ntmps59
  go_wp2_with fail
  refine (hown.out _ (hx.kept hb2.out)).mono ?_
  rintro e w1 ⟨a1, c1, rfl, hown, hb1⟩
  (have hc0 := keep (p := ⟨w.heap.size, 0, none⟩) (v := .slice none 0 0) hb1 (by simp [go_sem, *]); have hf0 := keepf (p := ⟨w.heap.size, 0, none⟩) (v := .slice none 0 0) hb1 (by simp [go_sem, *]) (by simp [go_sem, *]); have hl0 := World.block_lt_of_cell? _ _ hc0)
  have hown' := Lib.hid hown
  have hb1' := Lib.hid (bthen hb2.out hb1)
  clear hown hb1
  go_wp2_with fail
  refine bodyPost_ret (v := .agg #[.slice a1 n c1]) (by simp [results, Tryz.results59, go_sem, hc0]) rfl ⟨a1, c1, rfl, ?_, ?_⟩
  · exact own_mono (B' := w.heap.size + 1) (ownsRow_setCell_below (by simpa using hown'.out) (by simp) _) (by omega)
  · exact hb1'.out.setCell (by simp) _
theorem Tryz.info_card0 : (Tryz.prog.info? 32).map (fun i => (i.zero, i.size, i.bytes)) = some (some (.agg #[.slice none 0 0]), 1, 24) := by kernel_rfl
def LegalW (n : Nat) (xs : List Int) : Prop := xs.length = n ∧ legalL xs = true ∧ ∀ x ∈ xs, 0 ≤ x ∧ x ≤ 4095
theorem legal_snoc {n : Nat} {xss : List (List Int)} {x : List Int} (h : ∀ xs ∈ xss, LegalW n xs) (hx : LegalW n x) : ∀ xs ∈ xss ++ [x], LegalW n xs := by
  intro y hy; simp only [List.mem_append, List.mem_singleton] at hy; rcases hy with hy | rfl
  · exact h y hy
  · exact hx
end Go.Proofs.YtmpfnkheohlmiaaGreatDoor
