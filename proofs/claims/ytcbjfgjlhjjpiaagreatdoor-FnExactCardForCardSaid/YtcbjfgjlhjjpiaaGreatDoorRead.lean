/- The walks of the functions that read texts off cards and that tell illegal columns: what each returns, and that memory has at most new blocks. -/
import Derived.Test.YtcbjfgjlhjjpiaaGreatDoorData
import Derived.Test.YtcbjfgjlhjjpiaaGreatDoorRanks
import Derived.Test.YtcbjfgjlhjjpiaaGreatDoorCopy
import Derived.Test.YtcbjfgjlhjjpiaaGreatDoorTexts
import Derived.Laws.IdiomStrings
namespace Go.Proofs.YtcbjfgjlhjjpiaaGreatDoor
open Go.RowKit
set_option maxRecDepth 100000
set_option linter.unusedVariables false
set_option linter.unusedSimpArgs false
set_option linter.unnecessarySimpa false

/-- has a column a character? -/
def legalB (m : Int) : Bool := decide (0 ≤ rankM m)
def legalL (xs : List Int) : Bool := xs.all legalB
/-- the columns that have none -/
def illL (xs : List Int) (k : Nat) : List Int := ((List.range k).filter fun j => !legalB (xs.getD j 0)).map Int.ofNat
theorem illL_zero (xs : List Int) : illL xs 0 = [] := rfl
theorem illL_yes {xs : List Int} {k : Nat} {x : Int} (h : xs[k]? = some x) (hx : rankM x < 0) : illL xs (k + 1) = illL xs k ++ [(k : Int)] := by
  unfold illL
  rw [List.range_succ, List.filter_append, List.map_append]
  simp [List.getD_eq_getElem?_getD, h, legalB, hx]
theorem illL_no {xs : List Int} {k : Nat} {x : Int} (h : xs[k]? = some x) (hx : ¬ rankM x < 0) : illL xs (k + 1) = illL xs k := by
  unfold illL
  rw [List.range_succ, List.filter_append, List.map_append]
  simp [List.getD_eq_getElem?_getD, h, legalB]; omega
theorem illL_len (xs : List Int) (k : Nat) : (illL xs k).length ≤ k := by
  unfold illL; rw [List.length_map]
  exact Nat.le_trans (List.length_filter_le _ _) (by simp)
def illegalL (xs : List Int) : List Int := if validCardL xs then illL xs xs.length else []
def validCode (xs : List Int) : Int := if validCardL xs then 0 else 1
theorem illegal_bad {xs : List Int} (h : validCardL xs = false) : illegalL xs = [] ∧ validCode xs = 1 := by unfold illegalL validCode; rw [h]; exact ⟨rfl, rfl⟩
theorem illegal_ok {xs : List Int} (h : validCardL xs = true) : illegalL xs = illL xs xs.length ∧ validCode xs = 0 := by unfold illegalL validCode; rw [h]; exact ⟨rfl, rfl⟩
theorem illegalL_len (xs : List Int) : (illegalL xs).length ≤ 1048576 := by
  cases h : validCardL xs
  · rw [(illegal_bad h).1]; simp
  · rw [(illegal_ok h).1]; have := illL_len xs xs.length; have := validCard_len h; omega
/-! ### texts -/
def chU (m : Int) : UInt8 := UInt8.ofNat (charM m).toNat
theorem chU_is {m : Int} (h : 0 ≤ rankM m) : ((chU m).toNat : Int) = charM m := by
  obtain ⟨_, h1, h2, _⟩ := charM_is h
  unfold chU
  rw [UInt8.toNat_ofNat', Nat.mod_eq_of_lt (by omega)]; omega
def textL (xs : List Int) : List UInt8 := xs.map chU
def textS (xs : List Int) : ByteArray := ⟨(textL xs).toArray⟩
theorem textL_length (xs : List Int) : (textL xs).length = xs.length := by simp [textL]
theorem textL_take {xs : List Int} {k : Nat} {x : Int} (h : xs[k]? = some x) : textL (xs.take (k + 1)) = textL (xs.take k) ++ [chU x] := by
  unfold textL; rw [List.take_add_one, h]; simp
theorem textS_size (xs : List Int) : (textS xs).size = xs.length := by
  show (textL xs).toArray.size = _
  simp [textL]
def textOrS (xs : List Int) : ByteArray := if legalL xs then textS xs else ⟨#[]⟩
def readS (xs : List Int) : ByteArray := if validCardL xs then textOrS xs else ⟨#[]⟩
def readCode (xs : List Int) : Int := if validCardL xs then (if legalL xs then 0 else 8) else 1
theorem read_bad {xs : List Int} (h : validCardL xs = false) : readS xs = ⟨#[]⟩ ∧ readCode xs = 1 := by unfold readS readCode; rw [h]; exact ⟨rfl, rfl⟩
theorem read_not {xs : List Int} (h : validCardL xs = true) (h2 : legalL xs = false) : readS xs = ⟨#[]⟩ ∧ readCode xs = 8 := by unfold readS readCode textOrS; rw [h, h2]; exact ⟨rfl, rfl⟩
theorem read_ok {xs : List Int} (h : validCardL xs = true) (h2 : legalL xs = true) : readS xs = textS xs ∧ readCode xs = 0 := by unfold readS readCode textOrS; rw [h, h2]; exact ⟨rfl, rfl⟩
theorem legal_at {xs : List Int} {k : Nat} {x : Int} (h : legalL xs = true) (hx : xs[k]? = some x) : 0 ≤ rankM x := by
  have := List.all_eq_true.1 h x (List.mem_of_getElem? hx)
  simpa [legalB] using this
theorem impl_hasCharacters_1 (x : Int) (w : World) : Calls Tryz.prog 203 #[.int .i64 x] w fun e w' => e = .returned (.bool (!legalB x)) ∧ w = w' := by
  have hl : Hid (legalB x = decide (0 ≤ rankM x)) := Lib.hid rfl
  go_enter Tryz.func203, Tryz.ntmps203
  go_wp2_with (go_at_call 190; ((with_reducible refine (impl_rankOf _ _).mono ?_); rintro e w' ⟨rfl, rfl⟩))
  go_ret
  exact ⟨ret_bool (by rw [hl.out]; by_cases h : rankM x < 0 <;> simp [h] <;> omega), rfl⟩
theorem impl_hasCharacters (a : Option Addr) (c : Nat) (xs : List Int) (w : World) (hx : RI w a xs) (hn : xs.length ≤ maxLen) :
    Calls Tryz.prog 185 #[.slice a xs.length c] w fun e w' => e = .returned (.bool (legalL xs)) ∧ Below w.heap.size w w' := by
  have eg := Go.Proofs.enters_of Tryz.func203 (by kernel_rfl) rfl
  have hc := Lib.hid (slices_ContainsFunc_ints 203 #[] (fun m => !legalB m) a c xs w hx hn eg (fun x W hb => (impl_hasCharacters_1 x W).mono fun _ _ h => ⟨h.1, by rw [← h.2]; exact Below.refl _ _⟩))
  have hl : Hid (legalL xs = !(xs.any fun m => !legalB m)) := Lib.hid (by unfold legalL; rw [List.not_any_eq_all_not]; simp)
  go_enter Tryz.func185, Tryz.ntmps185
  go_wp2_with (go_at_call 129; ((with_reducible refine hc.out.mono ?_); rintro e w' ⟨rfl, hb⟩))
  go_ret
  exact ⟨ret_bool (by rw [hl.out]), hb⟩
set_option maxHeartbeats 400000 in
theorem impl_textOf (a : Option Addr) (c : Nat) (xs : List Int) (w : World) (hx : RI w a xs) (hn : xs.length ≤ 1048576) (hl : legalL xs = true) :
    Calls Tryz.prog 160 #[.slice a xs.length c] w fun e w' => e = .returned (.string (textS xs)) ∧ Below w.heap.size w w' := by
  obtain ⟨i0, hi, hz0, hz1, hz2⟩ := info_parts Tryz.info_byte
  have hl' := Lib.hid hl
  have hown0 := World.ownsRow_lit (base := w.heap.size) (e := 5) (size := 1) w #[] 0 (Nat.le_refl _) (by simp [maxLen]) rfl
  generalize hN : xs.length = n at *
  have hN' := Lib.hid hN
  clear hN hl
  go_enter Tryz.func160, Tryz.ntmps160
  go_wp2_with fail
  go_loopw [3, 9] (fun v i wr => ∃ (k : Nat) (a' : Option Addr) (c' : Nat), k ≤ n ∧ i = .int .i64 k ∧ v = .slice a' k c' ∧ a' ≠ none ∧ wr.ownsRow w.heap.size 5 1 (.slice a' k c') k ((textL (xs.take k)).map byteV) ∧ Below w.heap.size w wr) (fun _ i _ => n - (intOf i).toNat)
  case atStart => exact ⟨0, _, _, by omega, rfl, rfl, by simp, hown0, below_alloc _⟩
  case round =>
    obtain ⟨k, a3, c3, hk, rfl, rfl, hne, hown, hb⟩ := hrel
    by_cases hlt : k < n
    · obtain ⟨x, hxk⟩ := get_some (l := xs) (k := k) (by rw [hN'.out]; exact hlt)
      obtain ⟨b1, o1, rfl, hc1⟩ := (hx.kept hb).at hxk
      have hs := Lib.hid (textL_take hxk)
      have hrk := legal_at hl'.out hxk
      obtain ⟨q, hq⟩ := Int.eq_ofNat_of_zero_le hrk
      have hq40 : q < 40 := by have := rankM_ge x; omega
      have hch := Lib.hid ((char_at hq hq40).symm.trans (chU_is hrk).symm)
      have hq' := Lib.hid hq
      clear hxk hrk hq
      go_wp2_with (first | (go_at_call 190; refine (impl_rankOf x _).mono ?_; rintro e w' ⟨rfl, rfl⟩; rw [hq'.out]) | (at_builtin; refine wpList_append_own _ rfl _ _ 43 rfl (w.heap.size) 5 i0 (.int .u8 0) 1 1 Tryz.underlying43 hi hz0 hz1 hz2 rfl (by decide) _ (k) ((textL (xs.take k)).map byteV) rfl (hown.alloc _) ⟨_, 0, none⟩ 1 1 [.int .u8 (((⟨#[32, 38, 65, 66, 67, 68, 69, 70, 71, 72, 73, 45, 74, 75, 76, 77, 78, 79, 80, 81, 82, 47, 83, 84, 85, 86, 87, 88, 89, 90, 48, 49, 50, 51, 52, 53, 54, 55, 56, 57]⟩ : ByteArray)[q]'hq40).toNat : Int)] rfl rfl (news_one _ _ _) (one_one rfl) (by (have hq0 := hk); simp only [maxLen]; omega) (by (have hq0 := hk); omega) (by (have hq0 := hb.size); simp only [World.size_alloc]; omega) ?_; intro v1 w1 hown1 hgrow1 _; have hbq := Lib.hid (app_below hb hb.size hown (by first | exact Nat.le_refl _ | omega) hgrow1); obtain ⟨a1, c1, hv1, _, _⟩ := own_slice hown1; subst hv1; have hownq := Lib.hid hown1; clear hown1 hgrow1))
      go_roundw
      case rel => exact ⟨k + 1, a1, c1, by omega, by go_num, rfl, own_some hownq.out (by omega), by rw [hs.out, List.map_append]; have h9 := hownq.out; rw [hch.out] at h9; exact h9, hbq.out⟩
      case measure => simp [intOf]; omega
    · have e : k = n := by omega
      subst e
      have htk : xs.take k = xs := List.take_of_length_le (by rw [hN'.out]; exact Nat.le_refl _)
      rw [htk] at hown
      have hrow : RB wr a3 (textL xs) := by
        obtain ⟨a', c', hv, hr, _⟩ := own_slice hown
        simp only [Value.slice.injEq] at hv
        obtain ⟨rfl, _, _⟩ := hv
        exact hr
      have hcv := run_text (P := Tryz.prog) wr 43 9 5 a3 c3 (textL xs) Tryz.underlying43 Tryz.underlying5 Tryz.underlying9 hne hrow
      rw [textL_length, hN'.out] at hcv
      have hfin := Lib.hid (show (⟨(textL xs).toArray⟩ : ByteArray) = textS xs from rfl)
      go_wp2_with fail
      go_ret
      exact ⟨by rw [hfin.out]; rfl, hb⟩
theorem all_upto {xs : List Int} {k : Nat} {x : Int} (h : Hid ((xs.take k).all legalB = true)) (hx : xs[k]? = some x) (hk : 0 ≤ rankM x) : Hid ((xs.take (k + 1)).all legalB = true) := all_succ hx h.out (by simpa [legalB] using hk)
theorem textOr_no {xs : List Int} {k : Nat} {x : Int} (hx : xs[k]? = some x) (h : ¬ 0 ≤ rankM x) : textOrS xs = ⟨#[]⟩ ∧ legalL xs = false := by
  have : legalL xs = false := all_not hx (by simpa [legalB] using h)
  unfold textOrS; rw [this]; exact ⟨rfl, rfl⟩
theorem textOr_yes {xs : List Int} (h : legalL xs = true) : textOrS xs = textS xs := by unfold textOrS; rw [h]; rfl
set_option maxHeartbeats 400000 in
theorem spec_l03Text (a : Option Addr) (c : Nat) (xs : List Int) (w : World) (hx : RI w a xs) (hn : xs.length ≤ 1048576) :
    Calls Tryz.prog 157 #[.slice a xs.length c] w fun e w' => e = .returned (.tuple #[.string (textOrS xs), .bool (legalL xs)]) ∧ Below w.heap.size w w' := by
  obtain ⟨i0, hi, hz0, hz1, hz2⟩ := info_parts Tryz.info_byte
  have hown0 := World.ownsRow_lit (base := w.heap.size) (e := 5) (size := 1) w #[] 0 (Nat.le_refl _) (by simp [maxLen]) rfl
  generalize hN : xs.length = n at *
  have hN' := Lib.hid hN
  clear hN
  go_enter Tryz.func157, Tryz.ntmps157
  go_wp2_with fail
  go_loopw [4, 5] (fun v i wr => ∃ (k : Nat) (a' : Option Addr) (c' : Nat), k ≤ n ∧ i = .int .i64 k ∧ v = .slice a' k c' ∧ a' ≠ none ∧ wr.ownsRow w.heap.size 5 1 (.slice a' k c') k ((textL (xs.take k)).map byteV) ∧ Hid ((xs.take k).all legalB = true) ∧ Below w.heap.size w wr) (fun _ i _ => n - (intOf i).toNat)
  case atStart => exact ⟨0, _, _, by omega, rfl, rfl, by simp, hown0, Lib.hid rfl, below_alloc _⟩
  case round =>
    obtain ⟨k, a3, c3, hk, rfl, rfl, hne, hown, hall, hb⟩ := hrel
    by_cases hlt : k < n
    · obtain ⟨x, hxk⟩ := get_some (l := xs) (k := k) (by rw [hN'.out]; exact hlt)
      obtain ⟨b1, o1, rfl, hc1⟩ := (hx.kept hb).at hxk
      by_cases hrk : 0 ≤ rankM x
      · have hs := Lib.hid (textL_take hxk)
        have hd := Lib.hid (show decide (0 ≤ rankM x) = true from decide_eq_true hrk)
        have hch := Lib.hid (chU_is hrk).symm
        have hall' := all_upto hall hxk hrk
        clear hxk hrk
        go_wp2_with (first | (go_at_call 184; ((with_reducible refine (spec_l03Char _ _).mono ?_); rintro e w' ⟨rfl, rfl⟩; rw [hd.out])) | (at_builtin; refine wpList_append_own _ rfl _ _ 43 rfl (w.heap.size) 5 i0 (.int .u8 0) 1 1 Tryz.underlying43 hi hz0 hz1 hz2 rfl (by decide) _ (k) ((textL (xs.take k)).map byteV) rfl (hown.alloc _) ⟨_, 0, none⟩ 1 1 [.int .u8 (charM x)] rfl rfl (news_one _ _ _) (one_one rfl) (by (have hq0 := hk); simp only [maxLen]; omega) (by (have hq0 := hk); omega) (by (have hq0 := hb.size); simp only [World.size_alloc]; omega) ?_; intro v1 w1 hown1 hgrow1 _; have hbq := Lib.hid (app_below hb hb.size hown (by first | exact Nat.le_refl _ | omega) hgrow1); obtain ⟨a1, c1, hv1, _, _⟩ := own_slice hown1; subst hv1; have hownq := Lib.hid hown1; clear hown1 hgrow1))
        go_roundw
        case rel => exact ⟨k + 1, a1, c1, by omega, by go_num, rfl, own_some hownq.out (by omega), by rw [hs.out, List.map_append]; have h9 := hownq.out; rw [hch.out] at h9; exact h9, hall', hbq.out⟩
        case measure => simp [intOf]; omega
      · have hd := Lib.hid (show decide (0 ≤ rankM x) = false from decide_eq_false hrk)
        have hf := Lib.hid (textOr_no hxk hrk)
        clear hxk hrk
        go_wp2_with (go_at_call 184; ((with_reducible refine (spec_l03Char _ _).mono ?_); rintro e w' ⟨rfl, rfl⟩; rw [hd.out]))
        go_ret2
        exact ⟨by rw [hf.out.1, hf.out.2]; rfl, hb⟩
    · have e : k = n := by omega
      subst e
      have htk : xs.take k = xs := List.take_of_length_le (by rw [hN'.out]; exact Nat.le_refl _)
      rw [htk] at hown hall
      have hrow : RB wr a3 (textL xs) := by
        obtain ⟨a', c', hv, hr, _⟩ := own_slice hown
        simp only [Value.slice.injEq] at hv
        obtain ⟨rfl, _, _⟩ := hv
        exact hr
      have hcv := run_text (P := Tryz.prog) wr 43 9 5 a3 c3 (textL xs) Tryz.underlying43 Tryz.underlying5 Tryz.underlying9 hne hrow
      rw [textL_length, hN'.out] at hcv
      have hfin := Lib.hid (show (⟨(textL xs).toArray⟩ : ByteArray) = textOrS xs from (textOr_yes hall.out).symm)
      have hfin2 := Lib.hid (show legalL xs = true from hall.out)
      go_wp2_with fail
      go_ret2
      exact ⟨by rw [← hfin.out, hfin2.out]; rfl, hb⟩
end Go.Proofs.YtcbjfgjlhjjpiaaGreatDoor
