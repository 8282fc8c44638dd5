/- The walks of the functions that picture a card: what each returns, and that memory has at most new blocks. -/
import Derived.Test.YtdjggbccdjbcoaaData
import Derived.Test.YtdjggbccdjbcoaaCards
import Derived.Test.YtdjggbccdjbcoaaTexts
import Derived.Laws.IdiomStrings
namespace Go.Proofs.Ytdjggbccdjbcoaa
open Go.RowKit
set_option maxRecDepth 100000
set_option linter.unusedVariables false
set_option linter.unusedSimpArgs false
set_option linter.unnecessarySimpa false

/-- is there a hole in a row of a column? -/
def pixB (x : Int) (r : Nat) : Bool := bits BinOp.and IntKind.i64 (x / 2 ^ r) 1 == 1
def pixU (r : Nat) (x : Int) : UInt8 := if pixB x r then 111 else 46
theorem pixU_yes {x : Int} {r : Nat} (h : pixB x r = true) : byteV (pixU r x) = .int .u8 111 := by unfold pixU; rw [h]; rfl
theorem pixU_no {x : Int} {r : Nat} (h : pixB x r = false) : byteV (pixU r x) = .int .u8 46 := by unfold pixU; rw [h]; rfl
def picL (xs : List Int) (r : Nat) : List UInt8 := xs.map (pixU r)
theorem picL_length (xs : List Int) (r : Nat) : (picL xs r).length = xs.length := by simp [picL]
theorem picL_take {xs : List Int} {k : Nat} {x : Int} (r : Nat) (h : xs[k]? = some x) : picL (xs.take (k + 1)) r = picL (xs.take k) r ++ [pixU r x] := by
  unfold picL; rw [List.take_add_one, h]; simp
def picS (xs : List Int) (r : Nat) : ByteArray := ⟨(picL xs r).toArray⟩
def picsL (xs : List Int) (k : Nat) : List ByteArray := (List.range k).map fun (j : Nat) => picS xs j
theorem picsL_length (xs : List Int) (k : Nat) : (picsL xs k).length = k := by simp [picsL]
theorem picsL_succ (xs : List Int) (k : Nat) : picsL xs (k + 1) = picsL xs k ++ [picS xs k] := by simp [picsL, List.range_succ]
def cardPicL (xs : List Int) : List ByteArray := if validCardL xs then picsL xs 12 else []
def cardPicCode (xs : List Int) : Int := if validCardL xs then 0 else 1
theorem cardPic_bad {xs : List Int} (h : validCardL xs = false) : cardPicL xs = [] ∧ cardPicCode xs = 1 := by unfold cardPicL cardPicCode; rw [h]; exact ⟨rfl, rfl⟩
theorem cardPic_ok {xs : List Int} (h : validCardL xs = true) : cardPicL xs = picsL xs 12 ∧ cardPicCode xs = 0 := by unfold cardPicL cardPicCode; rw [h]; exact ⟨rfl, rfl⟩
theorem cardPicL_len (xs : List Int) : (cardPicL xs).length ≤ 1048576 := by
  cases h : validCardL xs
  · rw [(cardPic_bad h).1]; simp
  · rw [(cardPic_ok h).1, picsL_length]; omega
theorem valid_mask {xs : List Int} {k : Nat} {x : Int} (h : validCardL xs = true) (hx : xs[k]? = some x) : 0 ≤ x ∧ x ≤ 4095 := by
  unfold validCardL at h
  simp only [Bool.and_eq_true] at h
  have := List.all_eq_true.1 h.2 x (List.mem_of_getElem? hx)
  exact inB_true.1 this
theorem textV (s : ByteArray) : Value.string s = Value.string s := rfl
set_option maxHeartbeats 1000000 in
theorem impl_CardPicture (a : Option Addr) (c : Nat) (xs : List Int) (w : World) (hx : RI w a xs) (hn : xs.length ≤ maxLen) :
    Calls Try.prog 41 #[.agg #[.slice a xs.length c]] w fun e w' => ∃ a' c', e = .returned (.tuple #[.slice a' (cardPicL xs).length c', .int .i64 (cardPicCode xs)]) ∧ w'.ownsRow w.heap.size 9 1 (.slice a' (cardPicL xs).length c') (cardPicL xs).length ((cardPicL xs).map Value.string) ∧ Below w.heap.size w w' := by
  obtain ⟨ib, hib, hzb0, hzb1, hzb2⟩ := info_parts Try.info_byte
  obtain ⟨is, his, hzs0, hzs1, hzs2⟩ := info_parts Try.info_string
  have hb1 := Lib.hid (below_alloc (w := w) (.cells #[.slice a xs.length c] 48))
  cases hv : validCardL xs
  · have hf := Lib.hid (cardPic_bad hv)
    go_enter Try.func41, Try.ntmps41
    go_wp2_with (go_at_call 81; ((with_reducible refine (impl_ValidCard a c xs _ (hx.kept hb1.out) hn).mono ?_); rintro e w' ⟨rfl, hb⟩))
    go_ret2
    exact ⟨none, 0, by rw [hf.out.1, hf.out.2]; rfl, by rw [hf.out.1]; exact World.ownsRow_nil _ _ _ _, bthen hb1.out hb⟩
  · have hf := Lib.hid (cardPic_ok hv)
    have hl := validCard_len hv
    have hm := Lib.hid (fun (k : Nat) (x : Int) (h : xs[k]? = some x) => valid_mask hv h)
    go_enter Try.func41, Try.ntmps41
    go_wp2_with fail
    refine (impl_ValidCard a c xs _ (hx.kept hb1.out) hn).mono ?_
    rintro e w2 ⟨rfl, hb⟩
    (have hc0 := keep (p := ⟨w.heap.size, 0, none⟩) (v := .slice a xs.length c) hb (by simp [go_sem, *]); have hf0 := keepf (p := ⟨w.heap.size, 0, none⟩) (v := .slice a xs.length c) hb (by simp [go_sem, *]) (by simp [go_sem, *]); have hl0 := World.block_lt_of_cell? _ _ hc0)
    have hb2 := Lib.hid (bthen hb1.out hb)
    clear hb
    have hown0 := World.ownsRow_lit (base := w2.heap.size) (e := 9) (size := 1) w2 #[] 0 (Nat.le_refl _) (by simp [maxLen]) rfl
    generalize hN : xs.length = n at *
    have hN' := Lib.hid hN
    clear hN
    go_wp2_with fail
    go_loopw [4, 14] (fun v i wr => ∃ (r : Nat) (a' : Option Addr) (c' : Nat), r ≤ 12 ∧ i = .int .i64 r ∧ v = .slice a' r c' ∧ wr.ownsRow w2.heap.size 9 1 (.slice a' r c') r ((picsL xs r).map Value.string) ∧ Below w2.heap.size w2 wr) (fun _ i _ => 12 - (intOf i).toNat)
    case atStart => exact ⟨0, _, _, by omega, rfl, rfl, hown0, below_alloc _⟩
    case round =>
      obtain ⟨r, a3, c3, hr, rfl, rfl, hown, hbo⟩ := hrel
      have hcr := keep hbo hc0
      have hlr : w.heap.size < wr.heap.size := World.block_lt_of_cell? _ _ hcr
      have hne : w.heap.size ≠ wr.heap.size := by omega
      obtain ⟨wo, rfl⟩ : ∃ wo : World, wo = wr := ⟨_, rfl⟩
      by_cases hlt : r < 12
      · have hlt' : (r : Int) < 12 := by omega
        have hownb := World.ownsRow_lit (base := wo.heap.size) (e := 5) (size := 1) wo #[] 0 (Nat.le_refl _) (by simp [maxLen]) rfl
        have hown' := Lib.hid (OV.of hown)
        clear hown
        go_wp2_with fail
        go_loopw [6, 21] (fun v i wx => ∃ (k : Nat) (a' : Option Addr) (c' : Nat), k ≤ n ∧ i = .int .i64 k ∧ v = .slice a' k c' ∧ a' ≠ none ∧ wx.ownsRow wo.heap.size 5 1 (.slice a' k c') k ((picL (xs.take k) r).map byteV) ∧ Below wo.heap.size wo wx) (fun _ i _ => n - (intOf i).toNat)
        case atStart => exact ⟨0, _, _, by omega, rfl, rfl, by simp, hownb, below_alloc _⟩
        case round =>
          obtain ⟨k, a4, c4, hk, rfl, rfl, ha4, hownc, hb⟩ := hrel
          have hcx := keep hb hcr
          have hlx : w.heap.size < wr.heap.size := World.block_lt_of_cell? _ _ hcx
          by_cases hlt2 : k < n
          · obtain ⟨x, hxk⟩ := get_some (l := xs) (k := k) (by rw [hN'.out]; exact hlt2)
            obtain ⟨b1, o1, rfl, hc1⟩ := (hx.kept (bthen (bthen hb2.out hbo) hb)).at hxk
            obtain ⟨hx0, hx1⟩ := hm.out k x hxk
            have hs := Lib.hid (picL_take r hxk)
            clear hxk
            cases hp : pixB x r
            · have hp2 : (bits BinOp.and IntKind.i64 (x / 2 ^ r) 1 == 1) = false := hp
              have hu := Lib.hid (pixU_no hp)
              go_wp2_with (at_builtin; refine wpList_append_own _ rfl _ _ 44 rfl (wo.heap.size) 5 ib (.int .u8 0) 1 1 Try.underlying44 hib hzb0 hzb1 hzb2 rfl (by decide) _ (k) ((picL (xs.take k) r).map byteV) rfl (hownc.alloc _) ⟨_, 0, none⟩ 1 1 [.int .u8 46] rfl rfl (news_one _ _ _) (one_one rfl) (by (have hq0 := hk); simp only [maxLen]; omega) (by (have hq0 := hk); omega) (by (have hq0 := hb.size); simp only [World.size_alloc]; omega) ?_; intro v1 w1 hown1 hgrow1 _; have hbq := Lib.hid (app_below hb hb.size hownc (by first | exact Nat.le_refl _ | omega) hgrow1); obtain ⟨a1, c1, hv1, _, _⟩ := own_slice hown1; subst hv1; have hownq := Lib.hid hown1; clear hown1 hgrow1)
              go_roundw
              case rel => exact ⟨k + 1, a1, c1, by omega, by go_num, rfl, own_some hownq.out (by omega), by rw [hs.out, List.map_append]; have h9 := hownq.out; rw [← hu.out] at h9; exact h9, hbq.out⟩
              case measure => simp [intOf]; omega
            · have hp2 : (bits BinOp.and IntKind.i64 (x / 2 ^ r) 1 == 1) = true := hp
              have hu := Lib.hid (pixU_yes hp)
              go_wp2_with (at_builtin; refine wpList_append_own _ rfl _ _ 44 rfl (wo.heap.size) 5 ib (.int .u8 0) 1 1 Try.underlying44 hib hzb0 hzb1 hzb2 rfl (by decide) _ (k) ((picL (xs.take k) r).map byteV) rfl (hownc.alloc _) ⟨_, 0, none⟩ 1 1 [.int .u8 111] rfl rfl (news_one _ _ _) (one_one rfl) (by (have hq0 := hk); simp only [maxLen]; omega) (by (have hq0 := hk); omega) (by (have hq0 := hb.size); simp only [World.size_alloc]; omega) ?_; intro v1 w1 hown1 hgrow1 _; have hbq := Lib.hid (app_below hb hb.size hownc (by first | exact Nat.le_refl _ | omega) hgrow1); obtain ⟨a1, c1, hv1, _, _⟩ := own_slice hown1; subst hv1; have hownq := Lib.hid hown1; clear hown1 hgrow1)
              go_roundw
              case rel => exact ⟨k + 1, a1, c1, by omega, by go_num, rfl, own_some hownq.out (by omega), by rw [hs.out, List.map_append]; have h9 := hownq.out; rw [← hu.out] at h9; exact h9, hbq.out⟩
              case measure => simp [intOf]; omega
          · obtain rfl : k = n := by omega
            have htk : xs.take k = xs := List.take_of_length_le (by rw [hN'.out]; exact Nat.le_refl _)
            rw [htk] at hownc
            have hrow : RB wr a4 (picL xs r) := by
              obtain ⟨a', c', hv, hr, _⟩ := own_slice hownc
              simp only [Value.slice.injEq] at hv
              obtain ⟨rfl, _, _⟩ := hv
              exact hr
            have hcv := run_text (P := Try.prog) wr 44 9 5 a4 c4 (picL xs r) Try.underlying44 Try.underlying5 Try.underlying9 ha4 hrow
            rw [picL_length, hN'.out] at hcv
            have hown2 := (hown'.out.kept hb).1
            have hbx := bthen hbo hb
            have hsuc := Lib.hid (picsL_succ xs r)
            have hst := Lib.hid (show picS xs r = ⟨(picL xs r).toArray⟩ from rfl)
            go_wp2_with (at_builtin; refine wpList_append_own _ rfl _ _ 77 rfl (w2.heap.size) 9 is (.string ⟨#[]⟩) 1 16 Try.underlying77 his hzs0 hzs1 hzs2 rfl (by decide) _ (r) ((picsL xs r).map Value.string) rfl (hown2.alloc _) ⟨_, 0, none⟩ 1 1 [.string ⟨(picL xs r).toArray⟩] rfl rfl (news_one _ _ _) (one_one rfl) (by (have hq0 := hr); simp only [maxLen]; omega) (by (have hq0 := hr); omega) (by (have hq0 := hbx.size); simp only [World.size_alloc]; omega) ?_; intro v1 w1 hown1 hgrow1 _; have hbq := Lib.hid (app_below hbx hbx.size hown2 (by first | exact Nat.le_refl _ | omega) hgrow1); obtain ⟨a1, c1, hv1, _, _⟩ := own_slice hown1; subst hv1; have hownq := Lib.hid hown1; clear hown1 hgrow1)
            go_roundw
            case rel => exact ⟨r + 1, a1, c1, by omega, by go_num, rfl, by rw [hsuc.out, List.map_append, hst.out]; exact hownq.out, hbq.out⟩
            case measure => simp [intOf]; omega
      · obtain rfl : r = 12 := by omega
        go_wp2_with fail
        go_ret2
        have h12 := picsL_length xs 12
        exact ⟨a3, c3, by rw [hf.out.1, hf.out.2, h12]; rfl, by rw [hf.out.1, h12]; exact own_mono hown hb2.out.size, bthen hb2.out hbo⟩
end Go.Proofs.Ytdjggbccdjbcoaa
