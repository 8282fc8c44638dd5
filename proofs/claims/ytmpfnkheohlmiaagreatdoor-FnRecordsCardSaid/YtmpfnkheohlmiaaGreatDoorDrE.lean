/- The walks of the functions that draw values, cards and decks for a layout: what is drawn lies in rows of the call's own; nothing but the source is written. -/
import Derived.Test.YtmpfnkheohlmiaaGreatDoorQZ
import Derived.Test.YtmpfnkheohlmiaaGreatDoorDrC
import Derived.Test.YtmpfnkheohlmiaaGreatDoorCfS
import Derived.Test.YtmpfnkheohlmiaaGreatDoorQM
import Derived.Lib.ItoaLen
namespace Go.Proofs.YtmpfnkheohlmiaaGreatDoor
open Go.RowKit
set_option maxRecDepth 100000
set_option linter.unusedVariables false
set_option linter.unusedSimpArgs false
set_option linter.unnecessarySimpa false

theorem spec_l00Min (x y : Int) (w : World) :
    Calls Tryz.prog 73 #[.int .i64 x, .int .i64 y] w fun e w' => e = .returned (.int .i64 (min x y)) ∧ w' = w := by
  by_cases h : x < y
  · go_enter Tryz.func73, Tryz.ntmps73
    go_wp2_with fail
    go_ret
    exact ⟨by rw [Int.min_def, if_pos (by omega)]; rfl, rfl⟩
  · go_enter Tryz.func73, Tryz.ntmps73
    go_wp2_with fail
    go_ret
    exact ⟨by rw [show min x y = y by omega]; rfl, rfl⟩
theorem heldS2c {B : Nat} {v V : World} {p q : Addr} {x y : Value} (hw : Within B (B + 1) v V) (h : v.cell? p = some x) (g : v.cell? q = some y) (hne : ¬ p.block = B) (gne : ¬ q.block = B) : Within B (B + 1) v V ∧ V.cell? p = some x ∧ V.cell? q = some y := ⟨hw, hw.cell h (by omega), hw.cell g (by omega)⟩
def TEXTS9 : List ByteArray := [⟨#[]⟩, ⟨#[45, 48]⟩, ⟨#[48, 49]⟩, ⟨#[97]⟩, ⟨#[65, 32]⟩, ⟨#[57, 57, 57, 57, 57]⟩, ⟨#[45, 57, 57, 57, 57, 57]⟩, ⟨#[49, 50, 51, 52, 53, 54, 55, 56, 57, 48, 49, 50, 51]⟩, ⟨#[65, 66, 35]⟩]
theorem texts9 {t : ByteArray} (h : t ∈ ([⟨#[]⟩, ⟨#[45, 48]⟩, ⟨#[48, 49]⟩, ⟨#[97]⟩, ⟨#[65, 32]⟩, ⟨#[57, 57, 57, 57, 57]⟩, ⟨#[45, 57, 57, 57, 57, 57]⟩, ⟨#[49, 50, 51, 52, 53, 54, 55, 56, 57, 48, 49, 50, 51]⟩, ⟨#[65, 66, 35]⟩] : List ByteArray)) : t.size ≤ 24 := by
  simp only [List.mem_cons, List.not_mem_nil, or_false] at h
  rcases h with rfl | rfl | rfl | rfl | rfl | rfl | rfl | rfl | rfl <;> decide
set_option maxHeartbeats 4000000 in
theorem spec_l04Some (B : Nat) (a : Option Addr) (c : Nat) (l : List UInt8) (k0 : Nat) (b1 o1 : Nat) (kd f t : Int) (w : World) (h : SrcIs w B a c l k0) (hk0 : k0 ≤ 134217728) (hl : l.length ≤ 1073741824) (y1 : w.cell? ⟨b1, o1 + 1, none⟩ = some (.int .i64 kd)) (y2 : w.cell? ⟨b1, o1 + 2, none⟩ = some (.int .i64 f)) (y3 : w.cell? ⟨b1, o1 + 3, none⟩ = some (.int .i64 t)) (hne : ¬ b1 = B) :
    Calls Tryz.prog 30 #[.pointer (some ⟨B, 0, none⟩), .pointer (some ⟨b1, o1, none⟩)] w (fun e w' => ∃ s : ByteArray, e = .returned (.string s) ∧ s.size ≤ 24 ∧ SrcIs w' B a c l (k0 + 40) ∧ Within B (B + 1) w w') := by
  have hT := Lib.hid (St.start h)
  have hz := hT.out.size
  clear h
  go_enter Tryz.func30, Tryz.ntmps30
  go_wp2_with fail
  refine (spec_one B a c l _ 12 w hT.out.src (by omega) hl (by omega) (by omega)).mono ?_
  rintro e v1 ⟨b, rfl, hs, hw⟩
  replace y1 := hw.cell y1 (show b1 < B ∨ B + 1 ≤ b1 by omega)
  replace y2 := hw.cell y2 (show b1 < B ∨ B + 1 ≤ b1 by omega)
  replace y3 := hw.cell y3 (show b1 < B ∨ B + 1 ≤ b1 by omega)
  replace hT := Lib.hid (hT.out.step hs hw)
  have hzv1 := hT.out.size
  clear hs hw
  cases b
  · skip
    by_cases hk2 : kd = 2
    · subst hk2
      go_wp2_with fail
      refine (spec_pick B a c l _ 300 v1 hT.out.src (by omega) hl (by omega) (by omega)).mono ?_
      rintro e v2 ⟨r, rfl, ⟨r0, r1, _⟩, hs, hw⟩
      replace y1 := hw.cell y1 (show b1 < B ∨ B + 1 ≤ b1 by omega)
      replace y2 := hw.cell y2 (show b1 < B ∨ B + 1 ≤ b1 by omega)
      replace y3 := hw.cell y3 (show b1 < B ∨ B + 1 ≤ b1 by omega)
      replace hT := Lib.hid (hT.out.step hs hw)
      have hzv2 := hT.out.size
      clear hs hw
      replace r1 := r1 (by omega)
      by_cases hD : wrap64 (t - f) = 1
      · have hDb : (wrap64 (t - f) == 1) = true := by simp [hD]
        have hn0 : -10 ≤ (r - 80).tmod 10 ∧ (r - 80).tmod 10 ≤ 10 := by
          have h1 := Int.emod_emod_of_dvd
          rcases Int.le_total 0 (r - 80) with h | h
          · rw [Int.tmod_eq_emod_of_nonneg h]; omega
          · have h2 : (r - 80).tmod 10 = -((-(r - 80)).tmod 10) := by rw [Int.neg_tmod]; omega
            rw [h2, Int.tmod_eq_emod_of_nonneg (by omega)]; omega
        go_wp2_with fail
        first | go_quiet (fail) | fail
        go_wp2_with fail
        refine (spec_l01Dec ((r - 80).tmod 10) _ (by omega) (by omega)).mono ?_
        rintro e v3 ⟨rfl, hb⟩
        have hlen := Lib.itoa_length_le ((r - 80).tmod 10) (by omega) (by omega)
        skip
        have hT2 := Lib.hid ((hT.out.kept (below_drewN (Below.refl _ _) _)).kept hb)
        clear hb
        go_wp2_with fail
        go_ret
        exact ⟨_, rfl, by show (Lib.itoa _).toArray.size ≤ 24; simp; omega, (hT2.out.src).more (by omega), hT2.out.win⟩
      · have hDb : (wrap64 (t - f) == 1) = false := by simp [hD]
        go_wp2_with fail
        first | go_quiet (fail) | fail
        go_wp2_with fail
        refine (spec_l01Dec (r - 80) _ (by omega) (by omega)).mono ?_
        rintro e v3 ⟨rfl, hb⟩
        have hlen := Lib.itoa_length_le (r - 80) (by omega) (by omega)
        skip
        have hT2 := Lib.hid ((hT.out.kept (below_drewN (Below.refl _ _) _)).kept hb)
        clear hb
        go_wp2_with fail
        go_ret
        exact ⟨_, rfl, by show (Lib.itoa _).toArray.size ≤ 24; simp; omega, (hT2.out.src).more (by omega), hT2.out.win⟩
    · have hkb : (kd == 2) = false := by simp [hk2]
      go_wp2_with fail
      generalize hDD : IntKind.i64.wrap (IntKind.i64.wrap (t - f) + 1) = D at *
      have hM0 : 1 ≤ max 1 (min 6 D) := by omega
      have hM1 : max 1 (min 6 D) ≤ 6 := by omega
      obtain ⟨M, hM⟩ : ∃ M, M = max 1 (min 6 D) := ⟨_, rfl⟩
      first | go_region_held3 (fun V => Within B (B + 1) v1 V ∧ V.cell? ⟨b1, o1 + 3, none⟩ = some (.int .i64 t) ∧ V.cell? ⟨b1, o1 + 2, none⟩ = some (.int .i64 f)) (first | assumption | exact heldS2c (Within.of_below (below_drewN (Below.refl _ _) 1)) y3 y2 hne hne | (rename Within B (B + 1) v1 _ ∧ _ => hH; refine heldS2c (hH.1.trans ?_) y3 y2 hne hne; assumption)) (first | (go_at_call 73; ((with_reducible refine (spec_l00Min _ _ _).mono ?_); rintro e wq ⟨rfl, rfl⟩)) | (go_at_call 72; ((with_reducible refine (spec_l00Max _ _ _).mono ?_); rintro e wq ⟨rfl, rfl⟩)) | (go_at_call 56; ((with_reducible refine (spec_pick B a c l _ (max 1 (min 6 D)) _ (hT.out.src.kept (Below.refl _ _).drew) (by omega) hl (by omega) (by omega)).mono ?_); rintro e wq0 ⟨r_, rfl, ⟨r0, r1, _⟩, hsq0, hwq0⟩; replace r1 := r1 (by omega); obtain ⟨r, rfl⟩ := Int.eq_ofNat_of_zero_le r0)) | (go_at_call 71; ((with_reducible refine (spec_l03DrawText B a c l _ r wq0 hsq0 (by omega) hl (by omega)).mono ?_); rintro e wq1 ⟨⟨s, rfl, hs, _⟩, hsq1, hwq1⟩))) | fail
      replace hT := Lib.hid (((hT.out.kept (Below.refl _ _).drew).step hsq0 hwq0).step hsq1 hwq1)
      have hs24 : s.size ≤ 24 := by omega
      have hr6 : r ≤ 6 := by omega
      have hszs : s.size ≤ 24 := hs24
      clear hsq0 hwq0 hsq1 hwq1 hs hM hM0 hM1 r1 hs24
      go_wp2_with fail
      go_loop [6] (fun v => ∃ S : ByteArray, v = .string S ∧ S.size ≤ 24) (fun v => match v with | .string S => S.size | _ => 0)
      case atStart => exact ⟨s, rfl, hszs⟩
      case round =>
        obtain ⟨S, rfl, hS⟩ := hrel
        by_cases h0 : 0 < S.size
        · have hl_ : S.size - 1 < S.size := by omega
          have hl1 : (S.size : Int) - 1 < (S.size : Int) := by omega
          have hl0 : (0 : Int) ≤ (S.size : Int) - 1 := by omega
          have hcast : (S.size : Int) - 1 = ((S.size - 1 : Nat) : Int) := by omega
          have hd : decide ((0 : Int) < (S.size : Int)) = true := by simp; omega
          by_cases hc : S[S.size - 1] = 32
          · have hcu : (((S[S.size - 1]'hl_).toNat : Int) == 32) = true := by rw [hc]; rfl
            clear hc
            go_wp2_with fail
            go_round
            case rel => exact ⟨_, rfl, by rw [ByteArray.size_extract]; omega⟩
            case measure => show (S.extract 0 (S.size - 1)).size < S.size; rw [ByteArray.size_extract]; omega
          · have hcu : (((S[S.size - 1]'hl_).toNat : Int) == 32) = false := by
              have : ¬ (S[S.size - 1]'hl_).toNat = (32 : UInt8).toNat := fun e => hc (UInt8.toNat_inj.1 e)
              simp at this ⊢; omega
            clear hc
            go_wp2_with fail
            go_ret
            exact ⟨S, rfl, hS, (hT.out.src).more (by omega), hT.out.win⟩
        · have hz0 : S.size = 0 := by omega
          have hd : decide ((0 : Int) < (S.size : Int)) = false := decide_eq_false (by omega)
          go_wp2_with fail
          go_ret
          exact ⟨S, rfl, hS, (hT.out.src).more (by omega), hT.out.win⟩
  · go_wp2_with fail
    have hA := below_alloc (w := v1) (.cells #[.string ⟨#[]⟩, .string ⟨#[45, 48]⟩, .string ⟨#[48, 49]⟩, .string ⟨#[97]⟩, .string ⟨#[65, 32]⟩, .string ⟨#[57, 57, 57, 57, 57]⟩, .string ⟨#[45, 57, 57, 57, 57, 57]⟩, .string ⟨#[49, 50, 51, 52, 53, 54, 55, 56, 57, 48, 49, 50, 51]⟩, .string ⟨#[65, 66, 35]⟩] 9)
    replace hT := Lib.hid (hT.out.kept hA)
    have hrA := Lib.hid (show RS (v1.alloc (.cells #[.string ⟨#[]⟩, .string ⟨#[45, 48]⟩, .string ⟨#[48, 49]⟩, .string ⟨#[97]⟩, .string ⟨#[65, 32]⟩, .string ⟨#[57, 57, 57, 57, 57]⟩, .string ⟨#[45, 57, 57, 57, 57, 57]⟩, .string ⟨#[49, 50, 51, 52, 53, 54, 55, 56, 57, 48, 49, 50, 51]⟩, .string ⟨#[65, 66, 35]⟩] 9)) (some ⟨v1.heap.size, 0, none⟩) [⟨#[]⟩, ⟨#[45, 48]⟩, ⟨#[48, 49]⟩, ⟨#[97]⟩, ⟨#[65, 32]⟩, ⟨#[57, 57, 57, 57, 57]⟩, ⟨#[45, 57, 57, 57, 57, 57]⟩, ⟨#[49, 50, 51, 52, 53, 54, 55, 56, 57, 48, 49, 50, 51]⟩, ⟨#[65, 66, 35]⟩] from row_block (heap_alloc_new _ _))
    clear hA
    refine (spec_srcTextN B a c l _ (v1.heap.size) 0 9 9 [⟨#[]⟩, ⟨#[45, 48]⟩, ⟨#[48, 49]⟩, ⟨#[97]⟩, ⟨#[65, 32]⟩, ⟨#[57, 57, 57, 57, 57]⟩, ⟨#[45, 57, 57, 57, 57, 57]⟩, ⟨#[49, 50, 51, 52, 53, 54, 55, 56, 57, 48, 49, 50, 51]⟩, ⟨#[65, 66, 35]⟩] _ hT.out.src (by omega) hl hrA.out rfl (by omega) (by omega) (by omega)).mono ?_
    rintro e w9 ⟨s, rfl, htm, hs, hw⟩
    replace hT := Lib.hid (hT.out.step hs hw)
    have hs24 := texts9 htm
    clear hs hw htm hrA
    go_wp2_with fail
    go_ret
    exact ⟨s, rfl, hs24, (hT.out.src).more (by omega), hT.out.win⟩
set_option maxHeartbeats 4000000 in
theorem spec_l04Card (B : Nat) (a : Option Addr) (c : Nat) (l : List UInt8) (k0 : Nat) (L : Nat) (wd : Int) (a1 : Option Addr) (c1 m : Nat) (xs : List Itm) (lo hi : Nat) (w : World) (h : SrcIs w B a c l k0) (hk0 : k0 ≤ 67108864) (hl : l.length ≤ 1073741824) (hkL : Bk w L 26 #[.int .i64 wd, .slice a1 m c1]) (hLB : ¬ L = B) (hoI : OV lo hi w 63 4 a1 m c1 (itemsV xs)) (hlo : B < lo) (hxm : xs.length = m) (hP : LayP wd xs) :
    Calls Tryz.prog 38 #[.pointer (some ⟨B, 0, none⟩), .pointer (some ⟨L, 0, none⟩)] w (DrawnU w B a c l (k0 + 1024)) := by
  have hT := Lib.hid (St.start h)
  have hz := hT.out.size
  have hLl : L < w.heap.size := hkL.lt
  have hsz := hP.sz
  have hm16 : m ≤ 16 := by rw [← hxm]; exact hP.2.2.1
  replace hkL := Lib.hid hkL
  replace hoI := Lib.hid (OV.of hoI.1)
  replace hxm := Lib.hid hxm
  replace hP := Lib.hid hP
  clear h
  go_enter Tryz.func38, Tryz.ntmps38
  go_wp2_with fail
  have hA := Lib.hid (below_alloc (w := w) (.cells #[.slice none 0 0] 32))
  have hkn := Lib.hid (show Bk (w.alloc (.cells #[.slice none 0 0] 32)) (w.heap.size) 32 #[.slice none 0 0] from (by first | exact Bk.new _ _ _ | simpa using Bk.new w #[.slice none 0 0] 32))
  replace hT := Lib.hid (hT.out.kept hA.out)
  replace hkL := Lib.hid (hkL.out.kept hA.out)
  replace hoI := Lib.hid (hoI.out.kept hA.out)
  have hqR : w.heap.size + 1 ≤ (w.alloc (.cells #[.slice none 0 0] 32)).heap.size ∧ (w.alloc (.cells #[.slice none 0 0] 32)).heap.size ≤ w.heap.size + 1 := by simp
  have hkR := hkn
  clear hkn hA
  generalize (w.alloc (.cells #[.slice none 0 0] 32)) = v1 at *
  have hzv1 := hT.out.size
  have hok := Lib.hid (show Calls Tryz.prog 34 #[.pointer (some ⟨L, 0, none⟩)] v1 fun e w' => e = .returned (.bool (validLayB wd xs)) ∧ Below v1.heap.size v1 w' from spec_l04Ok L wd a1 c1 xs v1 hkL.out.two.1 (by rw [hxm.out]; exact hkL.out.two.2.1) hoI.out.row hsz)
  cases hval : validLayB wd xs <;> rw [hval] at hok
  · go_wp2_with fail
    refine (hok.out).mono ?_
    rintro e v2 ⟨rfl, hb⟩
    replace hT := Lib.hid (hT.out.kept hb)
    replace hkL := Lib.hid (hkL.out.kept hb)
    replace hkR := Lib.hid (hkR.out.kept hb)
    replace hoI := Lib.hid (hoI.out.kept hb)
    have hzbv2 := hb.size
    have hzv2 := hT.out.size
    have hltLv2 := hkL.out.lt
    have hltRv2 := hkR.out.lt
    clear hb
    clear hok
    go_wp2_with fail
    refine (spec_l03Bent B a c l _ v2 hT.out.src (by omega) hl).mono ?_
    rintro e v3 ⟨a5, c5, ys, rfl, hy21, hox, hs, hw⟩
    have hoX := Lib.hid (OV.of hox)
    clear hox
    have hmv3 := hw.size
    replace hT := Lib.hid (hT.out.step hs hw)
    replace hkL := Lib.hid (hkL.out.within hw (by omega))
    replace hkR := Lib.hid (hkR.out.within hw (by omega))
    replace hoI := Lib.hid (hoI.out.within hw (by omega))
    have hzv3 := hT.out.size
    have hltLv3 := hkL.out.lt
    have hltRv3 := hkR.out.lt
    clear hs hw
    obtain ⟨cR_0, fR_0⟩ := hkR.out.one
    go_wp2_with fail
    refine bodyPost_ret (v := .agg #[.slice a5 ys.length c5]) (by simp [results, Tryz.results38, go_sem, *]) rfl ⟨_, _, ys, rfl, ?_, ?_, ?_, ?_⟩
    · exact hy21
    · exact own_mono (ownsRow_setCell_below (a := ⟨w.heap.size, 0, none⟩) hoX.out.1 (by dsimp only; omega) _) (by omega)
    · exact ((hT.out.set (p := ⟨w.heap.size, 0, none⟩) (Nat.le_refl _) _).src).more (by omega)
    · exact (hT.out.set (p := ⟨w.heap.size, 0, none⟩) (Nat.le_refl _) _).win
  · obtain ⟨n, rfl⟩ := Int.eq_ofNat_of_zero_le (show 0 ≤ wd by have := (validLay_is hval).1; omega)
    have hn20 : n ≤ 20 := by have := (validLay_is hval).2.1; omega
    clear hval
    go_wp2_with fail
    refine (hok.out).mono ?_
    rintro e v2 ⟨rfl, hb⟩
    replace hT := Lib.hid (hT.out.kept hb)
    replace hkL := Lib.hid (hkL.out.kept hb)
    replace hkR := Lib.hid (hkR.out.kept hb)
    replace hoI := Lib.hid (hoI.out.kept hb)
    have hzbv2 := hb.size
    have hzv2 := hT.out.size
    have hltLv2 := hkL.out.lt
    have hltRv2 := hkR.out.lt
    clear hb
    clear hok
    have hown0 := Lib.hid (World.ownsRow_lit (base := v2.heap.size) (e := 9) (size := 1) v2 #[] 0 (Nat.le_refl _) (by simp [maxLen]) rfl)
    obtain ⟨i0, hi_, hz0, hz1, hz2⟩ := info_parts Tryz.info_string
    obtain ⟨cL_0, cL_1, fL_0, fL_1⟩ := hkL.out.two
    go_wp2_with fail
    clear cL_0 cL_1 fL_0 fL_1
    have hoV := Lib.hid (OV.of (show (v2.alloc (.cells #[] 9)).ownsRow v2.heap.size 9 1 (.slice (some ⟨v2.heap.size, 0, none⟩) 0 0) 0 (([] : List ByteArray).map Value.string) from by simpa using hown0.out))
    clear hown0
    have hA := Lib.hid (below_alloc (w := v2) (.cells #[] 9))
    have hkn := Lib.hid (show Bk (v2.alloc (.cells #[] 9)) (v2.heap.size) 9 #[] from (by first | exact Bk.new _ _ _ | simpa using Bk.new v2 #[] 9))
    replace hT := Lib.hid (hT.out.kept hA.out)
    replace hkL := Lib.hid (hkL.out.kept hA.out)
    replace hkR := Lib.hid (hkR.out.kept hA.out)
    replace hoI := Lib.hid (hoI.out.kept hA.out)
    have hqE : v2.heap.size + 1 ≤ (v2.alloc (.cells #[] 9)).heap.size ∧ (v2.alloc (.cells #[] 9)).heap.size ≤ v2.heap.size + 1 := by simp
    have hkE := hkn
    clear hkn hA
    clear hkE
    generalize (v2.alloc (.cells #[] 9)) = v3 at *
    have hzv3 := hT.out.size
    go_loopw [5, 6] (fun v i wr => ∃ (k : Nat) (a' : Option Addr) (c' : Nat) (vs : List ByteArray), k ≤ m ∧ i = .int .i64 k ∧ v = .slice a' k c' ∧ Hid (vs.length = k) ∧ (∀ y ∈ vs, y.size ≤ 24) ∧ OV v2.heap.size wr.heap.size wr 9 1 a' k c' (vs.map Value.string) ∧ Bk wr L 26 #[.int .i64 (n : Int), .slice a1 m c1] ∧ Bk wr w.heap.size 32 #[.slice none 0 0] ∧ OV lo w.heap.size wr 63 4 a1 m c1 (itemsV xs) ∧ St w B a c l (k0 + k * 40) wr ∧ v2.heap.size < wr.heap.size) (fun _ i _ => m - (intOf i).toNat)
    case atStart => exact ⟨0, _, _, [], by omega, rfl, rfl, Lib.hid rfl, by simp, hoV.out.wider (Nat.le_refl _) (by omega), hkL.out, hkR.out, hoI.out, hT.out.more (by omega), by omega⟩
    case round =>
      clear hT hoV hkL hkR hoI
      obtain ⟨k, a3, c3, vs, hk, rfl, rfl, hvk, hV0, hoV, hkL, hkR, hoI, hT, hszr⟩ := hrel
      have hV := Lib.hid hV0
      replace hT := Lib.hid hT
      replace hoI := Lib.hid hoI
      replace hoV := Lib.hid hoV
      replace hkL := Lib.hid hkL
      replace hkR := Lib.hid hkR
      have hm63 := Lib.hid (show k + 1 ≤ maxLen by unfold maxLen; omega)
      have hzr := hT.out.size
      clear hV0
      have hltLwr := hkL.out.lt
      have hltRwr := hkR.out.lt
      by_cases hlt : k < m
      · obtain ⟨x, hx⟩ := get_some (l := xs) (k := k) (by rw [hxm.out]; exact hlt)
        have hlt' : (k : Int) < (m : Int) := by omega
        obtain ⟨g, rfl, hg1, hg2⟩ := OV.addr hoI.out (by omega)
        obtain ⟨⟨y0, y1, y2, y3⟩, _⟩ := row_item (a := none) hoI.out hx
        have hsm := Lib.hid (spec_l04Some B a c l _ g (k * 4) x.kind x.fr x.to wr hT.out.src (by omega) hl y1 y2 y3 (by omega))
        clear y0 y1 y2 y3
        obtain ⟨cL_0, cL_1, fL_0, fL_1⟩ := hkL.out.two
        go_wp2_with fail
        clear cL_0 cL_1 fL_0 fL_1
        refine (hsm.out).mono ?_
        rintro e v4 ⟨t, rfl, ht24, hs, hw⟩
        have hmv4 := hw.size
        replace hT := Lib.hid (hT.out.step hs hw)
        replace hkL := Lib.hid (hkL.out.within hw (by omega))
        replace hkR := Lib.hid (hkR.out.within hw (by omega))
        replace hoI := Lib.hid (hoI.out.within hw (by omega))
        replace hoV := Lib.hid (hoV.out.within hw (by omega))
        have hzv4 := hT.out.size
        have hltLv4 := hkL.out.lt
        have hltRv4 := hkR.out.lt
        clear hs hw
        have hszv : v2.heap.size ≤ v4.heap.size := by omega
        go_wp2_with (at_builtin; refine wpList_append_own _ rfl _ _ 27 rfl (v2.heap.size) 9 i0 (.string ⟨#[]⟩) 1 16 Tryz.underlying27 hi_ hz0 hz1 hz2 rfl (by decide) _ k (vs.map Value.string) rfl (hoV.out.1.alloc _) ⟨_, 0, none⟩ 1 1 [.string t] rfl rfl (news_one _ _ _) (one_one rfl) hm63.out (by omega) (by simp only [World.size_alloc]; omega) ?_; intro v6 w6 hown6 hg6 _; have hb6 := (((Below.refl (v2.heap.size) _).alloc hszv _).grown hg6 (by simp only [World.size_alloc]; omega) (fun k hk => (hoV.out.1.lt k hk).1)); replace hT := Lib.hid (hT.out.below (hb6.mono (by omega))); replace hkL := Lib.hid (hkL.out.below hb6 (by omega)); replace hkR := Lib.hid (hkR.out.below hb6 (by omega)); replace hoI := Lib.hid (hoI.out.below hb6 (by omega)); have hsz6 := hb6.size; obtain ⟨a6, c6, hv6, _, _⟩ := own_slice hown6; subst hv6; have hoV6 := Lib.hid (OV.of hown6); clear hown6 hg6 hb6 hoV)
        go_roundw
        case rel => exact ⟨k + 1, a6, c6, vs ++ [t], by omega, by go_num, rfl, Lib.hid (by rw [List.length_append, hvk.out]; rfl), texts_snoc hV.out ht24, by (rw [List.map_append]; exact hoV6.out), hkL.out, hkR.out, hoI.out, hT.out.more (by omega), by omega⟩
        case measure => simp [intOf]; omega
      · obtain rfl : k = m := by omega
        have hcf := Lib.hid (spec_CardFor (n : Int) a1 c1 xs a3 c3 vs wr hoI.out.row hoV.out.row hsz (by rw [hxm.out]; exact hoI.out.capn.1) (texts_small (fun y hy => Nat.le_trans (hV.out y hy) (by omega)) (by rw [hvk.out]; omega)))
        have hcf2 := hcf.out
        rw [hxm.out, hvk.out] at hcf2
        replace hcf := Lib.hid hcf2
        clear hcf2
        have h20 := cfL_20 (n : Int) xs vs
        generalize cfL (n : Int) xs vs = ys at *
        generalize cfCode (n : Int) xs vs = code at *
        obtain ⟨cL_0, cL_1, fL_0, fL_1⟩ := hkL.out.two
        go_wp2_with fail
        clear cL_0 cL_1 fL_0 fL_1
        refine (hcf.out).mono ?_
        rintro e v4 ⟨a5, c5, rfl, hox, hb⟩
        have hoX := Lib.hid (OV.of hox)
        clear hox
        replace hT := Lib.hid (hT.out.kept hb)
        replace hkL := Lib.hid (hkL.out.kept hb)
        replace hkR := Lib.hid (hkR.out.kept hb)
        replace hoI := Lib.hid (hoI.out.kept hb)
        replace hoV := Lib.hid (hoV.out.kept hb)
        have hzbv4 := hb.size
        have hzv4 := hT.out.size
        have hltLv4 := hkL.out.lt
        have hltRv4 := hkR.out.lt
        clear hb
        clear hcf hoI hoV
        by_cases hc0 : code = 0
        · have hcb : (code != 0) = false := by simp [hc0]
          clear hc0
          obtain ⟨cL_0, cL_1, fL_0, fL_1⟩ := hkL.out.two
          go_wp2_with fail
          clear cL_0 cL_1 fL_0 fL_1
          have hA := Lib.hid (below_alloc (w := v4) (.cells #[.slice a5 ys.length c5] 32))
          have hkn := Lib.hid (show Bk (v4.alloc (.cells #[.slice a5 ys.length c5] 32)) (v4.heap.size) 32 #[.slice a5 ys.length c5] from (by first | exact Bk.new _ _ _ | simpa using Bk.new v4 #[.slice a5 ys.length c5] 32))
          replace hT := Lib.hid (hT.out.kept hA.out)
          replace hkL := Lib.hid (hkL.out.kept hA.out)
          replace hkR := Lib.hid (hkR.out.kept hA.out)
          replace hoX := Lib.hid (hoX.out.kept hA.out)
          have hqX : v4.heap.size + 1 ≤ (v4.alloc (.cells #[.slice a5 ys.length c5] 32)).heap.size ∧ (v4.alloc (.cells #[.slice a5 ys.length c5] 32)).heap.size ≤ v4.heap.size + 1 := by simp
          have hkX := hkn
          clear hkn hA
          generalize (v4.alloc (.cells #[.slice a5 ys.length c5] 32)) = v5 at *
          have hzv5 := hT.out.size
          refine (spec_one B a c l _ 10 v5 hT.out.src (by omega) hl (by omega) (by omega)).mono ?_
          rintro e v6 ⟨b, rfl, hs, hw⟩
          have hmv6 := hw.size
          replace hT := Lib.hid (hT.out.step hs hw)
          replace hkL := Lib.hid (hkL.out.within hw (by omega))
          replace hkR := Lib.hid (hkR.out.within hw (by omega))
          replace hkX := Lib.hid (hkX.out.within hw (by omega))
          replace hoX := Lib.hid (hoX.out.within hw (by omega))
          have hzv6 := hT.out.size
          have hltLv6 := hkL.out.lt
          have hltRv6 := hkR.out.lt
          have hltXv6 := hkX.out.lt
          clear hs hw
          cases b
          · skip
            obtain ⟨cX_0, fX_0⟩ := hkX.out.one
            obtain ⟨cR_0, fR_0⟩ := hkR.out.one
            go_wp2_with fail
            refine bodyPost_ret (v := .agg #[.slice a5 ys.length c5]) (by simp [results, Tryz.results38, go_sem, *]) rfl ⟨_, _, ys, rfl, ?_, ?_, ?_, ?_⟩
            · omega
            · exact own_mono (ownsRow_setCell_below (a := ⟨w.heap.size, 0, none⟩) hoX.out.1 (by dsimp only; omega) _) (by omega)
            · exact ((hT.out.set (p := ⟨w.heap.size, 0, none⟩) (Nat.le_refl _) _).src).more (by omega)
            · exact (hT.out.set (p := ⟨w.heap.size, 0, none⟩) (Nat.le_refl _) _).win
          · skip
            obtain ⟨cL_0, cL_1, fL_0, fL_1⟩ := hkL.out.two
            go_wp2_with fail
            clear cL_0 cL_1 fL_0 fL_1
            refine (spec_l03Draw B a c l _ n v6 hT.out.src (by omega) hl (by omega)).mono ?_
            rintro e v7 ⟨a6, c6, zs, rfl, hzl, hoz, hs, hw⟩
            have hoZ := Lib.hid (OV.of hoz)
            replace hzl := Lib.hid hzl
            clear hoz
            have hmv7 := hw.size
            replace hT := Lib.hid (hT.out.step hs hw)
            replace hkL := Lib.hid (hkL.out.within hw (by omega))
            replace hkR := Lib.hid (hkR.out.within hw (by omega))
            replace hkX := Lib.hid (hkX.out.within hw (by omega))
            replace hoX := Lib.hid (hoX.out.within hw (by omega))
            have hzv7 := hT.out.size
            have hltLv7 := hkL.out.lt
            have hltRv7 := hkR.out.lt
            have hltXv7 := hkX.out.lt
            clear hs hw
            obtain ⟨cR_0, fR_0⟩ := hkR.out.one
            go_wp2_with fail
            refine bodyPost_ret (v := .agg #[.slice a6 n c6]) (by simp [results, Tryz.results38, go_sem, *]) rfl ⟨_, _, zs, by rw [hzl.out], ?_, ?_, ?_, ?_⟩
            · rw [hzl.out]; omega
            · exact own_mono (ownsRow_setCell_below (a := ⟨w.heap.size, 0, none⟩) (show _ from by rw [hzl.out]; exact hoZ.out.1) (by dsimp only; omega) _) (by omega)
            · exact ((hT.out.set (p := ⟨w.heap.size, 0, none⟩) (Nat.le_refl _) _).src).more (by omega)
            · exact (hT.out.set (p := ⟨w.heap.size, 0, none⟩) (Nat.le_refl _) _).win
        · have hcb : (code != 0) = true := by simp [hc0]
          obtain ⟨cL_0, cL_1, fL_0, fL_1⟩ := hkL.out.two
          go_wp2_with fail
          clear cL_0 cL_1 fL_0 fL_1
          have hA := Lib.hid (below_alloc (w := v4) (.cells #[.slice a5 ys.length c5] 32))
          have hkn := Lib.hid (show Bk (v4.alloc (.cells #[.slice a5 ys.length c5] 32)) (v4.heap.size) 32 #[.slice a5 ys.length c5] from (by first | exact Bk.new _ _ _ | simpa using Bk.new v4 #[.slice a5 ys.length c5] 32))
          replace hT := Lib.hid (hT.out.kept hA.out)
          replace hkL := Lib.hid (hkL.out.kept hA.out)
          replace hkR := Lib.hid (hkR.out.kept hA.out)
          replace hoX := Lib.hid (hoX.out.kept hA.out)
          have hqX : v4.heap.size + 1 ≤ (v4.alloc (.cells #[.slice a5 ys.length c5] 32)).heap.size ∧ (v4.alloc (.cells #[.slice a5 ys.length c5] 32)).heap.size ≤ v4.heap.size + 1 := by simp
          have hkX := hkn
          clear hkn hA
          generalize (v4.alloc (.cells #[.slice a5 ys.length c5] 32)) = v5 at *
          have hzv5 := hT.out.size
          refine (spec_l03Draw B a c l _ n v5 hT.out.src (by omega) hl (by omega)).mono ?_
          rintro e v6 ⟨a6, c6, zs, rfl, hzl, hoz, hs, hw⟩
          have hoZ := Lib.hid (OV.of hoz)
          replace hzl := Lib.hid hzl
          clear hoz
          have hmv6 := hw.size
          replace hT := Lib.hid (hT.out.step hs hw)
          replace hkL := Lib.hid (hkL.out.within hw (by omega))
          replace hkR := Lib.hid (hkR.out.within hw (by omega))
          replace hkX := Lib.hid (hkX.out.within hw (by omega))
          replace hoX := Lib.hid (hoX.out.within hw (by omega))
          have hzv6 := hT.out.size
          have hltLv6 := hkL.out.lt
          have hltRv6 := hkR.out.lt
          have hltXv6 := hkX.out.lt
          clear hs hw
          obtain ⟨cR_0, fR_0⟩ := hkR.out.one
          go_wp2_with fail
          refine bodyPost_ret (v := .agg #[.slice a6 n c6]) (by simp [results, Tryz.results38, go_sem, *]) rfl ⟨_, _, zs, by rw [hzl.out], ?_, ?_, ?_, ?_⟩
          · rw [hzl.out]; omega
          · exact own_mono (ownsRow_setCell_below (a := ⟨w.heap.size, 0, none⟩) (show _ from by rw [hzl.out]; exact hoZ.out.1) (by dsimp only; omega) _) (by omega)
          · exact ((hT.out.set (p := ⟨w.heap.size, 0, none⟩) (Nat.le_refl _) _).src).more (by omega)
          · exact (hT.out.set (p := ⟨w.heap.size, 0, none⟩) (Nat.le_refl _) _).win
end Go.Proofs.YtmpfnkheohlmiaaGreatDoor
