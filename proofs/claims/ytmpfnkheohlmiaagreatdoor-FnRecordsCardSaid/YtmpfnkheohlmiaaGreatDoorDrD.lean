/- The walk of the function that draws a layout that is seldom not valid: what is drawn lies in a row of the call's own; nothing but the source is written. -/
import Derived.Test.YtmpfnkheohlmiaaGreatDoorDrC
import Derived.Deep.CutRange
namespace Go.Proofs.YtmpfnkheohlmiaaGreatDoor
open Go.RowKit
set_option maxRecDepth 100000
set_option linter.unusedVariables false
set_option linter.unusedSimpArgs false
set_option linter.unnecessarySimpa false

/-- the text of a row of one byte, behind a text -/
theorem conv_one {P : Program} (w : World) (src dst e t : TypeId) (X : Int) (hs : P.underlying src = some (.slice e)) (he : P.underlying e = some (.int .u8)) (hd : P.underlying dst = some .string) (h0 : 0 ≤ X) (h1 : X ≤ 255) :
    ∃ s : ByteArray, s.size = 1 ∧ (convert src dst (.slice (some ⟨w.heap.size, 0, none⟩) 1 1)).run P (w.alloc (.cells #[.int .u8 X] t)) = .ok (.string s) (w.alloc (.cells #[.int .u8 X] t)) := by
  obtain ⟨u, rfl⟩ := byte_of h0 h1
  exact ⟨⟨[u].toArray⟩, rfl, run_text (P := P) _ src dst e (some ⟨w.heap.size, 0, none⟩) 1 [u] hs he hd (by simp) (row_block (heap_alloc_new w (.cells #[.int .u8 (u.toNat : Int)] t)))⟩
set_option maxHeartbeats 16000000 in
theorem spec_l04Bent (B : Nat) (a : Option Addr) (c : Nat) (l : List UInt8) (k0 : Nat) (w : World) (h : SrcIs w B a c l k0) (hk0 : k0 ≤ 134217728) (hl : l.length ≤ 1073741824) :
    Calls Tryz.prog 29 #[.pointer (some ⟨B, 0, none⟩)] w (DrawnL w B a c l (k0 + 128) 63 LayP) := by
  have hT := Lib.hid (St.start h)
  have hz := hT.out.size
  clear h
  obtain ⟨i0, hi, hz0, hz1, hz2⟩ := info_parts Tryz.info_item
  go_enter Tryz.func29, Tryz.ntmps29
  go_wp2_with fail
  have hA := Lib.hid (below_alloc (w := w) (.cells #[.int .i64 0, .slice none 0 0] 26))
  have hkn := Lib.hid (show Bk (w.alloc (.cells #[.int .i64 0, .slice none 0 0] 26)) (w.heap.size) 26 #[.int .i64 0, .slice none 0 0] from (by first | exact Bk.new _ _ _ | simpa using Bk.new w #[.int .i64 0, .slice none 0 0] 26))
  replace hT := Lib.hid (hT.out.kept hA.out)
  have hqR : w.heap.size + 1 ≤ (w.alloc (.cells #[.int .i64 0, .slice none 0 0] 26)).heap.size ∧ (w.alloc (.cells #[.int .i64 0, .slice none 0 0] 26)).heap.size ≤ w.heap.size + 1 := by simp
  have hkR := hkn
  clear hkn hA
  generalize (w.alloc (.cells #[.int .i64 0, .slice none 0 0] 26)) = v1 at *
  have hzv1 := hT.out.size
  refine (spec_l04Draw B a c l _ v1 hT.out.src (by omega) hl).mono ?_
  rintro e v2 ⟨WD, a3, c3, xs, rfl, ⟨hW0, hW1, hx5, hP0⟩, hoI, hs, hw⟩
  have hP := Lib.hid hP0
  replace hoI := Lib.hid hoI
  clear hP0
  have hmv2 := hw.size
  replace hT := Lib.hid (hT.out.step hs hw)
  replace hkR := Lib.hid (hkR.out.within hw (by omega))
  have hzv2 := hT.out.size
  have hltRv2 := hkR.out.lt
  clear hs hw
  generalize hxm : xs.length = m at *
  replace hxm := Lib.hid hxm
  replace hoI := Lib.hid (show OV v1.heap.size v2.heap.size v2 63 4 a3 m c3 (itemsV xs) by have h := hoI.out; unfold OT at h; rw [hxm.out] at h; exact h)
  have hW0' : -1 ≤ WD := by omega
  have hW1' : WD ≤ 21 := by omega
  have hm16 : m ≤ 16 := by omega
  clear hW0 hW1 hx5
  go_wp2_with fail
  have hA := Lib.hid (below_alloc (w := v2) (.cells #[.int .i64 WD, .slice a3 m c3] 26))
  have hkn := Lib.hid (show Bk (v2.alloc (.cells #[.int .i64 WD, .slice a3 m c3] 26)) (v2.heap.size) 26 #[.int .i64 WD, .slice a3 m c3] from (by first | exact Bk.new _ _ _ | simpa using Bk.new v2 #[.int .i64 WD, .slice a3 m c3] 26))
  replace hT := Lib.hid (hT.out.kept hA.out)
  replace hkR := Lib.hid (hkR.out.kept hA.out)
  replace hoI := Lib.hid (hoI.out.kept hA.out)
  have hqL : v2.heap.size + 1 ≤ (v2.alloc (.cells #[.int .i64 WD, .slice a3 m c3] 26)).heap.size ∧ (v2.alloc (.cells #[.int .i64 WD, .slice a3 m c3] 26)).heap.size ≤ v2.heap.size + 1 := by simp
  have hkL := hkn
  clear hkn hA
  generalize (v2.alloc (.cells #[.int .i64 WD, .slice a3 m c3] 26)) = v3 at *
  have hzv3 := hT.out.size
  refine (spec_one B a c l _ 24 v3 hT.out.src (by omega) hl (by omega) (by omega)).mono ?_
  rintro e v4 ⟨b, rfl, hs, hw⟩
  have hmv4 := hw.size
  replace hT := Lib.hid (hT.out.step hs hw)
  replace hkR := Lib.hid (hkR.out.within hw (by omega))
  replace hkL := Lib.hid (hkL.out.within hw (by omega))
  replace hoI := Lib.hid (hoI.out.within hw (by omega))
  have hzv4 := hT.out.size
  have hltRv4 := hkR.out.lt
  have hltLv4 := hkL.out.lt
  clear hs hw
  go_upto_if 10 with (fail)
  go_cut [4, 5] from 7 (fun s4 s5 wx => ∃ (WD : Int) (m : Nat) (xs : List Itm) (a3 : Option Addr) (c3 : Nat), -1 ≤ WD ∧ WD ≤ 21 ∧ m ≤ 16 ∧ Hid (xs.length = m) ∧ (∀ y ∈ xs, y.name.size ≤ 16) ∧ OV (w.heap.size + 1) wx.heap.size wx 63 4 a3 m c3 (itemsV xs) ∧ Bk wx v2.heap.size 26 #[.int .i64 WD, .slice a3 m c3] ∧ Bk wx w.heap.size 26 #[.int .i64 0, .slice none 0 0] ∧ St w B a c l (k0 + 100) wx)
  case first =>
    cases b
    · go_wp2_with fail
      go_meet
      case rel => exact ⟨WD, m, xs, a3, c3, hW0', hW1', hm16, hxm, hP.out, hoI.out.wider (by omega) (by omega), hkL.out, hkR.out, hT.out.more (by omega)⟩
    · skip
      obtain ⟨cL_0, cL_1, fL_0, fL_1⟩ := hkL.out.two
      go_wp2_with fail
      clear cL_0 cL_1 fL_0 fL_1
      clear hP hxm hoI hm16 hW0' hW1'
      replace hT := Lib.hid (hT.out.set (p := ⟨v2.heap.size, 0, none⟩) (by dsimp only; omega) (.int .i64 20))
      replace hkR := Lib.hid (hkR.out.far (p := ⟨v2.heap.size, 0, none⟩) (by dsimp only; omega) (.int .i64 20))
      replace hkL := Lib.hid (show Bk (v4.setCell ⟨v2.heap.size, 0, none⟩ (.int .i64 20)) (v2.heap.size) 26 #[.int .i64 20, .slice a3 m c3] from hkL.out.set 0 (.int .i64 20))
      have hqz1 : v4.heap.size ≤ (v4.setCell ⟨v2.heap.size, 0, none⟩ (.int .i64 20)).heap.size ∧ (v4.setCell ⟨v2.heap.size, 0, none⟩ (.int .i64 20)).heap.size ≤ v4.heap.size := by simp only [World.size_setCell]; exact ⟨Nat.le_refl _, Nat.le_refl _⟩
      replace hT := Lib.hid (hT.out.set (p := ⟨v2.heap.size, 1, none⟩) (by dsimp only; omega) (.slice (some ⟨v4.heap.size, 0, none⟩) 0 0))
      replace hkR := Lib.hid (hkR.out.far (p := ⟨v2.heap.size, 1, none⟩) (by dsimp only; omega) (.slice (some ⟨v4.heap.size, 0, none⟩) 0 0))
      replace hkL := Lib.hid (show Bk ((v4.setCell ⟨v2.heap.size, 0, none⟩ (.int .i64 20)).setCell ⟨v2.heap.size, 1, none⟩ (.slice (some ⟨v4.heap.size, 0, none⟩) 0 0)) (v2.heap.size) 26 #[.int .i64 20, .slice (some ⟨v4.heap.size, 0, none⟩) 0 0] from hkL.out.set 1 (.slice (some ⟨v4.heap.size, 0, none⟩) 0 0))
      have hqz2 : (v4.setCell ⟨v2.heap.size, 0, none⟩ (.int .i64 20)).heap.size ≤ ((v4.setCell ⟨v2.heap.size, 0, none⟩ (.int .i64 20)).setCell ⟨v2.heap.size, 1, none⟩ (.slice (some ⟨v4.heap.size, 0, none⟩) 0 0)).heap.size ∧ ((v4.setCell ⟨v2.heap.size, 0, none⟩ (.int .i64 20)).setCell ⟨v2.heap.size, 1, none⟩ (.slice (some ⟨v4.heap.size, 0, none⟩) 0 0)).heap.size ≤ (v4.setCell ⟨v2.heap.size, 0, none⟩ (.int .i64 20)).heap.size := by simp only [World.size_setCell]; exact ⟨Nat.le_refl _, Nat.le_refl _⟩
      have hoI := Lib.hid (OV.of (show (((v4.setCell ⟨v2.heap.size, 0, none⟩ (.int .i64 20)).setCell ⟨v2.heap.size, 1, none⟩ (.slice (some ⟨v4.heap.size, 0, none⟩) 0 0)).alloc (.cells #[] 63)).ownsRow v4.heap.size 63 4 (.slice (some ⟨v4.heap.size, 0, none⟩) 0 0) 0 (itemsV []) from by have h := World.ownsRow_lit (base := v4.heap.size) (e := 63) (size := 4) ((v4.setCell ⟨v2.heap.size, 0, none⟩ (.int .i64 20)).setCell ⟨v2.heap.size, 1, none⟩ (.slice (some ⟨v4.heap.size, 0, none⟩) 0 0)) #[] 0 (by simp) (by simp [maxLen]) rfl; simpa [itemsV] using h))
      have hA := Lib.hid (below_alloc (w := ((v4.setCell ⟨v2.heap.size, 0, none⟩ (.int .i64 20)).setCell ⟨v2.heap.size, 1, none⟩ (.slice (some ⟨v4.heap.size, 0, none⟩) 0 0))) (.cells #[] 63))
      have hkn := Lib.hid (show Bk (((v4.setCell ⟨v2.heap.size, 0, none⟩ (.int .i64 20)).setCell ⟨v2.heap.size, 1, none⟩ (.slice (some ⟨v4.heap.size, 0, none⟩) 0 0)).alloc (.cells #[] 63)) (v4.heap.size) 63 #[] from (by first | exact Bk.new _ _ _ | simpa using Bk.new ((v4.setCell ⟨v2.heap.size, 0, none⟩ (.int .i64 20)).setCell ⟨v2.heap.size, 1, none⟩ (.slice (some ⟨v4.heap.size, 0, none⟩) 0 0)) #[] 63))
      replace hT := Lib.hid (hT.out.kept hA.out)
      replace hkR := Lib.hid (hkR.out.kept hA.out)
      replace hkL := Lib.hid (hkL.out.kept hA.out)
      have hqE : ((v4.setCell ⟨v2.heap.size, 0, none⟩ (.int .i64 20)).setCell ⟨v2.heap.size, 1, none⟩ (.slice (some ⟨v4.heap.size, 0, none⟩) 0 0)).heap.size + 1 ≤ (((v4.setCell ⟨v2.heap.size, 0, none⟩ (.int .i64 20)).setCell ⟨v2.heap.size, 1, none⟩ (.slice (some ⟨v4.heap.size, 0, none⟩) 0 0)).alloc (.cells #[] 63)).heap.size ∧ (((v4.setCell ⟨v2.heap.size, 0, none⟩ (.int .i64 20)).setCell ⟨v2.heap.size, 1, none⟩ (.slice (some ⟨v4.heap.size, 0, none⟩) 0 0)).alloc (.cells #[] 63)).heap.size ≤ ((v4.setCell ⟨v2.heap.size, 0, none⟩ (.int .i64 20)).setCell ⟨v2.heap.size, 1, none⟩ (.slice (some ⟨v4.heap.size, 0, none⟩) 0 0)).heap.size + 1 := by simp
      have hkE := hkn
      clear hkn hA
      clear hkE
      generalize (((v4.setCell ⟨v2.heap.size, 0, none⟩ (.int .i64 20)).setCell ⟨v2.heap.size, 1, none⟩ (.slice (some ⟨v4.heap.size, 0, none⟩) 0 0)).alloc (.cells #[] 63)) = v5 at *
      have hzv5 := hT.out.size
      refine (spec_pick B a c l _ (2) v5 hT.out.src (by omega) hl (by omega) (by omega)).mono ?_
      rintro e v6 ⟨r, rfl, ⟨r0, r1, r2⟩, hs, hw⟩
      have hmv6 := hw.size
      replace hT := Lib.hid (hT.out.step hs hw)
      replace hkR := Lib.hid (hkR.out.within hw (by omega))
      replace hkL := Lib.hid (hkL.out.within hw (by omega))
      replace hoI := Lib.hid (hoI.out.within hw (by omega))
      have hzv6 := hT.out.size
      have hltRv6 := hkR.out.lt
      have hltLv6 := hkL.out.lt
      clear hs hw
      replace r1 := r1 (by omega)
      clear r2
      obtain ⟨q, rfl⟩ := Int.eq_ofNat_of_zero_le r0
      have hcast := Lib.hid (show (12 : Int) + (q : Int) = ((12 + q : Nat) : Int) by omega)
      have hq13 : 12 + q ≤ 13 := by omega
      generalize 12 + q = q4 at *
      clear r0 r1
      replace hoI := Lib.hid (hoI.out.wider (Nat.le_refl _) (show _ ≤ v6.heap.size by omega))
      have hVB : v4.heap.size < v6.heap.size := by omega
      go_wp2_with fail
      rw [hcast.out]
      go_loopw [4] (fun i wr => ∃ (r m : Nat) (xs : List Itm) (a' : Option Addr) (c' : Nat), m + r ≤ 13 ∧ i = .int .i64 r ∧ Hid (xs.length = m) ∧ (∀ y ∈ xs, y.name.size ≤ 16) ∧ OV v4.heap.size wr.heap.size wr 63 4 a' m c' (itemsV xs) ∧ Bk wr v2.heap.size 26 #[.int .i64 20, .slice a' m c'] ∧ Bk wr w.heap.size 26 #[.int .i64 0, .slice none 0 0] ∧ St w B a c l (k0 + 80) wr ∧ v4.heap.size < wr.heap.size) (fun i _ => (intOf i).toNat)
      case atStart => exact ⟨q4, 0, [], _, _, by omega, by first | rfl | (rw [show wrap64 (q4 : Int) = (q4 : Int) by unfold wrap64; omega]), Lib.hid rfl, by simp, hoI.out, hkL.out, hkR.out, hT.out.more (by omega), by omega⟩
      case round =>
        clear hT hoI hkL hkR
        obtain ⟨r, m, xs, a3, c3, hrm, rfl, hxm, hP0, hoI, hkL, hkR, hT, hszr⟩ := hrel
        have hP := Lib.hid hP0
        replace hT := Lib.hid hT
        replace hoI := Lib.hid hoI
        replace hkL := Lib.hid hkL
        replace hkR := Lib.hid hkR
        have hm63 := Lib.hid (show m + 1 ≤ maxLen by unfold maxLen; omega)
        have hm16 : m ≤ 16 := by omega
        have hzr := hT.out.size
        clear hP0
        have hltRwr := hkR.out.lt
        have hltLwr := hkL.out.lt
        by_cases hlt : 0 < r
        · obtain ⟨r, rfl⟩ : ∃ q, r = q + 1 := ⟨r - 1, by omega⟩
          have hwu : IntKind.u8.wrap (97 + (m : Int)) = 97 + (m : Int) := by rw [IntKind.wrap_u8]; omega
          obtain ⟨T1, hT1, hcv⟩ := conv_one (P := Tryz.prog) wr 22 9 5 5 (97 + (m : Int)) Tryz.underlying22 Tryz.underlying5 Tryz.underlying9 (by omega) (by omega)
          have hnsz := Lib.hid (show ((⟨#[105]⟩ : ByteArray) ++ T1).size ≤ 16 by rw [ByteArray.size_append, hT1]; decide)
          have hneL := Lib.hid (hoI.out.ne_block hkL.out (by decide))
          have hszlo : v4.heap.size ≤ wr.heap.size := by omega
          have hnews := Lib.hid (show Row ((wr.alloc (.cells #[.int .u8 (97 + (m : Int))] 5)).alloc (.cells #[.string ((⟨#[105]⟩ : ByteArray) ++ T1), .int .i64 1, .int .i64 (m : Int), .int .i64 ((m : Int) + 1)] 63)) (some ⟨wr.heap.size + 1, 0, none⟩) ((⟨(⟨#[105]⟩ : ByteArray) ++ T1, 1, (m : Int), (m : Int) + 1⟩ : Itm)).cells from by
            have h := row_block (heap_alloc_new (wr.alloc (.cells #[.int .u8 (97 + (m : Int))] 5)) (.cells #[.string ((⟨#[105]⟩ : ByteArray) ++ T1), .int .i64 1, .int .i64 (m : Int), .int .i64 ((m : Int) + 1)] 63))
            rw [show (wr.alloc (.cells #[.int .u8 (97 + (m : Int))] 5)).heap.size = wr.heap.size + 1 by simp] at h
            exact h)
          obtain ⟨cL_0, cL_1, fL_0, fL_1⟩ := hkL.out.two
          go_wp2_with (at_builtin; refine wpList_append_own _ rfl _ _ 24 rfl (v4.heap.size) 63 i0 _ 4 40 Tryz.underlying24 hi hz0 hz1 hz2 rfl (by decide) _ m (itemsV xs) rfl ((hoI.out.1.alloc _).alloc _) ⟨wr.heap.size + 1, 0, none⟩ 1 1 ((⟨(⟨#[105]⟩ : ByteArray) ++ T1, 1, (m : Int), (m : Int) + 1⟩ : Itm)).cells rfl rfl (Row.add hnews.out) (item_one _) hm63.out (by omega) (by simp only [World.size_alloc]; omega) ?_; intro v5_ w5 hown5 hg5 _; have hb5 := ((((Below.refl (v4.heap.size) _).alloc hszlo _).alloc (by simp only [World.size_alloc]; omega) _).grown hg5 (by simp only [World.size_alloc]; omega) (fun k hk => (hoI.out.1.lt k hk).1)); replace hT := Lib.hid (hT.out.below (hb5.mono (by omega))); replace hkL := Lib.hid (hkL.out.below hb5 (by omega)); replace hkR := Lib.hid (hkR.out.below hb5 (by omega)); have hsz5 := hb5.size; obtain ⟨a5, c5, hv5, _, _⟩ := own_slice hown5; subst hv5; replace hoI := Lib.hid (OV.of hown5); clear hown5 hg5 hb5 cL_0 cL_1 fL_0 fL_1; obtain ⟨cL_0, cL_1, fL_0, fL_1⟩ := hkL.out.two)
          clear cL_0 cL_1 fL_0 fL_1 hnews hneL
          replace hoI := Lib.hid (OV.far hoI.out hkL.out (by decide) 1 (.slice a5 (m + 1) c5))
          replace hT := Lib.hid (hT.out.set (p := ⟨v2.heap.size, 1, none⟩) (by dsimp only; omega) (.slice a5 (m + 1) c5))
          replace hkR := Lib.hid (hkR.out.far (p := ⟨v2.heap.size, 1, none⟩) (by dsimp only; omega) (.slice a5 (m + 1) c5))
          replace hkL := Lib.hid (show Bk (w5.setCell ⟨v2.heap.size, 1, none⟩ (.slice a5 (m + 1) c5)) (v2.heap.size) 26 #[.int .i64 20, .slice a5 (m + 1) c5] from hkL.out.set 1 (.slice a5 (m + 1) c5))
          have hqz1 : w5.heap.size ≤ (w5.setCell ⟨v2.heap.size, 1, none⟩ (.slice a5 (m + 1) c5)).heap.size ∧ (w5.setCell ⟨v2.heap.size, 1, none⟩ (.slice a5 (m + 1) c5)).heap.size ≤ w5.heap.size := by simp only [World.size_setCell]; exact ⟨Nat.le_refl _, Nat.le_refl _⟩
          go_roundw
          case rel => exact ⟨r, m + 1, xs ++ [(⟨(⟨#[105]⟩ : ByteArray) ++ T1, 1, (m : Int), (m : Int) + 1⟩ : Itm)], a5, c5, by omega, by first | go_num | (congr 1; omega), Lib.hid (by rw [List.length_append, hxm.out]; rfl), lay_snoc hP.out hnsz.out, by (rw [itemsV_append, itemsV_one]; exact hoI.out.wider (Nat.le_refl _) (by omega)), hkL.out, hkR.out, hT.out, by omega⟩
          case measure => first | (simp [intOf]; done) | (simp [intOf]; omega)
        · obtain rfl : r = 0 := by omega
          go_wp2_with fail
          go_meet
          case rel => exact ⟨20, m, xs, a3, c3, by omega, by omega, hm16, hxm, hP.out, hoI.out.wider (by omega) (by omega), hkL.out, hkR.out, hT.out.more (by omega)⟩
  case rest =>
    clear hP hxm hoI hm16 hW0' hW1'
    clear hT hkL hkR
    obtain ⟨WD, m, xs, a3, c3, hW0', hW1', hm16, hxm, hP0, hoI, hkL, hkR, hT⟩ := hcut
    have hP := Lib.hid hP0
    replace hT := Lib.hid hT
    replace hoI := Lib.hid hoI
    replace hkL := Lib.hid hkL
    replace hkR := Lib.hid hkR
    have hz_r1 := hT.out.size
    clear hP0
    have hltRr1 := hkR.out.lt
    have hltLr1 := hkL.out.lt
    go_wp2_with fail
    refine (spec_one B a c l _ 20 wc hT.out.src (by omega) hl (by omega) (by omega)).mono ?_
    rintro e v5 ⟨b9, rfl, hs, hw⟩
    have hmv5 := hw.size
    replace hT := Lib.hid (hT.out.step hs hw)
    replace hkR := Lib.hid (hkR.out.within hw (by omega))
    replace hkL := Lib.hid (hkL.out.within hw (by omega))
    replace hoI := Lib.hid (hoI.out.within hw (by omega))
    have hzv5 := hT.out.size
    have hltRv5 := hkR.out.lt
    have hltLv5 := hkL.out.lt
    clear hs hw
    go_upto_if 40 with (fail)
    go_cut [] from 7 (fun wx => ∃ (WD : Int) (m : Nat) (xs : List Itm) (a3 : Option Addr) (c3 : Nat), -1 ≤ WD ∧ WD ≤ 21 ∧ m ≤ 16 ∧ Hid (xs.length = m) ∧ (∀ y ∈ xs, y.name.size ≤ 16) ∧ OV (w.heap.size + 1) wx.heap.size wx 63 4 a3 m c3 (itemsV xs) ∧ Bk wx v2.heap.size 26 #[.int .i64 WD, .slice a3 m c3] ∧ Bk wx w.heap.size 26 #[.int .i64 0, .slice none 0 0] ∧ St w B a c l (k0 + 110) wx)
    case first =>
      cases b9
      · go_wp2_with fail
        go_meet
        case rel => exact ⟨WD, m, xs, a3, c3, hW0', hW1', hm16, hxm, hP.out, hoI.out.wider (by omega) (by omega), hkL.out, hkR.out, hT.out.more (by omega)⟩
      · go_wp2_with fail
        have hA := Lib.hid (below_alloc (w := v5) (.cells #[.int .i64 (-1), .int .i64 0, .int .i64 1, .int .i64 20, .int .i64 21] 2))
        have hkn := Lib.hid (show Bk (v5.alloc (.cells #[.int .i64 (-1), .int .i64 0, .int .i64 1, .int .i64 20, .int .i64 21] 2)) (v5.heap.size) 2 #[.int .i64 (-1), .int .i64 0, .int .i64 1, .int .i64 20, .int .i64 21] from (by first | exact Bk.new _ _ _ | simpa using Bk.new v5 #[.int .i64 (-1), .int .i64 0, .int .i64 1, .int .i64 20, .int .i64 21] 2))
        replace hT := Lib.hid (hT.out.kept hA.out)
        replace hkR := Lib.hid (hkR.out.kept hA.out)
        replace hkL := Lib.hid (hkL.out.kept hA.out)
        replace hoI := Lib.hid (hoI.out.kept hA.out)
        have hqA : v5.heap.size + 1 ≤ (v5.alloc (.cells #[.int .i64 (-1), .int .i64 0, .int .i64 1, .int .i64 20, .int .i64 21] 2)).heap.size ∧ (v5.alloc (.cells #[.int .i64 (-1), .int .i64 0, .int .i64 1, .int .i64 20, .int .i64 21] 2)).heap.size ≤ v5.heap.size + 1 := by simp
        have hkA := hkn
        clear hkn hA
        generalize (v5.alloc (.cells #[.int .i64 (-1), .int .i64 0, .int .i64 1, .int .i64 20, .int .i64 21] 2)) = v6 at *
        have hzv6 := hT.out.size
        have hrA := Lib.hid (show RI v6 (some ⟨v5.heap.size, 0, none⟩) [-1, 0, 1, 20, 21] from row_block hkA.out)
        clear hkA
        refine (spec_amongN B a c l _ (v5.heap.size) 0 5 5 [-1, 0, 1, 20, 21] v6 hT.out.src (by omega) hl hrA.out rfl (by omega) (by omega) (by omega)).mono ?_
        rintro e v7 ⟨W9, rfl, htm, hs, hw⟩
        have hmv7 := hw.size
        replace hT := Lib.hid (hT.out.step hs hw)
        replace hkR := Lib.hid (hkR.out.within hw (by omega))
        replace hkL := Lib.hid (hkL.out.within hw (by omega))
        replace hoI := Lib.hid (hoI.out.within hw (by omega))
        have hzv7 := hT.out.size
        have hltRv7 := hkR.out.lt
        have hltLv7 := hkL.out.lt
        clear hs hw
        have hW0 : -1 ≤ W9 := by
          simp only [List.mem_cons, List.not_mem_nil, or_false] at htm; omega
        have hW1 : W9 ≤ 21 := by
          simp only [List.mem_cons, List.not_mem_nil, or_false] at htm; omega
        clear htm hrA
        obtain ⟨cL_0, cL_1, fL_0, fL_1⟩ := hkL.out.two
        go_wp2_with fail
        clear cL_0 cL_1 fL_0 fL_1
        replace hoI := Lib.hid (OV.far hoI.out hkL.out (by decide) 0 (.int .i64 W9))
        replace hT := Lib.hid (hT.out.set (p := ⟨v2.heap.size, 0, none⟩) (by dsimp only; omega) (.int .i64 W9))
        replace hkR := Lib.hid (hkR.out.far (p := ⟨v2.heap.size, 0, none⟩) (by dsimp only; omega) (.int .i64 W9))
        replace hkL := Lib.hid (show Bk (v7.setCell ⟨v2.heap.size, 0, none⟩ (.int .i64 W9)) (v2.heap.size) 26 #[.int .i64 W9, .slice a3 m c3] from hkL.out.set 0 (.int .i64 W9))
        have hqz1 : v7.heap.size ≤ (v7.setCell ⟨v2.heap.size, 0, none⟩ (.int .i64 W9)).heap.size ∧ (v7.setCell ⟨v2.heap.size, 0, none⟩ (.int .i64 W9)).heap.size ≤ v7.heap.size := by simp only [World.size_setCell]; exact ⟨Nat.le_refl _, Nat.le_refl _⟩
        go_meet
        case rel => exact ⟨W9, m, xs, a3, c3, hW0, hW1, hm16, hxm, hP.out, hoI.out.wider (by omega) (by omega), hkL.out, hkR.out, hT.out.more (by omega)⟩
    case rest =>
      clear hP hxm hoI hm16 hW0' hW1'
      clear hT hkL hkR
      obtain ⟨WD, m, xs, a3, c3, hW0', hW1', hm16, hxm, hP0, hoI, hkL, hkR, hT⟩ := hcut
      have hP := Lib.hid hP0
      replace hT := Lib.hid hT
      replace hoI := Lib.hid hoI
      replace hkL := Lib.hid hkL
      replace hkR := Lib.hid hkR
      have hz_r2 := hT.out.size
      clear hP0
      have hltRr2 := hkR.out.lt
      have hltLr2 := hkL.out.lt
      by_cases hm0 : m = 0
      · subst hm0
        obtain ⟨cL_0, cL_1, fL_0, fL_1⟩ := hkL.out.two
        obtain ⟨cR_0, cR_1, fR_0, fR_1⟩ := hkR.out.two
        go_wp2_with fail
        refine bodyPost_ret (v := .agg #[.int .i64 (WD), .slice a3 0 c3]) (by simp [results, Tryz.results29, go_sem, *]) rfl ⟨WD, _, _, xs, by rw [hxm.out], ?_, ?_, ?_, ?_⟩
        · exact ⟨by omega, by omega, by rw [hxm.out]; omega, hP.out⟩
        · have h9 := (OV.setBelow (OV.setBelow (hoI.out) (p := ⟨w.heap.size, 0, none⟩) (by dsimp only; omega) (.int .i64 (WD))) (p := ⟨w.heap.size, 1, none⟩) (by dsimp only; omega) (.slice a3 0 c3)).wider (show w.heap.size ≤ _ by omega) (show _ ≤ wc.heap.size by omega)
          unfold OT; rw [hxm.out]; simpa using h9
        · exact (((hT.out.set (p := ⟨w.heap.size, 0, none⟩) (Nat.le_refl _) _).set (p := ⟨w.heap.size, 1, none⟩) (Nat.le_refl _) _).src).more (by omega)
        · exact ((hT.out.set (p := ⟨w.heap.size, 0, none⟩) (Nat.le_refl _) _).set (p := ⟨w.heap.size, 1, none⟩) (Nat.le_refl _) _).win
      · have hm0b : (m == 0) = false := by simp [hm0]
        obtain ⟨g, rfl, hg1, hg2⟩ := OV.addr hoI.out (by omega)
        have hgL := (hoI.out.ne_block hkL.out (by decide)) _ rfl
        have hgL2 : ¬ v2.heap.size = g := fun e => hgL e.symm
        have hgR : ¬ g = w.heap.size := by omega
        have hgR2 : ¬ w.heap.size = g := by omega
        have hgl : g < wc.heap.size := by (have h1 := hoI.out.block; obtain ⟨cs, hcs⟩ := h1; exact Bk.lt hcs)
        obtain ⟨cL_0, cL_1, fL_0, fL_1⟩ := hkL.out.two
        have hneL : ¬ v2.heap.size = B := by omega
        go_wp2_with fail
        first | go_region_held3 (fun V => Within B (B + 1) wc V ∧ V.cell? ⟨v2.heap.size, 1, none⟩ = some (.slice (some ⟨g, 0, none⟩) m c3)) (first | assumption | exact heldS (Within.of_below (below_drewN (Below.refl _ _) 1)) cL_1 hneL | (rename Within B (B + 1) wc _ ∧ _ => hH; refine heldS (hH.1.trans ?_) cL_1 hneL; assumption)) (first | (go_at_call 56; ((with_reducible refine (spec_pick B a c l _ m _ (hT.out.src.kept (Below.refl _ _).drew) (by omega) hl (by omega) (by omega)).mono ?_); rintro e wq0 ⟨j_, rfl, ⟨j0, j1, _⟩, hsq0, hwq0⟩; replace j1 := j1 (by omega); obtain ⟨j, rfl⟩ := Int.eq_ofNat_of_zero_le j0; have hjm : (j : Int) < (m : Int) := (by omega); have hjm2 : j < m := (by omega)))) | fail
        clear cL_0 cL_1 fL_0 fL_1
        replace hT := Lib.hid ((hT.out.kept (Below.refl _ _).drew).step hsq0 hwq0)
        replace hkR := Lib.hid ((hkR.out.kept (Below.refl _ _).drew).within hwq0 (by omega))
        replace hkL := Lib.hid ((hkL.out.kept (Below.refl _ _).drew).within hwq0 (by omega))
        replace hoI := Lib.hid ((hoI.out.kept (Below.refl _ _).drew).within hwq0 (by omega))
        have hmq := hwq0.size
        simp only [World.size_drew] at hmq
        have hzq := hT.out.size
        clear hwq0 hsq0
        have hltRwq0 := hkR.out.lt
        have hltLwq0 := hkL.out.lt
        go_wp2_with fail
        refine (spec_pick B a c l _ (20) wq0 hT.out.src (by omega) hl (by omega) (by omega)).mono ?_
        rintro e v6 ⟨u, rfl, ⟨u0, u1, u2⟩, hs, hw⟩
        have hmv6 := hw.size
        replace hT := Lib.hid (hT.out.step hs hw)
        replace hkR := Lib.hid (hkR.out.within hw (by omega))
        replace hkL := Lib.hid (hkL.out.within hw (by omega))
        replace hoI := Lib.hid (hoI.out.within hw (by omega))
        have hzv6 := hT.out.size
        have hltRv6 := hkR.out.lt
        have hltLv6 := hkL.out.lt
        clear hs hw
        replace u1 := u1 (by omega)
        clear u2
        obtain ⟨x, hxj⟩ := get_some (l := xs) (k := j) (by rw [hxm.out]; exact hjm2)
        have hxs := hP.out x (List.mem_of_getElem? hxj)
        have hneg : ¬ g = B := by omega
        by_cases q0 : u = 0
        · subst q0
          go_wp2_with fail
          have hA := Lib.hid (below_alloc (w := v6) (.cells #[.string ⟨#[]⟩, .string ⟨#[87, 104, 111]⟩, .string ⟨#[119, 104, 111]⟩] 9))
          have hkn := Lib.hid (show Bk (v6.alloc (.cells #[.string ⟨#[]⟩, .string ⟨#[87, 104, 111]⟩, .string ⟨#[119, 104, 111]⟩] 9)) (v6.heap.size) 9 #[.string ⟨#[]⟩, .string ⟨#[87, 104, 111]⟩, .string ⟨#[119, 104, 111]⟩] from (by first | exact Bk.new _ _ _ | simpa using Bk.new v6 #[.string ⟨#[]⟩, .string ⟨#[87, 104, 111]⟩, .string ⟨#[119, 104, 111]⟩] 9))
          replace hT := Lib.hid (hT.out.kept hA.out)
          replace hkR := Lib.hid (hkR.out.kept hA.out)
          replace hkL := Lib.hid (hkL.out.kept hA.out)
          replace hoI := Lib.hid (hoI.out.kept hA.out)
          have hqA : v6.heap.size + 1 ≤ (v6.alloc (.cells #[.string ⟨#[]⟩, .string ⟨#[87, 104, 111]⟩, .string ⟨#[119, 104, 111]⟩] 9)).heap.size ∧ (v6.alloc (.cells #[.string ⟨#[]⟩, .string ⟨#[87, 104, 111]⟩, .string ⟨#[119, 104, 111]⟩] 9)).heap.size ≤ v6.heap.size + 1 := by simp
          have hkA := hkn
          clear hkn hA
          generalize (v6.alloc (.cells #[.string ⟨#[]⟩, .string ⟨#[87, 104, 111]⟩, .string ⟨#[119, 104, 111]⟩] 9)) = v7 at *
          have hzv7 := hT.out.size
          have hrA := Lib.hid (show RS v7 (some ⟨v6.heap.size, 0, none⟩) [⟨#[]⟩, ⟨#[87, 104, 111]⟩, ⟨#[119, 104, 111]⟩] from row_block hkA.out)
          clear hkA
          refine (spec_srcTextN B a c l _ (v6.heap.size) 0 3 3 [⟨#[]⟩, ⟨#[87, 104, 111]⟩, ⟨#[119, 104, 111]⟩] v7 hT.out.src (by omega) hl hrA.out rfl (by omega) (by omega) (by omega)).mono ?_
          rintro e v8 ⟨t, rfl, htm, hs, hw⟩
          have hmv8 := hw.size
          replace hT := Lib.hid (hT.out.step hs hw)
          replace hkR := Lib.hid (hkR.out.within hw (by omega))
          replace hkL := Lib.hid (hkL.out.within hw (by omega))
          replace hoI := Lib.hid (hoI.out.within hw (by omega))
          have hzv8 := hT.out.size
          have hltRv8 := hkR.out.lt
          have hltLv8 := hkL.out.lt
          clear hs hw
          have hts : t.size ≤ 16 := by
            simp only [List.mem_cons, List.not_mem_nil, or_false] at htm
            rcases htm with rfl | rfl | rfl <;> decide
          clear htm hrA
          obtain ⟨⟨y0, y1, y2, y3⟩, hfg⟩ := row_item (a := none) hoI.out hxj
          have z0 := hfg (j * 4)
          have z1 := hfg (j * 4 + 1)
          have z2 := hfg (j * 4 + 2)
          have z3 := hfg (j * 4 + 3)
          clear hfg
          obtain ⟨cL_0, cL_1, fL_0, fL_1⟩ := hkL.out.two
          obtain ⟨cR_0, cR_1, fR_0, fR_1⟩ := hkR.out.two
          go_wp2_with fail
          refine bodyPost_ret (v := .agg #[.int .i64 (WD), .slice (some ⟨g, 0, none⟩) m c3]) (by simp [results, Tryz.results29, go_sem, *]) rfl ⟨WD, _, _, (xs.set j ⟨t, x.kind, x.fr, x.to⟩), by rw [List.length_set, hxm.out], ?_, ?_, ?_, ?_⟩
          · exact ⟨by omega, by omega, by rw [List.length_set, hxm.out]; omega, lay_set hP.out hts⟩
          · have h9 := (OV.setBelow (OV.setBelow ((show OV _ _ _ _ _ _ _ _ (itemsV (xs.set j ⟨t, x.kind, x.fr, x.to⟩)) by rw [← items_name hxj t]; exact OV.store hoI.out (j * 4) (.string t))) (p := ⟨w.heap.size, 0, none⟩) (by dsimp only; omega) (.int .i64 (WD))) (p := ⟨w.heap.size, 1, none⟩) (by dsimp only; omega) (.slice (some ⟨g, 0, none⟩) m c3)).wider (show w.heap.size ≤ _ by omega) (show _ ≤ v8.heap.size by omega)
            unfold OT; rw [List.length_set, hxm.out]; simpa using h9
          · exact ((((hT.out.set (p := ⟨g, j * 4, none⟩) (by dsimp only; omega) _).set (p := ⟨w.heap.size, 0, none⟩) (Nat.le_refl _) _).set (p := ⟨w.heap.size, 1, none⟩) (Nat.le_refl _) _).src).more (by omega)
          · exact (((hT.out.set (p := ⟨g, j * 4, none⟩) (by dsimp only; omega) _).set (p := ⟨w.heap.size, 0, none⟩) (Nat.le_refl _) _).set (p := ⟨w.heap.size, 1, none⟩) (Nat.le_refl _) _).win
        · have e0 : (u == 0) = false := by simp [q0]
          by_cases q1 : u = 1
          · subst q1
            go_wp2_with fail
            have hA := Lib.hid (below_alloc (w := v6) (.cells #[.int .i64 0, .int .i64 3] 2))
            have hkn := Lib.hid (show Bk (v6.alloc (.cells #[.int .i64 0, .int .i64 3] 2)) (v6.heap.size) 2 #[.int .i64 0, .int .i64 3] from (by first | exact Bk.new _ _ _ | simpa using Bk.new v6 #[.int .i64 0, .int .i64 3] 2))
            replace hT := Lib.hid (hT.out.kept hA.out)
            replace hkR := Lib.hid (hkR.out.kept hA.out)
            replace hkL := Lib.hid (hkL.out.kept hA.out)
            replace hoI := Lib.hid (hoI.out.kept hA.out)
            have hqA : v6.heap.size + 1 ≤ (v6.alloc (.cells #[.int .i64 0, .int .i64 3] 2)).heap.size ∧ (v6.alloc (.cells #[.int .i64 0, .int .i64 3] 2)).heap.size ≤ v6.heap.size + 1 := by simp
            have hkA := hkn
            clear hkn hA
            generalize (v6.alloc (.cells #[.int .i64 0, .int .i64 3] 2)) = v7 at *
            have hzv7 := hT.out.size
            have hrA := Lib.hid (show RI v7 (some ⟨v6.heap.size, 0, none⟩) [0, 3] from row_block hkA.out)
            clear hkA
            refine (spec_amongN B a c l _ (v6.heap.size) 0 2 2 [0, 3] v7 hT.out.src (by omega) hl hrA.out rfl (by omega) (by omega) (by omega)).mono ?_
            rintro e v8 ⟨t, rfl, htm, hs, hw⟩
            have hmv8 := hw.size
            replace hT := Lib.hid (hT.out.step hs hw)
            replace hkR := Lib.hid (hkR.out.within hw (by omega))
            replace hkL := Lib.hid (hkL.out.within hw (by omega))
            replace hoI := Lib.hid (hoI.out.within hw (by omega))
            have hzv8 := hT.out.size
            have hltRv8 := hkR.out.lt
            have hltLv8 := hkL.out.lt
            clear hs hw
            clear htm hrA
            obtain ⟨⟨y0, y1, y2, y3⟩, hfg⟩ := row_item (a := none) hoI.out hxj
            have z0 := hfg (j * 4)
            have z1 := hfg (j * 4 + 1)
            have z2 := hfg (j * 4 + 2)
            have z3 := hfg (j * 4 + 3)
            clear hfg
            obtain ⟨cL_0, cL_1, fL_0, fL_1⟩ := hkL.out.two
            obtain ⟨cR_0, cR_1, fR_0, fR_1⟩ := hkR.out.two
            go_wp2_with fail
            refine bodyPost_ret (v := .agg #[.int .i64 (WD), .slice (some ⟨g, 0, none⟩) m c3]) (by simp [results, Tryz.results29, go_sem, *]) rfl ⟨WD, _, _, (xs.set j ⟨x.name, t, x.fr, x.to⟩), by rw [List.length_set, hxm.out], ?_, ?_, ?_, ?_⟩
            · exact ⟨by omega, by omega, by rw [List.length_set, hxm.out]; omega, lay_set hP.out hxs⟩
            · have h9 := (OV.setBelow (OV.setBelow ((show OV _ _ _ _ _ _ _ _ (itemsV (xs.set j ⟨x.name, t, x.fr, x.to⟩)) by rw [← items_kind hxj t]; exact OV.store hoI.out (j * 4 + 1) (.int .i64 t))) (p := ⟨w.heap.size, 0, none⟩) (by dsimp only; omega) (.int .i64 (WD))) (p := ⟨w.heap.size, 1, none⟩) (by dsimp only; omega) (.slice (some ⟨g, 0, none⟩) m c3)).wider (show w.heap.size ≤ _ by omega) (show _ ≤ v8.heap.size by omega)
              unfold OT; rw [List.length_set, hxm.out]; simpa using h9
            · exact ((((hT.out.set (p := ⟨g, j * 4 + 1, none⟩) (by dsimp only; omega) _).set (p := ⟨w.heap.size, 0, none⟩) (Nat.le_refl _) _).set (p := ⟨w.heap.size, 1, none⟩) (Nat.le_refl _) _).src).more (by omega)
            · exact (((hT.out.set (p := ⟨g, j * 4 + 1, none⟩) (by dsimp only; omega) _).set (p := ⟨w.heap.size, 0, none⟩) (Nat.le_refl _) _).set (p := ⟨w.heap.size, 1, none⟩) (Nat.le_refl _) _).win
          · have e1 : (u == 1) = false := by simp [q1]
            by_cases q2 : u = 2
            · subst q2
              obtain ⟨cL_0, cL_1, fL_0, fL_1⟩ := hkL.out.two
              go_wp2_with fail
              clear cL_0 cL_1 fL_0 fL_1
              refine (spec_l02DrawField B a c l _ (WD) v6 hT.out.src (by omega) hl (by omega) (by omega)).mono ?_
              rintro e v7 ⟨ff, ft, rfl, hs, hw⟩
              have hmv7 := hw.size
              replace hT := Lib.hid (hT.out.step hs hw)
              replace hkR := Lib.hid (hkR.out.within hw (by omega))
              replace hkL := Lib.hid (hkL.out.within hw (by omega))
              replace hoI := Lib.hid (hoI.out.within hw (by omega))
              have hzv7 := hT.out.size
              have hltRv7 := hkR.out.lt
              have hltLv7 := hkL.out.lt
              clear hs hw
              obtain ⟨⟨y0, y1, y2, y3⟩, hfg⟩ := row_item (a := none) hoI.out hxj
              have z0 := hfg (j * 4)
              have z1 := hfg (j * 4 + 1)
              have z2 := hfg (j * 4 + 2)
              have z3 := hfg (j * 4 + 3)
              clear hfg
              obtain ⟨cL_0, cL_1, fL_0, fL_1⟩ := hkL.out.two
              obtain ⟨cR_0, cR_1, fR_0, fR_1⟩ := hkR.out.two
              go_wp2_with fail
              refine bodyPost_ret (v := .agg #[.int .i64 (WD), .slice (some ⟨g, 0, none⟩) m c3]) (by simp [results, Tryz.results29, go_sem, *]) rfl ⟨WD, _, _, (xs.set j ⟨x.name, x.kind, ff, ft⟩), by rw [List.length_set, hxm.out], ?_, ?_, ?_, ?_⟩
              · exact ⟨by omega, by omega, by rw [List.length_set, hxm.out]; omega, lay_set hP.out hxs⟩
              · have h9 := (OV.setBelow (OV.setBelow ((show OV _ _ _ _ _ _ _ _ (itemsV (xs.set j ⟨x.name, x.kind, ff, ft⟩)) by rw [← items_field hxj ff ft]; exact OV.store (OV.store hoI.out (j * 4 + 2) (.int .i64 ff)) (j * 4 + 3) (.int .i64 ft))) (p := ⟨w.heap.size, 0, none⟩) (by dsimp only; omega) (.int .i64 (WD))) (p := ⟨w.heap.size, 1, none⟩) (by dsimp only; omega) (.slice (some ⟨g, 0, none⟩) m c3)).wider (show w.heap.size ≤ _ by omega) (show _ ≤ v7.heap.size by omega)
                unfold OT; rw [List.length_set, hxm.out]; simpa using h9
              · exact (((((hT.out.set (p := ⟨g, j * 4 + 2, none⟩) (by dsimp only; omega) _).set (p := ⟨g, j * 4 + 3, none⟩) (by dsimp only; omega) _).set (p := ⟨w.heap.size, 0, none⟩) (Nat.le_refl _) _).set (p := ⟨w.heap.size, 1, none⟩) (Nat.le_refl _) _).src).more (by omega)
              · exact ((((hT.out.set (p := ⟨g, j * 4 + 2, none⟩) (by dsimp only; omega) _).set (p := ⟨g, j * 4 + 3, none⟩) (by dsimp only; omega) _).set (p := ⟨w.heap.size, 0, none⟩) (Nat.le_refl _) _).set (p := ⟨w.heap.size, 1, none⟩) (Nat.le_refl _) _).win
            · have e2 : (u == 2) = false := by simp [q2]
              by_cases q3 : u = 3
              · subst q3
                go_wp2_with fail
                refine (spec_pick B a c l _ (2) v6 hT.out.src (by omega) hl (by omega) (by omega)).mono ?_
                rintro e v7 ⟨p, rfl, ⟨p0, p1, p2⟩, hs, hw⟩
                have hmv7 := hw.size
                replace hT := Lib.hid (hT.out.step hs hw)
                replace hkR := Lib.hid (hkR.out.within hw (by omega))
                replace hkL := Lib.hid (hkL.out.within hw (by omega))
                replace hoI := Lib.hid (hoI.out.within hw (by omega))
                have hzv7 := hT.out.size
                have hltRv7 := hkR.out.lt
                have hltLv7 := hkL.out.lt
                clear hs hw
                replace p1 := p1 (by omega)
                clear p2
                obtain ⟨cR_0, cR_1, fR_0, fR_1⟩ := hkR.out.two
                go_wp2_with fail
                refine bodyPost_ret (v := .agg #[.int .i64 14, .slice (some ⟨v7.heap.size, 0, none⟩) 1 1]) (by simp [results, Tryz.results29, go_sem, *]) rfl ⟨14, some ⟨v7.heap.size, 0, none⟩, 1, [(⟨⟨#[108, 111, 110, 103]⟩, 2, 0, 12 + p⟩ : Itm)], rfl, ⟨by omega, by omega, by simp, ?_⟩, ?_, ?_, ?_⟩
                · intro y hy; simp only [List.mem_singleton] at hy; subst hy; show (⟨#[108, 111, 110, 103]⟩ : ByteArray).size ≤ 16; decide
                · have h8 := World.ownsRow_lit (base := v7.heap.size) (e := 63) (size := 4) ((v7.setCell ⟨w.heap.size, 0, none⟩ (.int .i64 14)).setCell ⟨w.heap.size, 1, none⟩ (.slice (some ⟨v7.heap.size, 0, none⟩) 1 1)) #[.string ⟨#[108, 111, 110, 103]⟩, .int .i64 2, .int .i64 0, .int .i64 (12 + p)] 1 (by simp) (by simp [maxLen]) rfl
                  have h9 := OV.of (own_mono (by simpa using h8) (show w.heap.size ≤ v7.heap.size by omega))
                  simpa [OT, itemsV_one, Itm.cells] using h9
                · exact ((((hT.out.set (p := ⟨w.heap.size, 0, none⟩) (Nat.le_refl _) _).set (p := ⟨w.heap.size, 1, none⟩) (Nat.le_refl _) _).kept (below_alloc _)).src).more (by omega)
                · exact (((hT.out.set (p := ⟨w.heap.size, 0, none⟩) (Nat.le_refl _) _).set (p := ⟨w.heap.size, 1, none⟩) (Nat.le_refl _) _).kept (below_alloc _)).win
              · have e3 : (u == 3) = false := by simp [q3]
                obtain ⟨cL_0, cL_1, fL_0, fL_1⟩ := hkL.out.two
                obtain ⟨cR_0, cR_1, fR_0, fR_1⟩ := hkR.out.two
                go_wp2_with fail
                refine bodyPost_ret (v := .agg #[.int .i64 (WD), .slice (some ⟨g, 0, none⟩) m c3]) (by simp [results, Tryz.results29, go_sem, *]) rfl ⟨WD, _, _, xs, by rw [hxm.out], ?_, ?_, ?_, ?_⟩
                · exact ⟨by omega, by omega, by rw [hxm.out]; omega, hP.out⟩
                · have h9 := (OV.setBelow (OV.setBelow (hoI.out) (p := ⟨w.heap.size, 0, none⟩) (by dsimp only; omega) (.int .i64 (WD))) (p := ⟨w.heap.size, 1, none⟩) (by dsimp only; omega) (.slice (some ⟨g, 0, none⟩) m c3)).wider (show w.heap.size ≤ _ by omega) (show _ ≤ v6.heap.size by omega)
                  unfold OT; rw [hxm.out]; simpa using h9
                · exact (((hT.out.set (p := ⟨w.heap.size, 0, none⟩) (Nat.le_refl _) _).set (p := ⟨w.heap.size, 1, none⟩) (Nat.le_refl _) _).src).more (by omega)
                · exact ((hT.out.set (p := ⟨w.heap.size, 0, none⟩) (Nat.le_refl _) _).set (p := ⟨w.heap.size, 1, none⟩) (Nat.le_refl _) _).win
end Go.Proofs.YtmpfnkheohlmiaaGreatDoor
