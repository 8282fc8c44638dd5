/- The walks of the functions that draw cards with texts, and spoil them: what is drawn lies in rows of the call's own; nothing but the source is written. The walks of the functions that draw decks, and spoil them: what is drawn lies in rows of the call's own; nothing but the source is written. -/
import Derived.Test.YtmpfnkheohlmiaaGreatDoorQF
import Derived.Test.YtmpfnkheohlmiaaGreatDoorQG
import Derived.Test.YtmpfnkheohlmiaaGreatDoorQH
import Derived.Deep.RegionHeld3
namespace Go.Proofs.YtmpfnkheohlmiaaGreatDoor
open Go.RowKit
set_option maxRecDepth 100000
set_option linter.unusedVariables false
set_option linter.unusedSimpArgs false
set_option linter.unnecessarySimpa false

/-- a card of the call's own has been drawn -/
def DrawnN (w : World) (B : Nat) (a : Option Addr) (c : Nat) (l : List UInt8) (k n : Nat) (e : Ending) (w' : World) : Prop :=
  ∃ (a' : Option Addr) (c' : Nat) (xs : List Int), e = .returned (.agg #[.slice a' n c']) ∧ xs.length = n ∧ w'.ownsRow w.heap.size 2 1 (.slice a' n c') n (xs.map (Value.int .i64)) ∧ SrcIs w' B a c l k ∧ Within B (B + 1) w w'
theorem DrawnC.N {w w' : World} {B c k n : Nat} {a : Option Addr} {l : List UInt8} {P : Int → Prop} {e : Ending} (h : DrawnC w B a c l k n P e w') : DrawnN w B a c l k n e w' := by
  obtain ⟨a', c', xs, h1, h2, _, h4, h5, h6⟩ := h
  rw [h2] at h1 h4
  exact ⟨a', c', xs, h1, h2, h4, h5, h6⟩
theorem spec_amongN (B : Nat) (a : Option Addr) (c : Nat) (l : List UInt8) (k : Nat) (b1 o1 cc n : Nat) (xs : List Int) (w : World) (h : SrcIs w B a c l k) (hk : k + 2 ≤ 1073741824) (hl : l.length ≤ 1073741824) (hx : RI w (some ⟨b1, o1, none⟩) xs) (hn : xs.length = n) (h1 : 1 ≤ n) (h2 : n ≤ 65536) (hne : ¬ b1 = B) :
    Calls Tryz.prog 67 #[.pointer (some ⟨B, 0, none⟩), .slice (some ⟨b1, o1, none⟩) n cc] w (Drawn w B a c l (k + 2) fun r => r ∈ xs) := by
  subst hn; exact spec_among B a c l k b1 o1 cc xs w h hk hl hx h1 h2 hne
theorem spec_srcTextN (B : Nat) (a : Option Addr) (c : Nat) (l : List UInt8) (k : Nat) (b1 o1 cc n : Nat) (xs : List ByteArray) (w : World) (h : SrcIs w B a c l k) (hk : k + 2 ≤ 1073741824) (hl : l.length ≤ 1073741824) (hx : RS w (some ⟨b1, o1, none⟩) xs) (hn : xs.length = n) (h1 : 1 ≤ n) (h2 : n ≤ 65536) (hne : ¬ b1 = B) :
    Calls Tryz.prog 68 #[.pointer (some ⟨B, 0, none⟩), .slice (some ⟨b1, o1, none⟩) n cc] w fun e w' => ∃ t, e = .returned (.string t) ∧ t ∈ xs ∧ SrcIs w' B a c l (k + 2) ∧ Within B (B + 1) w w' := by
  subst hn; exact spec_srcText B a c l k b1 o1 cc xs w h hk hl hx h1 h2 hne
theorem RI5_new (w : World) (x0 x1 x2 x3 x4 : Int) (t : Nat) : RI (w.alloc (.cells #[.int .i64 x0, .int .i64 x1, .int .i64 x2, .int .i64 x3, .int .i64 x4] t)) (some ⟨w.heap.size, 0, none⟩) [x0, x1, x2, x3, x4] := row_block (heap_alloc_new _ _)
theorem RI5_old {w V : World} {B n : Nat} {x0 x1 x2 x3 x4 : Int} {t : Nat} (hn : w.heap.size = n) (hw : Within B (B + 1) (w.alloc (.cells #[.int .i64 x0, .int .i64 x1, .int .i64 x2, .int .i64 x3, .int .i64 x4] t)) V) (hne : ¬ n = B) : RI V (some ⟨n, 0, none⟩) [x0, x1, x2, x3, x4] := by
  subst hn
  exact row_block ((hw.block w.heap.size (by simp) (by omega)).trans (heap_alloc_new _ _))
/-- nothing has turned but two blocks -/
def With2 (B g : Nat) (v V : World) : Prop := v.heap.size ≤ V.heap.size ∧ ∀ k, k < v.heap.size → k ≠ B → k ≠ g → V.heap[k]? = v.heap[k]?
theorem With2.of {B g : Nat} {v V : World} (h : Within B (B + 1) v V) : With2 B g v V := ⟨h.size, fun k hk h1 _ => h.block k hk (fun e => by omega)⟩
theorem With2.trans {B g : Nat} {v V U : World} (h : With2 B g v V) (k : With2 B g V U) : With2 B g v U := ⟨Nat.le_trans h.1 k.1, fun i hi h1 h2 => (k.2 i (Nat.lt_of_lt_of_le hi h.1) h1 h2).trans (h.2 i hi h1 h2)⟩
theorem With2.set {B g : Nat} {v V : World} (h : With2 B g v V) (j : Nat) (u : Value) : With2 B g v (V.setCell ⟨g, j, none⟩ u) := h.trans ⟨by simp [World.setCell], fun k _ _ h2 => Below.heap_setCell _ _ _ _ (by simpa using h2)⟩
theorem heldS2 {B g : Nat} {v V : World} {p : Addr} {x : Value} (hw : With2 B g v V) (h : v.cell? p = some x) (hne : ¬ p.block = B) (hng : ¬ p.block = g) : With2 B g v V ∧ V.cell? p = some x := by
  have hlt := World.block_lt_of_cell? _ _ h
  exact ⟨hw, (World.cell?_of_block (w := v) (hw.2 p.block hlt hne hng)).trans h⟩
theorem heldS {B : Nat} {v V : World} {p : Addr} {x : Value} (hw : Within B (B + 1) v V) (h : v.cell? p = some x) (hne : ¬ p.block = B) : Within B (B + 1) v V ∧ V.cell? p = some x := ⟨hw, hw.cell h (by omega)⟩
set_option maxHeartbeats 1000000 in
theorem spec_l03Draw (B : Nat) (a : Option Addr) (c : Nat) (l : List UInt8) (k0 : Nat) (n : Nat) (w : World) (h : SrcIs w B a c l k0) (hk0 : k0 ≤ 268435456) (hl : l.length ≤ 1073741824) (hn : n ≤ 1048576) :
    Calls Tryz.prog 87 #[.pointer (some ⟨B, 0, none⟩), .int .i64 n] w (DrawnN w B a c l (k0 + 2 + 8 * n) n) := by
  have hT := Lib.hid (St.start h)
  have hz := hT.out.size
  clear h
  go_enter Tryz.func87, Tryz.ntmps87
  go_wp2_with fail
  have hA := Lib.hid (below_alloc (w := w) (.cells #[.slice none 0 0] 32))
  have hkn := Lib.hid (show Bk (w.alloc (.cells #[.slice none 0 0] 32)) (w.heap.size) 32 #[.slice none 0 0] from (by first | exact Bk.new _ _ _ | simpa using Bk.new w #[.slice none 0 0] 32))
  replace hT := Lib.hid (hT.out.kept hA.out)
  have hqR : w.heap.size + 1 ≤ (w.alloc (.cells #[.slice none 0 0] 32)).heap.size ∧ (w.alloc (.cells #[.slice none 0 0] 32)).heap.size ≤ w.heap.size + 1 := by simp
  have hkR := hkn
  clear hkn hA
  generalize (w.alloc (.cells #[.slice none 0 0] 32)) = v1 at *
  have hzv1 := hT.out.size
  refine (spec_one B a c l _ 8 v1 hT.out.src (by omega) hl (by omega) (by omega)).mono ?_
  rintro e v2 ⟨b, rfl, hs, hw⟩
  have hmv2 := hw.size
  replace hT := Lib.hid (hT.out.step hs hw)
  replace hkR := Lib.hid (hkR.out.within hw (by omega))
  have hzv2 := hT.out.size
  have hltRv2 := hkR.out.lt
  clear hs hw
  cases b
  · skip
    go_wp2_with fail
    refine (spec_l03DrawText B a c l _ n v2 hT.out.src (by omega) hl (by omega)).mono ?_
    rintro e v3 ⟨⟨t, rfl, ht, htc⟩, hs, hw⟩
    have hmv3 := hw.size
    replace hT := Lib.hid (hT.out.step hs hw)
    replace hkR := Lib.hid (hkR.out.within hw (by omega))
    have hzv3 := hT.out.size
    have hltRv3 := hkR.out.lt
    clear hs hw
    have hcd := Lib.hid (show Calls Tryz.prog 122 #[.string t] v3 fun e w' => ∃ a' c', e = .returned (.agg #[.slice a' n c']) ∧ w'.ownsRow v3.heap.size 2 1 (.slice a' n c') n ((cardT t).map (Value.int .i64)) ∧ Below v3.heap.size v3 w' by
      have h := spec_l03Card t v3 (by omega)
      rw [ht] at h
      exact h)
    have hxl := Lib.hid (show (cardT t).length = n by rw [cardT_length, ht])
    clear ht htc
    go_wp2_with fail
    refine (hcd.out).mono ?_
    rintro e v4 ⟨a5, c5, rfl, hox, hb⟩
    have hoX := Lib.hid (OV.of hox)
    replace hxl := Lib.hid hxl
    clear hox
    replace hT := Lib.hid (hT.out.kept hb)
    replace hkR := Lib.hid (hkR.out.kept hb)
    have hzbv4 := hb.size
    have hzv4 := hT.out.size
    have hltRv4 := hkR.out.lt
    clear hb
    obtain ⟨cR_0, fR_0⟩ := hkR.out.one
    go_wp2_with fail
    refine bodyPost_ret (v := .agg #[.slice a5 n c5]) (by simp [results, Tryz.results87, go_sem, *]) rfl ⟨a5, c5, cardT t, rfl, hxl.out, ?_, ?_, ?_⟩
    · exact own_mono (ownsRow_setCell_below (a := ⟨w.heap.size, 0, none⟩) hoX.out.1 (by dsimp only; omega) _) (by omega)
    · exact ((hT.out.set (p := ⟨w.heap.size, 0, none⟩) (Nat.le_refl _) _).src).more (by omega)
    · exact (hT.out.set (p := ⟨w.heap.size, 0, none⟩) (Nat.le_refl _) _).win
  · skip
    go_wp2_with fail
    refine (spec_l02Draw B a c l _ n v2 hT.out.src (by omega) hl (by omega)).mono ?_
    rintro e v3 ⟨a5, c5, xs, rfl, hxl, _, hox, hs, hw⟩
    rw [hxl] at hox ⊢
    have hoX := Lib.hid (OV.of hox)
    replace hxl := Lib.hid hxl
    clear hox
    have hmv3 := hw.size
    replace hT := Lib.hid (hT.out.step hs hw)
    replace hkR := Lib.hid (hkR.out.within hw (by omega))
    have hzv3 := hT.out.size
    have hltRv3 := hkR.out.lt
    clear hs hw
    obtain ⟨cR_0, fR_0⟩ := hkR.out.one
    go_wp2_with fail
    refine bodyPost_ret (v := .agg #[.slice a5 n c5]) (by simp [results, Tryz.results87, go_sem, *]) rfl ⟨a5, c5, xs, rfl, hxl.out, ?_, ?_, ?_⟩
    · exact own_mono (ownsRow_setCell_below (a := ⟨w.heap.size, 0, none⟩) hoX.out.1 (by dsimp only; omega) _) (by omega)
    · exact ((hT.out.set (p := ⟨w.heap.size, 0, none⟩) (Nat.le_refl _) _).src).more (by omega)
    · exact (hT.out.set (p := ⟨w.heap.size, 0, none⟩) (Nat.le_refl _) _).win
/-- a card that lies in a cell, its columns in a row of the call's own, has been spoiled: other columns, or one column changed -/
def Spoiled (w : World) (B : Nat) (a : Option Addr) (c : Nat) (l : List UInt8) (k b o : Nat) (a1 : Option Addr) (n : Nat) (e : Ending) (w' : World) : Prop :=
  e = .returned (.tuple #[]) ∧ ∃ w1, SrcIs w1 B a c l k ∧ Within B (B + 1) w w1 ∧ ((∃ (a2 : Option Addr) (c2 : Nat) (ys : List Int), ys.length ≤ 21 ∧ w1.ownsRow w.heap.size 2 1 (.slice a2 ys.length c2) ys.length (ys.map (Value.int .i64)) ∧ w' = w1.setCell ⟨b, o, none⟩ (.slice a2 ys.length c2)) ∨ (∃ (g j : Nat) (x : Int), a1 = some ⟨g, 0, none⟩ ∧ j < n ∧ w' = w1.setCell ⟨g, j, none⟩ (.int .i64 x)) ∨ w' = w1)
set_option maxHeartbeats 1000000 in
theorem spec_l02Spoil (B : Nat) (a : Option Addr) (c : Nat) (l : List UInt8) (k0 : Nat) (b o : Nat) (a1 : Option Addr) (c1 : Nat) (xs : List Int) (lo hi : Nat) (w : World) (h : SrcIs w B a c l k0) (hk0 : k0 ≤ 268435456) (hl : l.length ≤ 1073741824) (hc : w.cell? ⟨b, o, none⟩ = some (.slice a1 xs.length c1)) (hf : w.frozen? ⟨b, o, none⟩ = false) (hne : ¬ b = B) (ho : OI lo hi w 2 a1 c1 xs) (hlo : B < lo) (hn : xs.length ≤ 64) (hbg : ∀ p, a1 = some p → ¬ b = p.block) :
    Calls Tryz.prog 88 #[.pointer (some ⟨B, 0, none⟩), .pointer (some ⟨b, o, none⟩)] w (Spoiled w B a c l (k0 + 8) b o a1 xs.length) := by
  have hT := Lib.hid (St.start h)
  have hz := hT.out.size
  replace ho := Lib.hid ho
  clear h
  go_enter Tryz.func88, Tryz.ntmps88
  go_wp2_with fail
  refine (spec_pick B a c l _ 3 w hT.out.src (by omega) hl (by omega) (by omega)).mono ?_
  rintro e v1 ⟨r, rfl, ⟨r0, r1, _⟩, hs, hw⟩
  replace hf := hw.frozen hc hf (show b < B ∨ B + 1 ≤ b by omega)
  replace hc := hw.cell hc (show b < B ∨ B + 1 ≤ b by omega)
  replace hT := Lib.hid (hT.out.step hs hw)
  replace ho := Lib.hid (OI.within ho.out hw (by omega))
  have hz_v1 := hT.out.size
  have hbl_v1 := World.block_lt_of_cell? _ _ hc
  clear hs hw
  replace r1 := r1 (by omega)
  by_cases q0 : r = 0
  · subst q0
    go_wp2_with fail
    go_end0
    have hA := below_alloc (w := v1) (.cells #[] 2)
    have hown0 := World.ownsRow_lit (base := v1.heap.size) (e := 2) (size := 1) v1 #[] 0 (Nat.le_refl _) (by simp [maxLen]) rfl
    exact ⟨rfl, _, ((hT.out.kept hA).src).more (by omega), (hT.out.kept hA).win, .inl ⟨some ⟨v1.heap.size, 0, none⟩, 0, [], by simp, own_mono (by simpa using hown0) (by omega), by first | rfl | (simp [go_sem, *]; done)⟩⟩
  · have e0 : (r == 0) = false := by simp [q0]
    by_cases q1 : r = 1
    · subst q1
      go_wp2_with fail
      refine (spec_pick B a c l _ 2 v1 hT.out.src (by omega) hl (by omega) (by omega)).mono ?_
      rintro e v2 ⟨r, rfl, ⟨r0, r1, _⟩, hs, hw⟩
      replace hf := hw.frozen hc hf (show b < B ∨ B + 1 ≤ b by omega)
      replace hc := hw.cell hc (show b < B ∨ B + 1 ≤ b by omega)
      replace hT := Lib.hid (hT.out.step hs hw)
      replace ho := Lib.hid (OI.within ho.out hw (by omega))
      have hz_v2 := hT.out.size
      have hbl_v2 := World.block_lt_of_cell? _ _ hc
      clear hs hw
      replace r1 := r1 (by omega)
      obtain ⟨q, rfl⟩ := Int.eq_ofNat_of_zero_le r0
      obtain ⟨m, hm⟩ : ∃ m, m = 20 + q := ⟨_, rfl⟩
      have hcast : (20 : Int) + (q : Int) = (m : Int) := by omega
      have hm21 : m ≤ 21 := by omega
      clear hm r0 r1
      obtain ⟨i0, hi, hz0, hz1, hz2⟩ := info_parts Tryz.info_int64
      have hm63 := Lib.hid (show m ≤ maxLen by unfold maxLen; omega)
      go_wp2_with (at_make; refine wpList_make_full _ rfl _ _ 30 rfl v2.heap.size 2 i0 (.int .i64 0) 1 Tryz.underlying30 hi hz0 hz1 _ _ _ _ m (by first | rfl | exact hcast | (simp only [hcast])) rfl rfl rfl (by rw [hz2]; omega) hm63.out (by omega) ?_; intro w5 hown5 hgrow5; have hb5 := below_grown hgrow5; have hf5 := keepf hb5 hc hf; have hc5 := keep hb5 hc; have hl5 := World.block_lt_of_cell? _ _ hc5)
      go_end0
      refine ⟨rfl, w5, ((hT.out.kept hb5).src).more (by omega), (hT.out.kept hb5).win, .inl ⟨some ⟨v2.heap.size, 0, none⟩, m, zerosL m, by rw [zerosL_length]; exact hm21, ?_, by rw [zerosL_length]⟩⟩
      have ho5 : w5.ownsRow v2.heap.size 2 1 (.slice (some ⟨v2.heap.size, 0, none⟩) m m) m ((zerosL m).map (Value.int .i64)) := by
        rw [zerosL_vals]; simpa [Value.cells, toList_madeCells_one] using hown5
      rw [zerosL_length]
      exact own_mono ho5 (by omega)
    · have e1 : (r == 1) = false := by simp [q1]
      have e2 : (r == 2) = true := by rw [beq_iff_eq]; omega
      by_cases hn0 : xs.length = 0
      · have hd : decide ((0 : Int) < (xs.length : Int)) = false := decide_eq_false (by omega)
        have hd2 : decide (0 < xs.length) = false := decide_eq_false (by omega)
        go_wp2_with fail
        go_end0
        exact ⟨rfl, _, (hT.out.src).more (by omega), hT.out.win, .inr (.inr rfl)⟩
      · have hd : decide ((0 : Int) < (xs.length : Int)) = true := decide_eq_true (by omega)
        have hd2 : decide (0 < xs.length) = true := decide_eq_true (by omega)
        obtain ⟨g, rfl, hg1, hg2⟩ := OV.addr ho.out (by omega)
        replace hbg := hbg _ rfl
        go_wp2_with fail
        first | go_region_held3 (fun V => With2 B g v1 V ∧ V.cell? ⟨b, o, none⟩ = some (.slice (some ⟨g, 0, none⟩) xs.length c1)) (first | assumption | exact heldS2 (With2.of (Within.of_below (below_drewN (Below.refl _ _) 1))) hc hne hbg | (rename With2 B g v1 _ ∧ _ => hH; refine heldS2 (hH.1.trans (With2.of ?_)) hc hne hbg; assumption) | (rename With2 B g v1 _ ∧ _ => hH; exact heldS2 (hH.1.trans (With2.of (Within.of_below (below_alloc _)))) hc hne hbg) | (rename With2 B g v1 _ ∧ _ => hH; exact heldS2 (hH.1.set _ _) hc hne hbg)) (first | (go_at_call 56; ((with_reducible refine (spec_pick B a c l _ xs.length _ (by first | exact hT.out.src.kept (below_drewN (Below.refl _ _) 1) | exact hT.out.src.kept (bthen (below_alloc _) (Below.refl _ _).drew) | exact hT.out.src.kept (bthen (below_drewN (Below.refl _ _) 1) (below_alloc _)) | exact (hT.out.kept (bthen (below_drewN (Below.refl _ _) 1) (below_alloc _))).src) (by omega) hl (by omega) (by omega)).mono ?_); rintro e wq0 ⟨r3, rfl, ⟨r30, r31, _⟩, hsq0, hwq0⟩; have hltq0 := hsq0.lt; obtain ⟨j, rfl⟩ := Int.eq_ofNat_of_zero_le r30; have hj : j < xs.length := by omega)) | (go_at_call 67; ((with_reducible refine (spec_amongN B a c l (k0 + 4) _ 0 5 5 [-1, 0, 4095, 4096, -9223372036854775808] _ (hsq0.kept (below_alloc _)) (by omega) hl (RI5_new _ _ _ _ _ _ _) rfl (by omega) (by omega) (by omega)).mono ?_); rintro e wq1 ⟨x4, rfl, _, hsq1, hwq1⟩; have hwA := Lib.hid ((Within.of_below (lo := B) (hi := B + 1) (Below.refl v1.heap.size v1).drew).trans (hwq0.trans ((Within.of_below (below_alloc _)).trans hwq1))); obtain ⟨x5, hx5⟩ := get_some (l := xs) (k := j) hj; have hrw := OV.within ho.out hwA.out (by omega); have hc5 : wq1.cell? ⟨g, j, none⟩ = some (.int .i64 x5) := (hrw.1.cellAt j (by omega)).trans (map_at hx5); have hf5 := hrw.1.frozenAt j)) | (go_at_call 67; ((with_reducible refine (spec_amongN B a c l (k0 + 4) _ 0 5 5 [-1, 0, 4095, 4096, -9223372036854775808] _ hsq0 (by omega) hl (RI5_old rfl ((Within.of_below (Below.refl _ _).drew).trans hwq0) (by omega)) rfl (by omega) (by omega) (by omega)).mono ?_); rintro e wq1 ⟨x4, rfl, _, hsq1, hwq1⟩; have hwA := Lib.hid ((Within.of_below (lo := B) (hi := B + 1) (below_alloc _)).trans ((Within.of_below (Below.refl _ _).drew).trans (hwq0.trans hwq1))); obtain ⟨x5, hx5⟩ := get_some (l := xs) (k := j) hj; have hrw := OV.within ho.out hwA.out (by omega); have hc5 : wq1.cell? ⟨g, j, none⟩ = some (.int .i64 x5) := (hrw.1.cellAt j (by omega)).trans (map_at hx5); have hf5 := hrw.1.frozenAt j))) | fail
        all_goals go_wp2_with fail
        all_goals go_end0
        all_goals exact ⟨rfl, wq1, hsq1.more (by omega), hT.out.win.trans hwA.out, .inr (.inl ⟨g, j, x4, rfl, hj, rfl⟩)⟩
/-- a card of the call's own, at most 21 columns, has been drawn -/
def DrawnU (w : World) (B : Nat) (a : Option Addr) (c : Nat) (l : List UInt8) (k : Nat) (e : Ending) (w' : World) : Prop :=
  ∃ (a' : Option Addr) (c' : Nat) (xs : List Int), e = .returned (.agg #[.slice a' xs.length c']) ∧ xs.length ≤ 21 ∧ w'.ownsRow w.heap.size 2 1 (.slice a' xs.length c') xs.length (xs.map (Value.int .i64)) ∧ SrcIs w' B a c l k ∧ Within B (B + 1) w w'
set_option maxHeartbeats 1000000 in
theorem spec_l03Bent (B : Nat) (a : Option Addr) (c : Nat) (l : List UInt8) (k0 : Nat) (w : World) (h : SrcIs w B a c l k0) (hk0 : k0 ≤ 134217728) (hl : l.length ≤ 1073741824) :
    Calls Tryz.prog 37 #[.pointer (some ⟨B, 0, none⟩)] w (DrawnU w B a c l (k0 + 70)) := by
  have hT := Lib.hid (St.start h)
  have hz := hT.out.size
  clear h
  go_enter Tryz.func37, Tryz.ntmps37
  go_wp2_with fail
  have hA := Lib.hid (below_alloc (w := w) (.cells #[.slice none 0 0] 32))
  have hkn := Lib.hid (show Bk (w.alloc (.cells #[.slice none 0 0] 32)) (w.heap.size) 32 #[.slice none 0 0] from (by first | exact Bk.new _ _ _ | simpa using Bk.new w #[.slice none 0 0] 32))
  replace hT := Lib.hid (hT.out.kept hA.out)
  have hqR : w.heap.size + 1 ≤ (w.alloc (.cells #[.slice none 0 0] 32)).heap.size ∧ (w.alloc (.cells #[.slice none 0 0] 32)).heap.size ≤ w.heap.size + 1 := by simp
  have hkR := hkn
  clear hkn hA
  generalize (w.alloc (.cells #[.slice none 0 0] 32)) = v1 at *
  have hzv1 := hT.out.size
  refine (spec_pick B a c l _ (6) v1 hT.out.src (by omega) hl (by omega) (by omega)).mono ?_
  rintro e v2 ⟨r, rfl, ⟨r0, r1, r2⟩, hs, hw⟩
  have hmv2 := hw.size
  replace hT := Lib.hid (hT.out.step hs hw)
  replace hkR := Lib.hid (hkR.out.within hw (by omega))
  have hzv2 := hT.out.size
  have hltRv2 := hkR.out.lt
  clear hs hw
  replace r1 := r1 (by omega)
  clear r2
  obtain ⟨q, rfl⟩ := Int.eq_ofNat_of_zero_le r0
  have hcast := Lib.hid (show (1 : Int) + (q : Int) = ((q + 1 : Nat) : Int) by omega)
  go_wp2_with fail
  rw [hcast.out]
  refine (spec_l03Draw B a c l _ (q + 1) v2 hT.out.src (by omega) hl (by omega)).mono ?_
  rintro e v3 ⟨a5, c5, xs, rfl, hxl, hox, hs, hw⟩
  rw [← hxl] at hox ⊢
  have hq5 : xs.length ≤ 6 := by omega
  have hq6 : q + 1 ≤ 6 := by omega
  have hoX := Lib.hid (OV.of hox)
  replace hxl := Lib.hid hxl
  clear hox
  have hmv3 := hw.size
  replace hT := Lib.hid (hT.out.step hs hw)
  replace hkR := Lib.hid (hkR.out.within hw (by omega))
  have hzv3 := hT.out.size
  have hltRv3 := hkR.out.lt
  clear hs hw
  go_wp2_with fail
  have hA := Lib.hid (below_alloc (w := v3) (.cells #[.slice a5 xs.length c5] 32))
  have hkn := Lib.hid (show Bk (v3.alloc (.cells #[.slice a5 xs.length c5] 32)) (v3.heap.size) 32 #[.slice a5 xs.length c5] from (by first | exact Bk.new _ _ _ | simpa using Bk.new v3 #[.slice a5 xs.length c5] 32))
  replace hT := Lib.hid (hT.out.kept hA.out)
  replace hkR := Lib.hid (hkR.out.kept hA.out)
  replace hoX := Lib.hid (hoX.out.kept hA.out)
  have hqC : v3.heap.size + 1 ≤ (v3.alloc (.cells #[.slice a5 xs.length c5] 32)).heap.size ∧ (v3.alloc (.cells #[.slice a5 xs.length c5] 32)).heap.size ≤ v3.heap.size + 1 := by simp
  have hkC := hkn
  clear hkn hA
  generalize (v3.alloc (.cells #[.slice a5 xs.length c5] 32)) = v4 at *
  have hzv4 := hT.out.size
  refine (spec_one B a c l _ 12 v4 hT.out.src (by omega) hl (by omega) (by omega)).mono ?_
  rintro e v5 ⟨b, rfl, hs, hw⟩
  have hmv5 := hw.size
  replace hT := Lib.hid (hT.out.step hs hw)
  replace hkR := Lib.hid (hkR.out.within hw (by omega))
  replace hkC := Lib.hid (hkC.out.within hw (by omega))
  replace hoX := Lib.hid (hoX.out.within hw (by omega))
  have hzv5 := hT.out.size
  have hltRv5 := hkR.out.lt
  have hltCv5 := hkC.out.lt
  clear hs hw
  cases b
  · skip
    obtain ⟨cR_0, fR_0⟩ := hkR.out.one
    obtain ⟨cC_0, fC_0⟩ := hkC.out.one
    go_wp2_with fail
    refine bodyPost_ret (v := .agg #[.slice a5 xs.length c5]) (by simp [results, Tryz.results37, go_sem, *]) rfl ⟨_, _, xs, rfl, ?_, ?_, ?_, ?_⟩
    · omega
    · exact own_mono (ownsRow_setCell_below (a := ⟨w.heap.size, 0, none⟩) hoX.out.1 (by dsimp only; omega) _) (by omega)
    · exact ((hT.out.set (p := ⟨w.heap.size, 0, none⟩) (Nat.le_refl _) _).src).more (by omega)
    · exact (hT.out.set (p := ⟨w.heap.size, 0, none⟩) (Nat.le_refl _) _).win
  · skip
    obtain ⟨d0, d1⟩ := hkC.out.one
    have hsp := Lib.hid (spec_l02Spoil B a c l _ (v3.heap.size) 0 a5 c5 xs _ _ v5 hT.out.src (by omega) hl d0 d1 (by omega) hoX.out (by omega) (by omega) (fun p hp e => by have := hoX.out.2 p hp; omega))
    clear d0 d1
    go_wp2_with fail
    refine hsp.out.mono ?_
    rintro e w7 ⟨rfl, v6, hs, hw, hcase⟩
    replace hT := Lib.hid (hT.out.step hs hw)
    replace hkR := Lib.hid (hkR.out.within hw (by omega))
    replace hkC := Lib.hid (hkC.out.within hw (by omega))
    replace hoX := Lib.hid (hoX.out.within hw (by omega))
    have hzv6 := hT.out.size
    clear hs hw hsp
    have hltRv6 := hkR.out.lt
    have hltCv6 := hkC.out.lt
    rcases hcase with ⟨a6, c6, ys, hy, hoy, rfl⟩ | ⟨g, j, x, rfl, hj, rfl⟩ | rfl
    · skip
      obtain ⟨cR_0, fR_0⟩ := hkR.out.one
      obtain ⟨cC_0, fC_0⟩ := hkC.out.one
      go_wp2_with fail
      refine bodyPost_ret (v := .agg #[.slice a6 ys.length c6]) (by simp [results, Tryz.results37, go_sem, *]) rfl ⟨_, _, ys, rfl, ?_, ?_, ?_, ?_⟩
      · exact hy
      · exact own_mono (ownsRow_setCell_below (a := ⟨w.heap.size, 0, none⟩) (ownsRow_setCell_below (a := ⟨v3.heap.size, 0, none⟩) hoy (by dsimp only; omega) _) (by dsimp only; omega) _) (by omega)
      · exact (((hT.out.set (p := ⟨v3.heap.size, 0, none⟩) (by dsimp only; omega) _).set (p := ⟨w.heap.size, 0, none⟩) (Nat.le_refl _) _).src).more (by omega)
      · exact ((hT.out.set (p := ⟨v3.heap.size, 0, none⟩) (by dsimp only; omega) _).set (p := ⟨w.heap.size, 0, none⟩) (Nat.le_refl _) _).win
    · obtain ⟨g_, hg0, hg1, hg2⟩ := OV.addr hoX.out (by omega)
      obtain rfl : g = g_ := by simpa using hg0
      clear hg0
      obtain ⟨cR_0, fR_0⟩ := hkR.out.one
      obtain ⟨cC_0, fC_0⟩ := hkC.out.one
      go_wp2_with fail
      refine bodyPost_ret (v := .agg #[.slice (some ⟨g, 0, none⟩) xs.length c5]) (by simp [results, Tryz.results37, go_sem, *]) rfl ⟨_, _, (xs.set j x), by rw [List.length_set], ?_, ?_, ?_, ?_⟩
      · rw [List.length_set]; omega
      · have h9 := own_mono (ownsRow_setCell_below (a := ⟨w.heap.size, 0, none⟩) (OV.store hoX.out j (.int .i64 x)).1 (by dsimp only; omega) (.slice (some ⟨g, 0, none⟩) xs.length c5)) (show w.heap.size ≤ _ by omega)
        rw [List.length_set, List.map_set]; exact h9
      · exact (((hT.out.set (p := ⟨g, j, none⟩) (by dsimp only; omega) _).set (p := ⟨w.heap.size, 0, none⟩) (Nat.le_refl _) _).src).more (by omega)
      · exact ((hT.out.set (p := ⟨g, j, none⟩) (by dsimp only; omega) _).set (p := ⟨w.heap.size, 0, none⟩) (Nat.le_refl _) _).win
    · skip
      obtain ⟨cR_0, fR_0⟩ := hkR.out.one
      obtain ⟨cC_0, fC_0⟩ := hkC.out.one
      go_wp2_with fail
      refine bodyPost_ret (v := .agg #[.slice a5 xs.length c5]) (by simp [results, Tryz.results37, go_sem, *]) rfl ⟨_, _, xs, rfl, ?_, ?_, ?_, ?_⟩
      · omega
      · exact own_mono (ownsRow_setCell_below (a := ⟨w.heap.size, 0, none⟩) hoX.out.1 (by dsimp only; omega) _) (by omega)
      · exact ((hT.out.set (p := ⟨w.heap.size, 0, none⟩) (Nat.le_refl _) _).src).more (by omega)
      · exact (hT.out.set (p := ⟨w.heap.size, 0, none⟩) (Nat.le_refl _) _).win
end Go.Proofs.YtmpfnkheohlmiaaGreatDoor
namespace Go.Proofs.YtmpfnkheohlmiaaGreatDoor
open Go.RowKit
set_option maxRecDepth 100000
set_option linter.unusedVariables false
set_option linter.unusedSimpArgs false
set_option linter.unnecessarySimpa false

/-- a deck of the call's own, with cards of n columns, has been drawn -/
def DrawnD (w : World) (B : Nat) (a : Option Addr) (c : Nat) (l : List UInt8) (k n m : Nat) (e : Ending) (w' : World) : Prop :=
  ∃ (a' : Option Addr) (c' : Nat) (xss : List (List Int)), e = .returned (.slice a' xss.length c') ∧ xss.length ≤ m ∧ (∀ x ∈ xss, x.length ≤ n) ∧ OD w.heap.size w'.heap.size w' 32 2 a' c' xss ∧ SrcIs w' B a c l k ∧ Within B (B + 1) w w'
/-- a list of cards of the call's own, seldom no deck, has been drawn -/
def DrawnW (w : World) (B : Nat) (a : Option Addr) (c : Nat) (l : List UInt8) (k : Nat) (e : Ending) (w' : World) : Prop :=
  ∃ (a' : Option Addr) (c' : Nat) (xss : List (List Int)), e = .returned (.slice a' xss.length c') ∧ DeckP xss ∧ OW w.heap.size w'.heap.size w' 32 2 a' c' xss ∧ SrcIs w' B a c l k ∧ Within B (B + 1) w w'
end Go.Proofs.YtmpfnkheohlmiaaGreatDoor
