/- The walks of the functions that draw layouts, names, decks and values for the laws: what is drawn is small and lies in rows of the call's own; memory has at most new blocks. -/
import Derived.Test.YtcbjfgjlhjjpiaaGreatDoorDrD
import Derived.Test.YtcbjfgjlhjjpiaaGreatDoorDrE
namespace Go.Proofs.YtcbjfgjlhjjpiaaGreatDoor
open Go.RowKit
set_option maxRecDepth 100000
set_option linter.unusedVariables false
set_option linter.unusedSimpArgs false
set_option linter.unnecessarySimpa false

theorem heldS3 {B g : Nat} {v V : World} {p q : Addr} {x y : Value} (hw : With2 B g v V) (h : v.cell? p = some x) (k : v.cell? q = some y) (hne : ¬ p.block = B) (hng : ¬ p.block = g) (kne : ¬ q.block = B) (kng : ¬ q.block = g) : With2 B g v V ∧ V.cell? p = some x ∧ V.cell? q = some y :=
  ⟨hw, (heldS2 hw h hne hng).2, (heldS2 hw k kne kng).2⟩
theorem names6 {t : ByteArray} (h : t ∈ ([⟨#[119, 104, 111]⟩, ⟨#[100, 97, 121]⟩, ⟨#[113, 116, 121]⟩, ⟨#[112, 114, 105, 99, 101]⟩, ⟨#[110, 111, 116, 101]⟩, ⟨#[110, 111, 110, 101]⟩] : List ByteArray)) : t.size ≤ 24 := by
  simp only [List.mem_cons, List.not_mem_nil, or_false] at h
  rcases h with rfl | rfl | rfl | rfl | rfl | rfl <;> decide
theorem trimR_le (l : List UInt8) (c : UInt8) : (Lib.trimRightB l c).length ≤ l.length := by
  unfold Lib.trimRightB
  first
    | (rw [List.length_reverse]; have h := (List.dropWhile_sublist (fun x => x == c) (l := l.reverse)).length_le; rw [List.length_reverse] at h; exact h)
    | (simp; done)
theorem val_size {x : Itm} {ys : List Int} (hq : fieldB x.fr x.to ys.length = true) (h12 : x.kind = 2 → x.to - x.fr ≤ 12) (hn : ys.length ≤ 1048576) : (valS x ys).1.size ≤ 1048576 := by
  cases hk : (x.kind == 2)
  · rw [val_text ys hk]
    show ((Lib.trimRightB _ 32).toArray).size ≤ _
    have h1 := trimR_le (textOrS (partL ys x.fr x.to)).data.toList 32
    have h2 : (textOrS (partL ys x.fr x.to)).size ≤ ys.length := by
      unfold textOrS
      split
      · rw [textS_size]; exact partL_small _ _ (Nat.le_refl _)
      · exact Nat.zero_le _
    rw [len_bytes] at h1
    simp only [List.size_toArray]
    omega
  · rw [val_num ys hk]
    have h1 := valN_small hq (h12 (by simpa using hk))
    have h2 := Lib.itoa_length_le _ h1.1 h1.2
    show ((Lib.itoa _).toArray).size ≤ _
    simp only [List.size_toArray]
    omega
theorem spec_l04Name (B : Nat) (a : Option Addr) (c : Nat) (l : List UInt8) (k0 : Nat) (w : World) (h : SrcIs w B a c l k0) (hk0 : k0 ≤ 134217728) (hl : l.length ≤ 1073741824) :
    Calls Tryz.prog 92 #[.pointer (some ⟨B, 0, none⟩)] w fun e w' => ∃ t : ByteArray, e = .returned (.string t) ∧ t.size ≤ 24 ∧ SrcIs w' B a c l (k0 + 2) ∧ Within B (B + 1) w w' := by
  have hT := Lib.hid (St.start h)
  have hz := hT.out.size
  clear h
  go_enter Tryz.func92, Tryz.ntmps92
  go_wp2_with fail
  have hA := below_alloc (w := w) (.cells #[.string ⟨#[119, 104, 111]⟩, .string ⟨#[100, 97, 121]⟩, .string ⟨#[113, 116, 121]⟩, .string ⟨#[112, 114, 105, 99, 101]⟩, .string ⟨#[110, 111, 116, 101]⟩, .string ⟨#[110, 111, 110, 101]⟩] 9)
  replace hT := Lib.hid (hT.out.kept hA)
  have hrA := Lib.hid (show RS (w.alloc (.cells #[.string ⟨#[119, 104, 111]⟩, .string ⟨#[100, 97, 121]⟩, .string ⟨#[113, 116, 121]⟩, .string ⟨#[112, 114, 105, 99, 101]⟩, .string ⟨#[110, 111, 116, 101]⟩, .string ⟨#[110, 111, 110, 101]⟩] 9)) (some ⟨w.heap.size, 0, none⟩) [⟨#[119, 104, 111]⟩, ⟨#[100, 97, 121]⟩, ⟨#[113, 116, 121]⟩, ⟨#[112, 114, 105, 99, 101]⟩, ⟨#[110, 111, 116, 101]⟩, ⟨#[110, 111, 110, 101]⟩] from row_block (heap_alloc_new _ _))
  clear hA
  refine (spec_srcTextN B a c l _ (w.heap.size) 0 6 6 [⟨#[119, 104, 111]⟩, ⟨#[100, 97, 121]⟩, ⟨#[113, 116, 121]⟩, ⟨#[112, 114, 105, 99, 101]⟩, ⟨#[110, 111, 116, 101]⟩, ⟨#[110, 111, 110, 101]⟩] _ hT.out.src (by omega) hl hrA.out rfl (by omega) (by omega) (by omega)).mono ?_
  rintro e w9 ⟨s, rfl, htm, hs, hw⟩
  replace hT := Lib.hid (hT.out.step hs hw)
  have hs24 := names6 htm
  clear hs hw htm hrA
  go_wp2_with fail
  go_ret
  exact ⟨s, rfl, hs24, (hT.out.src).more (by omega), hT.out.win⟩
set_option maxHeartbeats 4000000 in
theorem spec_DrawFreeColumns (a : Option Addr) (c : Nat) (l : List UInt8) (w : World) (hx : RB w a l) (hl : l.length ≤ 1073741824) :
    Calls Tryz.prog 22 #[.slice a l.length c] w fun e w' => ∃ (wd : Int) (a' : Option Addr) (c' : Nat) (xs : List Itm), e = .returned (.agg #[.int .i64 wd, .slice a' xs.length c']) ∧ LayP wd xs ∧ RT w' a' xs ∧ xs.length ≤ c' ∧ Below w.heap.size w w' := by
  have hb1 := Lib.hid (below_alloc (w := w) (.cells #[.int .i64 0, .slice none 0 0] 35))
  have hkR := Lib.hid (show Bk (w.alloc (.cells #[.int .i64 0, .slice none 0 0] 35)) (w.heap.size) 35 #[.int .i64 0, .slice none 0 0] from Bk.new _ _ _)
  go_enter Tryz.func22, Tryz.ntmps22
  go_wp2_with fail
  refine (spec_l00From a c l _ (hx.kept hb1.out)).mono ?_
  rintro e w1 ⟨rfl, hs, hb⟩
  rw [show (w.alloc (.cells #[.int .i64 0, .slice none 0 0] 35)).heap.size = w.heap.size + 1 by simp] at hs
  replace hkR := Lib.hid (hkR.out.kept hb)
  have hB1 := Lib.hid (bthen hb1.out hb)
  have hT := Lib.hid (St.start hs)
  have hz := hT.out.size
  clear hs hb hb1
  simp only [World.size_alloc]
  generalize hBe : w.heap.size + 1 = B at *
  have hBw : w.heap.size + 1 ≤ B := by omega
  clear hBe
  have hltR := hkR.out.lt
  go_wp2_with fail
  refine (spec_l04Bent B a c l _ w1 hT.out.src (by omega) hl).mono ?_
  rintro e v1 ⟨WD, a3, c3, xs, rfl, hP0, hoI, hs, hw⟩
  have hP := Lib.hid hP0
  replace hoI := Lib.hid hoI
  clear hP0
  have hmv1 := hw.size
  replace hT := Lib.hid (hT.out.step hs hw)
  replace hkR := Lib.hid (hkR.out.within hw (by omega))
  have hzv1 := hT.out.size
  have hltRv1 := hkR.out.lt
  clear hs hw
  have hsz := hP.out.sz
  have hW0 : -1 ≤ WD := hP.out.1
  have hW1 : WD ≤ 21 := hP.out.2.1
  have hm16 : xs.length ≤ 16 := hP.out.2.2.1
  generalize hxm : xs.length = m at *
  replace hxm := Lib.hid hxm
  replace hoI := Lib.hid (show OV w1.heap.size v1.heap.size v1 48 4 a3 m c3 (itemsV xs) by have h := hoI.out; unfold OT at h; rw [hxm.out] at h; exact h)
  obtain ⟨cR_0, cR_1, fR_0, fR_1⟩ := hkR.out.two
  go_wp2_with fail
  refine bodyPost_ret (v := .agg #[.int .i64 WD, .slice a3 m c3]) (by simp [results, Tryz.results22, go_sem, *]) rfl ⟨WD, a3, c3, xs, by rw [hxm.out], hP.out, (show RT _ a3 xs from ((hoI.out.setBelow (p := ⟨w.heap.size, 0, none⟩) (by dsimp only; omega) (.int .i64 WD)).setBelow (p := ⟨w.heap.size, 1, none⟩) (by dsimp only; omega) (.slice a3 m c3)).row), by rw [hxm.out]; exact hoI.out.capn.1, (((hT.out.win.below (B := w.heap.size) hB1.out (by omega) hB1.out.size).setCell (p := ⟨w.heap.size, 0, none⟩) (Nat.le_refl _) _).setCell (p := ⟨w.heap.size, 1, none⟩) (Nat.le_refl _) _)⟩
set_option maxHeartbeats 4000000 in
theorem spec_DrawItemNamed (a : Option Addr) (c : Nat) (l : List UInt8) (w : World) (hx : RB w a l) (hl : l.length ≤ 1073741824) :
    Calls Tryz.prog 25 #[.slice a l.length c] w fun e w' => ∃ (wd : Int) (a' : Option Addr) (c' : Nat) (xs : List Itm) (t : ByteArray), e = .returned (.tuple #[.agg #[.int .i64 wd, .slice a' xs.length c'], .string t]) ∧ LayP wd xs ∧ RT w' a' xs ∧ xs.length ≤ c' ∧ t.size ≤ 24 ∧ Below w.heap.size w w' := by
  have hb1 := Lib.hid (below_alloc (w := w) (.cells #[.int .i64 0, .slice none 0 0] 35))
  have hkR := Lib.hid (show Bk (w.alloc (.cells #[.int .i64 0, .slice none 0 0] 35)) (w.heap.size) 35 #[.int .i64 0, .slice none 0 0] from Bk.new _ _ _)
  go_enter Tryz.func25, Tryz.ntmps25
  go_wp2_with fail
  refine (spec_l00From a c l _ (hx.kept hb1.out)).mono ?_
  rintro e w1 ⟨rfl, hs, hb⟩
  rw [show (w.alloc (.cells #[.int .i64 0, .slice none 0 0] 35)).heap.size = w.heap.size + 1 by simp] at hs
  replace hkR := Lib.hid (hkR.out.kept hb)
  have hB1 := Lib.hid (bthen hb1.out hb)
  have hT := Lib.hid (St.start hs)
  have hz := hT.out.size
  clear hs hb hb1
  simp only [World.size_alloc]
  generalize hBe : w.heap.size + 1 = B at *
  have hBw : w.heap.size + 1 ≤ B := by omega
  clear hBe
  have hltR := hkR.out.lt
  go_wp2_with fail
  refine (spec_l04Bent B a c l _ w1 hT.out.src (by omega) hl).mono ?_
  rintro e v1 ⟨WD, a3, c3, xs, rfl, hP0, hoI, hs, hw⟩
  have hP := Lib.hid hP0
  replace hoI := Lib.hid hoI
  clear hP0
  have hmv1 := hw.size
  replace hT := Lib.hid (hT.out.step hs hw)
  replace hkR := Lib.hid (hkR.out.within hw (by omega))
  have hzv1 := hT.out.size
  have hltRv1 := hkR.out.lt
  clear hs hw
  have hsz := hP.out.sz
  have hW0 : -1 ≤ WD := hP.out.1
  have hW1 : WD ≤ 21 := hP.out.2.1
  have hm16 : xs.length ≤ 16 := hP.out.2.2.1
  generalize hxm : xs.length = m at *
  replace hxm := Lib.hid hxm
  replace hoI := Lib.hid (show OV w1.heap.size v1.heap.size v1 48 4 a3 m c3 (itemsV xs) by have h := hoI.out; unfold OT at h; rw [hxm.out] at h; exact h)
  go_wp2_with fail
  have hA := Lib.hid (below_alloc (w := v1) (.cells #[.int .i64 WD, .slice a3 m c3] 35))
  have hkn := Lib.hid (show Bk (v1.alloc (.cells #[.int .i64 WD, .slice a3 m c3] 35)) (v1.heap.size) 35 #[.int .i64 WD, .slice a3 m c3] from (by first | exact Bk.new _ _ _ | simpa using Bk.new v1 #[.int .i64 WD, .slice a3 m c3] 35))
  replace hT := Lib.hid (hT.out.kept hA.out)
  replace hkR := Lib.hid (hkR.out.kept hA.out)
  replace hoI := Lib.hid (hoI.out.kept hA.out)
  have hqL : v1.heap.size + 1 ≤ (v1.alloc (.cells #[.int .i64 WD, .slice a3 m c3] 35)).heap.size ∧ (v1.alloc (.cells #[.int .i64 WD, .slice a3 m c3] 35)).heap.size ≤ v1.heap.size + 1 := by simp
  have hkL := hkn
  clear hkn hA
  generalize (v1.alloc (.cells #[.int .i64 WD, .slice a3 m c3] 35)) = v2 at *
  have hzv2 := hT.out.size
  have hLg : ¬ v1.heap.size = w.heap.size := by omega
  have hLg2 : ¬ w.heap.size = v1.heap.size := by omega
  have hLB : ¬ v1.heap.size = B := by omega
  have hBR : ¬ w.heap.size = B := by omega
  obtain ⟨cL_0, cL_1, fL_0, fL_1⟩ := hkL.out.two
  obtain ⟨cR_0, cR_1, fR_0, fR_1⟩ := hkR.out.two
  go_wp2_with fail
  first | go_region_held3 (fun V => With2 B w.heap.size v2 V ∧ V.cell? ⟨v1.heap.size, 0, none⟩ = some (.int .i64 WD) ∧ V.cell? ⟨v1.heap.size, 1, none⟩ = some (.slice a3 m c3)) (first | assumption | exact heldS3 (With2.of (Within.of_below (below_drewN (Below.refl _ _) 1))) cL_0 cL_1 hLB hLg hLB hLg | (rename With2 B w.heap.size v2 _ ∧ _ => hH; refine heldS3 (hH.1.trans (With2.of ?_)) cL_0 cL_1 hLB hLg hLB hLg; assumption) | (rename With2 B w.heap.size v2 _ ∧ _ => hH; exact heldS3 (hH.1.trans (With2.of (Within.of_below (below_alloc _)))) cL_0 cL_1 hLB hLg hLB hLg) | (rename With2 B w.heap.size v2 _ ∧ _ => hH; exact heldS3 ((hH.1.set _ _).set _ _) cL_0 cL_1 hLB hLg hLB hLg)) (first | (go_at_call 92; ((with_reducible refine (spec_l04Name B a c l _ _ (hT.out.src.kept (Below.refl _ _).drew) (by omega) hl).mono ?_); rintro e wq0 ⟨t, rfl, ht24, hsq0, hwq0⟩; have hw9 := (Within.of_below (lo := B) (hi := B + 1) (Below.refl v2.heap.size v2).drew).trans hwq0; have hr9 := hw9.cell cR_0 (by dsimp only; omega); have hr8 := hw9.cell cR_1 (by dsimp only; omega); have hr7 := hw9.frozen cR_0 fR_0 (by dsimp only; omega); have hr6 := hw9.frozen cR_1 fR_1 (by dsimp only; omega)))) | fail
  go_wp2_with fail
  clear cL_0 cL_1 fL_0 fL_1 cR_0 cR_1 fR_0 fR_1
  replace hT := Lib.hid (hT.out.step hsq0 hw9)
  replace hkR := Lib.hid (hkR.out.within hw9 (by omega))
  replace hkL := Lib.hid (hkL.out.within hw9 (by omega))
  replace hoI := Lib.hid (hoI.out.within hw9 (by omega))
  clear hsq0 hwq0 hw9
  refine bodyPost_ret (v := .tuple #[.agg #[.int .i64 WD, .slice a3 m c3], .string t]) (by simp [results, Tryz.results25, go_sem, *]) rfl ⟨WD, a3, c3, xs, t, by rw [hxm.out], hP.out, (show RT _ a3 xs from ((hoI.out.setBelow (p := ⟨w.heap.size, 0, none⟩) (by dsimp only; omega) (.int .i64 WD)).setBelow (p := ⟨w.heap.size, 1, none⟩) (by dsimp only; omega) (.slice a3 m c3)).row), by rw [hxm.out]; exact hoI.out.capn.1, ht24, (((hT.out.win.below (B := w.heap.size) hB1.out (by omega) hB1.out.size).setCell (p := ⟨w.heap.size, 0, none⟩) (Nat.le_refl _) _).setCell (p := ⟨w.heap.size, 1, none⟩) (Nat.le_refl _) _)⟩
set_option maxHeartbeats 4000000 in
theorem spec_DrawItemTotal (a : Option Addr) (c : Nat) (l : List UInt8) (w : World) (hx : RB w a l) (hl : l.length ≤ 1073741824) :
    Calls Tryz.prog 28 #[.slice a l.length c] w fun e w' => ∃ (wd : Int) (a' : Option Addr) (c' : Nat) (xs : List Itm) (b : Option Addr) (d : Nat) (xss : List (List Int)) (t : ByteArray), e = .returned (.tuple #[.agg #[.int .i64 wd, .slice a' xs.length c'], .slice b xss.length d, .string t]) ∧ LayP wd xs ∧ RT w' a' xs ∧ xs.length ≤ c' ∧ DeckP xss ∧ RD w' b xss ∧ t.size ≤ 24 ∧ Below w.heap.size w w' := by
  have hb1 := Lib.hid (below_alloc (w := w) (.cells #[.int .i64 0, .slice none 0 0] 35))
  have hkR := Lib.hid (show Bk (w.alloc (.cells #[.int .i64 0, .slice none 0 0] 35)) (w.heap.size) 35 #[.int .i64 0, .slice none 0 0] from Bk.new _ _ _)
  go_enter Tryz.func28, Tryz.ntmps28
  go_wp2_with fail
  refine (spec_l00From a c l _ (hx.kept hb1.out)).mono ?_
  rintro e w1 ⟨rfl, hs, hb⟩
  rw [show (w.alloc (.cells #[.int .i64 0, .slice none 0 0] 35)).heap.size = w.heap.size + 1 by simp] at hs
  replace hkR := Lib.hid (hkR.out.kept hb)
  have hB1 := Lib.hid (bthen hb1.out hb)
  have hT := Lib.hid (St.start hs)
  have hz := hT.out.size
  clear hs hb hb1
  simp only [World.size_alloc]
  generalize hBe : w.heap.size + 1 = B at *
  have hBw : w.heap.size + 1 ≤ B := by omega
  clear hBe
  have hltR := hkR.out.lt
  go_wp2_with fail
  refine (spec_l04Bent B a c l _ w1 hT.out.src (by omega) hl).mono ?_
  rintro e v1 ⟨WD, a3, c3, xs, rfl, hP0, hoI, hs, hw⟩
  have hP := Lib.hid hP0
  replace hoI := Lib.hid hoI
  clear hP0
  have hmv1 := hw.size
  replace hT := Lib.hid (hT.out.step hs hw)
  replace hkR := Lib.hid (hkR.out.within hw (by omega))
  have hzv1 := hT.out.size
  have hltRv1 := hkR.out.lt
  clear hs hw
  have hsz := hP.out.sz
  have hW0 : -1 ≤ WD := hP.out.1
  have hW1 : WD ≤ 21 := hP.out.2.1
  have hm16 : xs.length ≤ 16 := hP.out.2.2.1
  generalize hxm : xs.length = m at *
  replace hxm := Lib.hid hxm
  replace hoI := Lib.hid (show OV w1.heap.size v1.heap.size v1 48 4 a3 m c3 (itemsV xs) by have h := hoI.out; unfold OT at h; rw [hxm.out] at h; exact h)
  go_wp2_with fail
  have hA := Lib.hid (below_alloc (w := v1) (.cells #[.int .i64 WD, .slice a3 m c3] 35))
  have hkn := Lib.hid (show Bk (v1.alloc (.cells #[.int .i64 WD, .slice a3 m c3] 35)) (v1.heap.size) 35 #[.int .i64 WD, .slice a3 m c3] from (by first | exact Bk.new _ _ _ | simpa using Bk.new v1 #[.int .i64 WD, .slice a3 m c3] 35))
  replace hT := Lib.hid (hT.out.kept hA.out)
  replace hkR := Lib.hid (hkR.out.kept hA.out)
  replace hoI := Lib.hid (hoI.out.kept hA.out)
  have hqL : v1.heap.size + 1 ≤ (v1.alloc (.cells #[.int .i64 WD, .slice a3 m c3] 35)).heap.size ∧ (v1.alloc (.cells #[.int .i64 WD, .slice a3 m c3] 35)).heap.size ≤ v1.heap.size + 1 := by simp
  have hkL := hkn
  clear hkn hA
  generalize (v1.alloc (.cells #[.int .i64 WD, .slice a3 m c3] 35)) = v2 at *
  have hzv2 := hT.out.size
  have hLg : ¬ v1.heap.size = w.heap.size := by omega
  have hLg2 : ¬ w.heap.size = v1.heap.size := by omega
  have hLB : ¬ v1.heap.size = B := by omega
  have hBR : ¬ w.heap.size = B := by omega
  go_wp2_with fail
  refine (spec_l04DrawDeck B a c l _ (v1.heap.size) WD a3 c3 m xs _ _ v2 hT.out.src (by omega) hl hkL.out hLB hoI.out (by omega) hxm.out hP.out).mono ?_
  rintro e v3 ⟨a5, c5, xss, rfl, hD, hw0, hs, hw⟩
  have hoW := Lib.hid hw0
  clear hw0
  have hmv3 := hw.size
  replace hT := Lib.hid (hT.out.step hs hw)
  replace hkR := Lib.hid (hkR.out.within hw (by omega))
  replace hkL := Lib.hid (hkL.out.within hw (by omega))
  replace hoI := Lib.hid (hoI.out.within hw (by omega))
  have hzv3 := hT.out.size
  have hltRv3 := hkR.out.lt
  have hltLv3 := hkL.out.lt
  clear hs hw
  have hxn : xss.length ≤ 64 := hD.1
  obtain ⟨cL_0, cL_1, fL_0, fL_1⟩ := hkL.out.two
  obtain ⟨cR_0, cR_1, fR_0, fR_1⟩ := hkR.out.two
  go_wp2_with fail
  first | go_region_held3 (fun V => With2 B w.heap.size v3 V ∧ V.cell? ⟨v1.heap.size, 0, none⟩ = some (.int .i64 WD) ∧ V.cell? ⟨v1.heap.size, 1, none⟩ = some (.slice a3 m c3)) (first | assumption | exact heldS3 (With2.of (Within.of_below (below_drewN (Below.refl _ _) 1))) cL_0 cL_1 hLB hLg hLB hLg | (rename With2 B w.heap.size v3 _ ∧ _ => hH; refine heldS3 (hH.1.trans (With2.of ?_)) cL_0 cL_1 hLB hLg hLB hLg; assumption) | (rename With2 B w.heap.size v3 _ ∧ _ => hH; exact heldS3 (hH.1.trans (With2.of (Within.of_below (below_alloc _)))) cL_0 cL_1 hLB hLg hLB hLg) | (rename With2 B w.heap.size v3 _ ∧ _ => hH; exact heldS3 ((hH.1.set _ _).set _ _) cL_0 cL_1 hLB hLg hLB hLg)) (first | (go_at_call 92; ((with_reducible refine (spec_l04Name B a c l _ _ (hT.out.src.kept (Below.refl _ _).drew) (by omega) hl).mono ?_); rintro e wq0 ⟨t, rfl, ht24, hsq0, hwq0⟩; have hw9 := (Within.of_below (lo := B) (hi := B + 1) (Below.refl v3.heap.size v3).drew).trans hwq0; have hr9 := hw9.cell cR_0 (by dsimp only; omega); have hr8 := hw9.cell cR_1 (by dsimp only; omega); have hr7 := hw9.frozen cR_0 fR_0 (by dsimp only; omega); have hr6 := hw9.frozen cR_1 fR_1 (by dsimp only; omega)))) | fail
  go_wp2_with fail
  clear cL_0 cL_1 fL_0 fL_1 cR_0 cR_1 fR_0 fR_1
  replace hT := Lib.hid (hT.out.step hsq0 hw9)
  replace hkR := Lib.hid (hkR.out.within hw9 (by omega))
  replace hkL := Lib.hid (hkL.out.within hw9 (by omega))
  replace hoI := Lib.hid (hoI.out.within hw9 (by omega))
  replace hoW := Lib.hid (hoW.out.within hw9 (by omega))
  clear hsq0 hwq0 hw9
  refine bodyPost_ret (v := .tuple #[.agg #[.int .i64 WD, .slice a3 m c3], .slice a5 xss.length c5, .string t]) (by simp [results, Tryz.results28, go_sem, *]) rfl ⟨WD, a3, c3, xs, a5, c5, xss, t, by rw [hxm.out], hP.out, (show RT _ a3 xs from ((hoI.out.setBelow (p := ⟨w.heap.size, 0, none⟩) (by dsimp only; omega) (.int .i64 WD)).setBelow (p := ⟨w.heap.size, 1, none⟩) (by dsimp only; omega) (.slice a3 m c3)).row), by rw [hxm.out]; exact hoI.out.capn.1, hD, ((hoW.out.setBelow (p := ⟨w.heap.size, 0, none⟩) (by dsimp only; omega) (.int .i64 WD)).setBelow (p := ⟨w.heap.size, 1, none⟩) (by dsimp only; omega) (.slice a3 m c3)).RD, ht24, (((hT.out.win.below (B := w.heap.size) hB1.out (by omega) hB1.out.size).setCell (p := ⟨w.heap.size, 0, none⟩) (Nat.le_refl _) _).setCell (p := ⟨w.heap.size, 1, none⟩) (Nat.le_refl _) _)⟩
theorem RS4_new (w : World) (s0 s1 s2 s3 : ByteArray) (t : Nat) : RS (w.alloc (.cells #[.string s0, .string s1, .string s2, .string s3] t)) (some ⟨w.heap.size, 0, none⟩) [s0, s1, s2, s3] := row_block (heap_alloc_new _ _)
theorem texts4 {t : ByteArray} (h : t ∈ ([⟨#[]⟩, ⟨#[48]⟩, ⟨#[65]⟩, ⟨#[49]⟩] : List ByteArray)) : t.size ≤ 24 := by
  simp only [List.mem_cons, List.not_mem_nil, or_false] at h
  rcases h with rfl | rfl | rfl | rfl <;> decide
theorem OW.first {lo hi e e' c : Nat} {w : World} {a : Option Addr} {xss : List (List Int)} (h : OW lo hi w e e' a c xss) (hn : 0 < xss.length) : ∃ (g : Nat) (y : List Int) (a6 : Option Addr) (c6 : Nat), a = some ⟨g, 0, none⟩ ∧ xss[0]? = some y ∧ w.cell? ⟨g, 0, none⟩ = some (.slice a6 y.length c6) ∧ RI w a6 y ∧ y.length ≤ c6 ∧ lo ≤ g ∧ ∃ hi', OI lo hi' w e' a6 c6 y := by
  have hr := h.RD
  obtain ⟨hs, h1, h2, h3⟩ := h
  obtain ⟨g, rfl, hg1, hg2⟩ := OV.addr h2 hn
  obtain ⟨y, hy⟩ := get_some (l := xss) (k := 0) hn
  obtain ⟨p, hp⟩ := get_some (l := hs) (k := 0) (by omega)
  obtain ⟨a6, c6⟩ := p
  have ok := h3 0 _ y hp hy
  have e1 := Row.off h2.row (headsV_at hp hy)
  simp only [Nat.zero_add] at e1
  exact ⟨g, y, a6, c6, rfl, hy, e1, ok.RI, ok.cap0, hg1, _, ok⟩
end Go.Proofs.YtcbjfgjlhjjpiaaGreatDoor
