/- The walks of the functions that draw layouts: what is drawn lies in a row of the call's own; nothing but the source is written. -/
import Derived.Test.YtmpfnkheohlmiaaGreatDoorQZ
import Derived.Test.YtmpfnkheohlmiaaGreatDoorQY
namespace Go.Proofs.YtmpfnkheohlmiaaGreatDoor
open Go.RowKit
set_option maxRecDepth 100000
set_option linter.unusedVariables false
set_option linter.unusedSimpArgs false
set_option linter.unnecessarySimpa false

def NAMES : Array Value := #[.string ⟨#[119, 104, 111]⟩, .string ⟨#[100, 97, 121]⟩, .string ⟨#[113, 116, 121]⟩, .string ⟨#[112, 114, 105, 99, 101]⟩, .string ⟨#[110, 111, 116, 101]⟩]
theorem names_at {k : Nat} (h : k < 5) : ∃ nm : ByteArray, (#[.string ⟨#[119, 104, 111]⟩, .string ⟨#[100, 97, 121]⟩, .string ⟨#[113, 116, 121]⟩, .string ⟨#[112, 114, 105, 99, 101]⟩, .string ⟨#[110, 111, 116, 101]⟩] : Array Value)[k]? = some (.string nm) ∧ nm.size ≤ 12 := by
  have : k = 0 ∨ k = 1 ∨ k = 2 ∨ k = 3 ∨ k = 4 := by omega
  rcases this with rfl | rfl | rfl | rfl | rfl <;> exact ⟨_, rfl, by decide⟩
theorem Within.setNew {lo hi : Nat} {w w' : World} (h : Within lo hi w w') {p : Addr} (hp : w.heap.size ≤ p.block) (u : Value) : Within lo hi w (w'.setCell p u) := h.then_below ((Below.refl _ _).setCell (Nat.le_refl _) u) hp
theorem row_item {v : World} {g : Nat} {a : Option Addr} {xs : List Itm} {lo hi n c : Nat} {x : Itm} {k : Nat} (h : OV lo hi v 63 4 (some ⟨g, 0, none⟩) n c (itemsV xs)) (hx : xs[k]? = some x) :
    (v.cell? ⟨g, k * 4, none⟩ = some (.string x.name) ∧ v.cell? ⟨g, k * 4 + 1, none⟩ = some (.int .i64 x.kind) ∧ v.cell? ⟨g, k * 4 + 2, none⟩ = some (.int .i64 x.fr) ∧ v.cell? ⟨g, k * 4 + 3, none⟩ = some (.int .i64 x.to)) ∧ ∀ j, v.frozen? ⟨g, j, none⟩ = false := by
  have h2 := RT.off (xs := xs) (show RT v (some ⟨g, 0, none⟩) xs from h.row) hx
  simp only [Nat.zero_add] at h2
  obtain ⟨cs, hcs⟩ := h.block
  exact ⟨h2, fun j => Bk.free hcs j⟩
set_option maxHeartbeats 8000000 in
theorem spec_l04DrawS (B : Nat) (a : Option Addr) (c : Nat) (l : List UInt8) (k0 : Nat) (w : World) (h : SrcIs w B a c l k0) (hk0 : k0 ≤ 268435456) (hl : l.length ≤ 1073741824) :
    Calls Tryz.prog 49 #[.pointer (some ⟨B, 0, none⟩)] w (DrawnL w B a c l (k0 + 64) 63 fun wd xs => 1 ≤ wd ∧ wd ≤ 12 ∧ xs.length ≤ 5 ∧ ∀ y ∈ xs, ItmS wd y) := by
  have hT := Lib.hid (St.start h)
  have hz := hT.out.size
  clear h
  obtain ⟨i0, hi, hz0, hz1, hz2⟩ := info_parts Tryz.info_item
  go_enter Tryz.func49, Tryz.ntmps49
  go_wp2_with fail
  have hA := Lib.hid (below_alloc (w := w) (.cells #[.int .i64 0, .slice none 0 0] 26))
  have hkn := Lib.hid (show Bk (w.alloc (.cells #[.int .i64 0, .slice none 0 0] 26)) (w.heap.size) 26 #[.int .i64 0, .slice none 0 0] from (by first | exact Bk.new _ _ _ | simpa using Bk.new w #[.int .i64 0, .slice none 0 0] 26))
  replace hT := Lib.hid (hT.out.kept hA.out)
  have hqR : w.heap.size + 1 ≤ (w.alloc (.cells #[.int .i64 0, .slice none 0 0] 26)).heap.size ∧ (w.alloc (.cells #[.int .i64 0, .slice none 0 0] 26)).heap.size ≤ w.heap.size + 1 := by simp
  have hkR := hkn
  clear hkn hA
  have hA := Lib.hid (below_alloc (w := (w.alloc (.cells #[.int .i64 0, .slice none 0 0] 26))) (.cells #[.string ⟨#[119, 104, 111]⟩, .string ⟨#[100, 97, 121]⟩, .string ⟨#[113, 116, 121]⟩, .string ⟨#[112, 114, 105, 99, 101]⟩, .string ⟨#[110, 111, 116, 101]⟩] 9))
  have hkn := Lib.hid (show Bk ((w.alloc (.cells #[.int .i64 0, .slice none 0 0] 26)).alloc (.cells #[.string ⟨#[119, 104, 111]⟩, .string ⟨#[100, 97, 121]⟩, .string ⟨#[113, 116, 121]⟩, .string ⟨#[112, 114, 105, 99, 101]⟩, .string ⟨#[110, 111, 116, 101]⟩] 9)) (w.heap.size + 1) 9 #[.string ⟨#[119, 104, 111]⟩, .string ⟨#[100, 97, 121]⟩, .string ⟨#[113, 116, 121]⟩, .string ⟨#[112, 114, 105, 99, 101]⟩, .string ⟨#[110, 111, 116, 101]⟩] from (by first | exact Bk.new _ _ _ | simpa using Bk.new (w.alloc (.cells #[.int .i64 0, .slice none 0 0] 26)) #[.string ⟨#[119, 104, 111]⟩, .string ⟨#[100, 97, 121]⟩, .string ⟨#[113, 116, 121]⟩, .string ⟨#[112, 114, 105, 99, 101]⟩, .string ⟨#[110, 111, 116, 101]⟩] 9))
  replace hT := Lib.hid (hT.out.kept hA.out)
  replace hkR := Lib.hid (hkR.out.kept hA.out)
  have hqN : (w.alloc (.cells #[.int .i64 0, .slice none 0 0] 26)).heap.size + 1 ≤ ((w.alloc (.cells #[.int .i64 0, .slice none 0 0] 26)).alloc (.cells #[.string ⟨#[119, 104, 111]⟩, .string ⟨#[100, 97, 121]⟩, .string ⟨#[113, 116, 121]⟩, .string ⟨#[112, 114, 105, 99, 101]⟩, .string ⟨#[110, 111, 116, 101]⟩] 9)).heap.size ∧ ((w.alloc (.cells #[.int .i64 0, .slice none 0 0] 26)).alloc (.cells #[.string ⟨#[119, 104, 111]⟩, .string ⟨#[100, 97, 121]⟩, .string ⟨#[113, 116, 121]⟩, .string ⟨#[112, 114, 105, 99, 101]⟩, .string ⟨#[110, 111, 116, 101]⟩] 9)).heap.size ≤ (w.alloc (.cells #[.int .i64 0, .slice none 0 0] 26)).heap.size + 1 := by simp
  have hkN := hkn
  clear hkn hA
  generalize ((w.alloc (.cells #[.int .i64 0, .slice none 0 0] 26)).alloc (.cells #[.string ⟨#[119, 104, 111]⟩, .string ⟨#[100, 97, 121]⟩, .string ⟨#[113, 116, 121]⟩, .string ⟨#[112, 114, 105, 99, 101]⟩, .string ⟨#[110, 111, 116, 101]⟩] 9)) = v1 at *
  have hzv1 := hT.out.size
  refine (spec_pick B a c l _ (12) v1 hT.out.src (by omega) hl (by omega) (by omega)).mono ?_
  rintro e v2 ⟨r, rfl, ⟨r0, r1, r2⟩, hs, hw⟩
  have hmv2 := hw.size
  replace hT := Lib.hid (hT.out.step hs hw)
  replace hkR := Lib.hid (hkR.out.within hw (by omega))
  replace hkN := Lib.hid (hkN.out.within hw (by omega))
  have hzv2 := hT.out.size
  have hltRv2 := hkR.out.lt
  have hltNv2 := hkN.out.lt
  clear hs hw
  replace r1 := r1 (by omega)
  clear r2
  have hown0 := Lib.hid (World.ownsRow_lit (base := v2.heap.size) (e := 63) (size := 4) v2 #[] 0 (Nat.le_refl _) (by simp [maxLen]) rfl)
  go_wp2_with fail
  have hoI := Lib.hid (OV.of (show (v2.alloc (.cells #[] 63)).ownsRow v2.heap.size 63 4 (.slice (some ⟨v2.heap.size, 0, none⟩) 0 0) 0 (itemsV []) from by simpa [itemsV] using hown0.out))
  clear hown0
  have hA := Lib.hid (below_alloc (w := v2) (.cells #[] 63))
  have hkn := Lib.hid (show Bk (v2.alloc (.cells #[] 63)) (v2.heap.size) 63 #[] from (by first | exact Bk.new _ _ _ | simpa using Bk.new v2 #[] 63))
  replace hT := Lib.hid (hT.out.kept hA.out)
  replace hkR := Lib.hid (hkR.out.kept hA.out)
  replace hkN := Lib.hid (hkN.out.kept hA.out)
  have hqE : v2.heap.size + 1 ≤ (v2.alloc (.cells #[] 63)).heap.size ∧ (v2.alloc (.cells #[] 63)).heap.size ≤ v2.heap.size + 1 := by simp
  have hkE := hkn
  clear hkn hA
  clear hkE
  have hA := Lib.hid (below_alloc (w := (v2.alloc (.cells #[] 63))) (.cells #[.int .i64 (1 + r), .slice (some ⟨v2.heap.size, 0, none⟩) 0 0] 26))
  have hkn := Lib.hid (show Bk ((v2.alloc (.cells #[] 63)).alloc (.cells #[.int .i64 (1 + r), .slice (some ⟨v2.heap.size, 0, none⟩) 0 0] 26)) (v2.heap.size + 1) 26 #[.int .i64 (1 + r), .slice (some ⟨v2.heap.size, 0, none⟩) 0 0] from (by first | exact Bk.new _ _ _ | simpa using Bk.new (v2.alloc (.cells #[] 63)) #[.int .i64 (1 + r), .slice (some ⟨v2.heap.size, 0, none⟩) 0 0] 26))
  replace hT := Lib.hid (hT.out.kept hA.out)
  replace hkR := Lib.hid (hkR.out.kept hA.out)
  replace hkN := Lib.hid (hkN.out.kept hA.out)
  replace hoI := Lib.hid (hoI.out.kept hA.out)
  have hqL : (v2.alloc (.cells #[] 63)).heap.size + 1 ≤ ((v2.alloc (.cells #[] 63)).alloc (.cells #[.int .i64 (1 + r), .slice (some ⟨v2.heap.size, 0, none⟩) 0 0] 26)).heap.size ∧ ((v2.alloc (.cells #[] 63)).alloc (.cells #[.int .i64 (1 + r), .slice (some ⟨v2.heap.size, 0, none⟩) 0 0] 26)).heap.size ≤ (v2.alloc (.cells #[] 63)).heap.size + 1 := by simp
  have hkL := hkn
  clear hkn hA
  generalize ((v2.alloc (.cells #[] 63)).alloc (.cells #[.int .i64 (1 + r), .slice (some ⟨v2.heap.size, 0, none⟩) 0 0] 26)) = v3 at *
  have hzv3 := hT.out.size
  refine (spec_pick B a c l _ (2) v3 hT.out.src (by omega) hl (by omega) (by omega)).mono ?_
  rintro e v4 ⟨r2, rfl, ⟨r20, r21, r22⟩, hs, hw⟩
  have hmv4 := hw.size
  replace hT := Lib.hid (hT.out.step hs hw)
  replace hkR := Lib.hid (hkR.out.within hw (by omega))
  replace hkN := Lib.hid (hkN.out.within hw (by omega))
  replace hkL := Lib.hid (hkL.out.within hw (by omega))
  replace hoI := Lib.hid (hoI.out.within hw (by omega))
  have hzv4 := hT.out.size
  have hltRv4 := hkR.out.lt
  have hltNv4 := hkN.out.lt
  have hltLv4 := hkL.out.lt
  clear hs hw
  replace r21 := r21 (by omega)
  clear r22
  obtain ⟨q2, rfl⟩ := Int.eq_ofNat_of_zero_le r20
  have hlt0 : v2.heap.size + 2 ≤ v4.heap.size := by omega
  replace hoI := Lib.hid (hoI.out.wider (Nat.le_refl _) (show _ ≤ v4.heap.size by omega))
  go_wp2_with fail
  go_loopw [5, 6] (fun at_ i wr => ∃ (k A m : Nat) (xs : List Itm) (a' : Option Addr) (c' : Nat), k ≤ 5 ∧ i = .int .i64 k ∧ at_ = .int .i64 A ∧ A ≤ 1 + 6 * k ∧ m ≤ k ∧ Hid (xs.length = m) ∧ (∀ y ∈ xs, ItmS (1 + r) y) ∧ OV v2.heap.size wr.heap.size wr 63 4 a' m c' (itemsV xs) ∧ Bk wr (v2.heap.size + 1) 26 #[.int .i64 (1 + r), .slice a' m c'] ∧ Bk wr w.heap.size 26 #[.int .i64 0, .slice none 0 0] ∧ Bk wr (w.heap.size + 1) 9 #[.string ⟨#[119, 104, 111]⟩, .string ⟨#[100, 97, 121]⟩, .string ⟨#[113, 116, 121]⟩, .string ⟨#[112, 114, 105, 99, 101]⟩, .string ⟨#[110, 111, 116, 101]⟩] ∧ St w B a c l (k0 + 4 + k * 8) wr ∧ v2.heap.size + 2 ≤ wr.heap.size) (fun _ i _ => 5 - (intOf i).toNat)
  case atStart => exact ⟨0, q2, 0, [], some ⟨v2.heap.size, 0, none⟩, 0, by omega, rfl, rfl, by omega, by omega, Lib.hid rfl, by simp, hoI.out, hkL.out, hkR.out, hkN.out, hT.out, hlt0⟩
  case round =>
    clear hT hoI hkL hkR hkN
    obtain ⟨k, A, m, xs, a3, c3, hk, rfl, rfl, hA, hmk, hxm, hP0, hoI, hkL, hkR, hkN, hT, hszr⟩ := hrel
    have hP := Lib.hid hP0
    replace hT := Lib.hid hT
    replace hoI := Lib.hid hoI
    replace hkL := Lib.hid hkL
    replace hkR := Lib.hid hkR
    replace hkN := Lib.hid hkN
    have hm63 := Lib.hid (show m + 1 ≤ maxLen by unfold maxLen; omega)
    have hzr := hT.out.size
    clear hP0
    by_cases hlt : k < 5
    · obtain ⟨nm, hnm, hnsz⟩ := names_at hlt
      have hlt5 : (k : Int) < 5 := by omega
      go_wp2_with fail
      refine (spec_pick B a c l _ (4) wr hT.out.src (by omega) hl (by omega) (by omega)).mono ?_
      rintro e v5 ⟨r4, rfl, ⟨r40, r41, r42⟩, hs, hw⟩
      have hmv5 := hw.size
      replace hT := Lib.hid (hT.out.step hs hw)
      replace hkR := Lib.hid (hkR.out.within hw (by omega))
      replace hkN := Lib.hid (hkN.out.within hw (by omega))
      replace hkL := Lib.hid (hkL.out.within hw (by omega))
      replace hoI := Lib.hid (hoI.out.within hw (by omega))
      have hzv5 := hT.out.size
      have hltRv5 := hkR.out.lt
      have hltNv5 := hkN.out.lt
      have hltLv5 := hkL.out.lt
      clear hs hw
      replace r41 := r41 (by omega)
      clear r42
      obtain ⟨q4, rfl⟩ := Int.eq_ofNat_of_zero_le r40
      by_cases hgt : (1 : Int) + r < (A : Int) + 1 + (q4 : Int)
      · have hgd : decide ((1 : Int) + r < (A : Int) + 1 + (q4 : Int)) = true := decide_eq_true hgt
        by_cases h2 : 1 < m
        · have hd : decide ((1 : Int) < (m : Int)) = true := decide_eq_true (by omega)
          have hd2 : decide (1 < m) = true := decide_eq_true h2
          obtain ⟨g, rfl, hg1, hg2⟩ := OV.addr hoI.out (by omega)
          have hgne : ¬ g = v2.heap.size + 1 := (hoI.out.ne_block hkL.out (by decide)) _ rfl
          obtain ⟨cL_0, cL_1, fL_0, fL_1⟩ := hkL.out.two
          go_wp2_with fail
          clear cL_0 cL_1 fL_0 fL_1
          refine (spec_one B a c l _ 3 v5 hT.out.src (by omega) hl (by omega) (by omega)).mono ?_
          rintro e v6 ⟨b, rfl, hs, hw⟩
          have hmv6 := hw.size
          replace hT := Lib.hid (hT.out.step hs hw)
          replace hkR := Lib.hid (hkR.out.within hw (by omega))
          replace hkN := Lib.hid (hkN.out.within hw (by omega))
          replace hkL := Lib.hid (hkL.out.within hw (by omega))
          replace hoI := Lib.hid (hoI.out.within hw (by omega))
          have hzv6 := hT.out.size
          have hltRv6 := hkR.out.lt
          have hltNv6 := hkN.out.lt
          have hltLv6 := hkL.out.lt
          clear hs hw
          cases b
          · skip
            obtain ⟨cL_0, cL_1, fL_0, fL_1⟩ := hkL.out.two
            obtain ⟨cR_0, cR_1, fR_0, fR_1⟩ := hkR.out.two
            go_wp2_with fail
            refine bodyPost_ret (v := .agg #[.int .i64 (1 + r), .slice (some ⟨g, 0, none⟩) m c3]) (by simp [results, Tryz.results49, go_sem, *]) rfl ⟨_, (some ⟨g, 0, none⟩), c3, xs, by rw [hxm.out], ⟨by omega, by omega, by rw [hxm.out]; omega, ?_⟩, ?_, ?_, ?_⟩
            · exact hP.out
            · have h9 := (OV.setBelow (OV.setBelow hoI.out (p := ⟨w.heap.size, 0, none⟩) (by dsimp only; omega) (.int .i64 (1 + r))) (p := ⟨w.heap.size, 1, none⟩) (by dsimp only; omega) (.slice (some ⟨g, 0, none⟩) m c3)).wider (show w.heap.size ≤ _ by omega) (show _ ≤ v6.heap.size by omega)
              unfold OT; rw [hxm.out]; simpa using h9
            · exact (((hT.out.set (p := ⟨w.heap.size, 0, none⟩) (Nat.le_refl _) _).set (p := ⟨w.heap.size, 1, none⟩) (Nat.le_refl _) _).src).more (by omega)
            · exact ((hT.out.set (p := ⟨w.heap.size, 0, none⟩) (Nat.le_refl _) _).set (p := ⟨w.heap.size, 1, none⟩) (Nat.le_refl _) _).win
          · obtain ⟨x0, hx0⟩ := get_some (l := xs) (k := 0) (by rw [hxm.out]; omega)
            obtain ⟨x1, hx1⟩ := get_some (l := xs) (k := 1) (by rw [hxm.out]; omega)
            obtain ⟨⟨i0_, i1_, i2_, i3_⟩, hfg⟩ := row_item (a := none) hoI.out hx0
            obtain ⟨⟨i4_, i5_, i6_, i7_⟩, _⟩ := row_item (a := none) hoI.out hx1
            simp only [Nat.zero_mul, Nat.zero_add, Nat.one_mul] at i0_ i1_ i2_ i3_ i4_ i5_ i6_ i7_
            have f0_ := hfg 0
            have f1_ := hfg 1
            have f2_ := hfg 2
            have f3_ := hfg 3
            have f4_ := hfg (4 + 0)
            have f5_ := hfg (4 + 1)
            have f6_ := hfg (4 + 2)
            have f7_ := hfg (4 + 3)
            have hgl : g < v6.heap.size := World.block_lt_of_cell? _ _ i0_
            have hgl2 : ¬ g = v6.heap.size := by omega
            have hm1_ : (1 : Int) < (m : Int) := by omega
            have hm0_ : (0 : Int) < (m : Int) := by omega
            have hm0n_ : 0 < m := by omega
            have hgL2 : ¬ v2.heap.size + 1 = g := by omega
            have hgR2 : ¬ w.heap.size = g := by omega
            have hgR : ¬ g = w.heap.size := by omega
            obtain ⟨cL_0, cL_1, fL_0, fL_1⟩ := hkL.out.two
            obtain ⟨cR_0, cR_1, fR_0, fR_1⟩ := hkR.out.two
            go_wp2_with fail
            first | go_region_held3 (fun V => V.cell? ⟨v2.heap.size + 1, 1, none⟩ = some (.slice (some ⟨g, 0, none⟩) m c3) ∧ V.cell? ⟨g, 4, none⟩ = some (.string x1.name) ∧ V.cell? ⟨g, 5, none⟩ = some (.int .i64 x1.kind) ∧ V.cell? ⟨g, 6, none⟩ = some (.int .i64 x1.fr) ∧ V.cell? ⟨g, 7, none⟩ = some (.int .i64 x1.to)) (simp [go_sem, *]) (fail) | fail
            clear i0_ i1_ i2_ i3_ i4_ i5_ i6_ i7_ f0_ f1_ f2_ f3_ f4_ f5_ f6_ f7_ hfg
            clear cL_0 cL_1 fL_0 fL_1 cR_0 cR_1 fR_0 fR_1
            replace hT := Lib.hid (hT.out.set (p := ⟨g, 0, none⟩) (by dsimp only; omega) (.string x1.name))
            replace hkR := Lib.hid (hkR.out.far (p := ⟨g, 0, none⟩) (by dsimp only; omega) (.string x1.name))
            replace hkN := Lib.hid (hkN.out.far (p := ⟨g, 0, none⟩) (by dsimp only; omega) (.string x1.name))
            replace hkL := Lib.hid (hkL.out.far (p := ⟨g, 0, none⟩) (by dsimp only; omega) (.string x1.name))
            replace hoI := Lib.hid (OV.store hoI.out 0 (.string x1.name))
            have hqz1 : v6.heap.size ≤ (v6.setCell ⟨g, 0, none⟩ (.string x1.name)).heap.size ∧ (v6.setCell ⟨g, 0, none⟩ (.string x1.name)).heap.size ≤ v6.heap.size := by simp only [World.size_setCell]; exact ⟨Nat.le_refl _, Nat.le_refl _⟩
            replace hT := Lib.hid (hT.out.set (p := ⟨g, 1, none⟩) (by dsimp only; omega) (.int .i64 x1.kind))
            replace hkR := Lib.hid (hkR.out.far (p := ⟨g, 1, none⟩) (by dsimp only; omega) (.int .i64 x1.kind))
            replace hkN := Lib.hid (hkN.out.far (p := ⟨g, 1, none⟩) (by dsimp only; omega) (.int .i64 x1.kind))
            replace hkL := Lib.hid (hkL.out.far (p := ⟨g, 1, none⟩) (by dsimp only; omega) (.int .i64 x1.kind))
            replace hoI := Lib.hid (OV.store hoI.out 1 (.int .i64 x1.kind))
            have hqz2 : (v6.setCell ⟨g, 0, none⟩ (.string x1.name)).heap.size ≤ ((v6.setCell ⟨g, 0, none⟩ (.string x1.name)).setCell ⟨g, 1, none⟩ (.int .i64 x1.kind)).heap.size ∧ ((v6.setCell ⟨g, 0, none⟩ (.string x1.name)).setCell ⟨g, 1, none⟩ (.int .i64 x1.kind)).heap.size ≤ (v6.setCell ⟨g, 0, none⟩ (.string x1.name)).heap.size := by simp only [World.size_setCell]; exact ⟨Nat.le_refl _, Nat.le_refl _⟩
            replace hT := Lib.hid (hT.out.set (p := ⟨g, 2, none⟩) (by dsimp only; omega) (.int .i64 x1.fr))
            replace hkR := Lib.hid (hkR.out.far (p := ⟨g, 2, none⟩) (by dsimp only; omega) (.int .i64 x1.fr))
            replace hkN := Lib.hid (hkN.out.far (p := ⟨g, 2, none⟩) (by dsimp only; omega) (.int .i64 x1.fr))
            replace hkL := Lib.hid (hkL.out.far (p := ⟨g, 2, none⟩) (by dsimp only; omega) (.int .i64 x1.fr))
            replace hoI := Lib.hid (OV.store hoI.out 2 (.int .i64 x1.fr))
            have hqz3 : ((v6.setCell ⟨g, 0, none⟩ (.string x1.name)).setCell ⟨g, 1, none⟩ (.int .i64 x1.kind)).heap.size ≤ (((v6.setCell ⟨g, 0, none⟩ (.string x1.name)).setCell ⟨g, 1, none⟩ (.int .i64 x1.kind)).setCell ⟨g, 2, none⟩ (.int .i64 x1.fr)).heap.size ∧ (((v6.setCell ⟨g, 0, none⟩ (.string x1.name)).setCell ⟨g, 1, none⟩ (.int .i64 x1.kind)).setCell ⟨g, 2, none⟩ (.int .i64 x1.fr)).heap.size ≤ ((v6.setCell ⟨g, 0, none⟩ (.string x1.name)).setCell ⟨g, 1, none⟩ (.int .i64 x1.kind)).heap.size := by simp only [World.size_setCell]; exact ⟨Nat.le_refl _, Nat.le_refl _⟩
            replace hT := Lib.hid (hT.out.set (p := ⟨g, 3, none⟩) (by dsimp only; omega) (.int .i64 x1.to))
            replace hkR := Lib.hid (hkR.out.far (p := ⟨g, 3, none⟩) (by dsimp only; omega) (.int .i64 x1.to))
            replace hkN := Lib.hid (hkN.out.far (p := ⟨g, 3, none⟩) (by dsimp only; omega) (.int .i64 x1.to))
            replace hkL := Lib.hid (hkL.out.far (p := ⟨g, 3, none⟩) (by dsimp only; omega) (.int .i64 x1.to))
            replace hoI := Lib.hid (OV.store hoI.out 3 (.int .i64 x1.to))
            have hqz4 : (((v6.setCell ⟨g, 0, none⟩ (.string x1.name)).setCell ⟨g, 1, none⟩ (.int .i64 x1.kind)).setCell ⟨g, 2, none⟩ (.int .i64 x1.fr)).heap.size ≤ ((((v6.setCell ⟨g, 0, none⟩ (.string x1.name)).setCell ⟨g, 1, none⟩ (.int .i64 x1.kind)).setCell ⟨g, 2, none⟩ (.int .i64 x1.fr)).setCell ⟨g, 3, none⟩ (.int .i64 x1.to)).heap.size ∧ ((((v6.setCell ⟨g, 0, none⟩ (.string x1.name)).setCell ⟨g, 1, none⟩ (.int .i64 x1.kind)).setCell ⟨g, 2, none⟩ (.int .i64 x1.fr)).setCell ⟨g, 3, none⟩ (.int .i64 x1.to)).heap.size ≤ (((v6.setCell ⟨g, 0, none⟩ (.string x1.name)).setCell ⟨g, 1, none⟩ (.int .i64 x1.kind)).setCell ⟨g, 2, none⟩ (.int .i64 x1.fr)).heap.size := by simp only [World.size_setCell]; exact ⟨Nat.le_refl _, Nat.le_refl _⟩
            have hA := Lib.hid (below_alloc (w := ((((v6.setCell ⟨g, 0, none⟩ (.string x1.name)).setCell ⟨g, 1, none⟩ (.int .i64 x1.kind)).setCell ⟨g, 2, none⟩ (.int .i64 x1.fr)).setCell ⟨g, 3, none⟩ (.int .i64 x1.to))) (.cells #[.string x0.name, .int .i64 x0.kind, .int .i64 x0.fr, .int .i64 x0.to] 63))
            have hkn := Lib.hid (show Bk (((((v6.setCell ⟨g, 0, none⟩ (.string x1.name)).setCell ⟨g, 1, none⟩ (.int .i64 x1.kind)).setCell ⟨g, 2, none⟩ (.int .i64 x1.fr)).setCell ⟨g, 3, none⟩ (.int .i64 x1.to)).alloc (.cells #[.string x0.name, .int .i64 x0.kind, .int .i64 x0.fr, .int .i64 x0.to] 63)) (v6.heap.size) 63 #[.string x0.name, .int .i64 x0.kind, .int .i64 x0.fr, .int .i64 x0.to] from (by first | exact Bk.new _ _ _ | simpa using Bk.new ((((v6.setCell ⟨g, 0, none⟩ (.string x1.name)).setCell ⟨g, 1, none⟩ (.int .i64 x1.kind)).setCell ⟨g, 2, none⟩ (.int .i64 x1.fr)).setCell ⟨g, 3, none⟩ (.int .i64 x1.to)) #[.string x0.name, .int .i64 x0.kind, .int .i64 x0.fr, .int .i64 x0.to] 63))
            replace hT := Lib.hid (hT.out.kept hA.out)
            replace hkR := Lib.hid (hkR.out.kept hA.out)
            replace hkN := Lib.hid (hkN.out.kept hA.out)
            replace hkL := Lib.hid (hkL.out.kept hA.out)
            replace hoI := Lib.hid (hoI.out.kept hA.out)
            have hqX : ((((v6.setCell ⟨g, 0, none⟩ (.string x1.name)).setCell ⟨g, 1, none⟩ (.int .i64 x1.kind)).setCell ⟨g, 2, none⟩ (.int .i64 x1.fr)).setCell ⟨g, 3, none⟩ (.int .i64 x1.to)).heap.size + 1 ≤ (((((v6.setCell ⟨g, 0, none⟩ (.string x1.name)).setCell ⟨g, 1, none⟩ (.int .i64 x1.kind)).setCell ⟨g, 2, none⟩ (.int .i64 x1.fr)).setCell ⟨g, 3, none⟩ (.int .i64 x1.to)).alloc (.cells #[.string x0.name, .int .i64 x0.kind, .int .i64 x0.fr, .int .i64 x0.to] 63)).heap.size ∧ (((((v6.setCell ⟨g, 0, none⟩ (.string x1.name)).setCell ⟨g, 1, none⟩ (.int .i64 x1.kind)).setCell ⟨g, 2, none⟩ (.int .i64 x1.fr)).setCell ⟨g, 3, none⟩ (.int .i64 x1.to)).alloc (.cells #[.string x0.name, .int .i64 x0.kind, .int .i64 x0.fr, .int .i64 x0.to] 63)).heap.size ≤ ((((v6.setCell ⟨g, 0, none⟩ (.string x1.name)).setCell ⟨g, 1, none⟩ (.int .i64 x1.kind)).setCell ⟨g, 2, none⟩ (.int .i64 x1.fr)).setCell ⟨g, 3, none⟩ (.int .i64 x1.to)).heap.size + 1 := by simp
            have hkX := hkn
            clear hkn hA
            have hA := Lib.hid ((Below.refl (((((v6.setCell ⟨g, 0, none⟩ (.string x1.name)).setCell ⟨g, 1, none⟩ (.int .i64 x1.kind)).setCell ⟨g, 2, none⟩ (.int .i64 x1.fr)).setCell ⟨g, 3, none⟩ (.int .i64 x1.to)).alloc (.cells #[.string x0.name, .int .i64 x0.kind, .int .i64 x0.fr, .int .i64 x0.to] 63)).heap.size (((((v6.setCell ⟨g, 0, none⟩ (.string x1.name)).setCell ⟨g, 1, none⟩ (.int .i64 x1.kind)).setCell ⟨g, 2, none⟩ (.int .i64 x1.fr)).setCell ⟨g, 3, none⟩ (.int .i64 x1.to)).alloc (.cells #[.string x0.name, .int .i64 x0.kind, .int .i64 x0.fr, .int .i64 x0.to] 63))).drew)
            replace hT := Lib.hid (hT.out.kept hA.out)
            replace hkR := Lib.hid (hkR.out.kept hA.out)
            replace hkN := Lib.hid (hkN.out.kept hA.out)
            replace hkL := Lib.hid (hkL.out.kept hA.out)
            replace hkX := Lib.hid (hkX.out.kept hA.out)
            replace hoI := Lib.hid (hoI.out.kept hA.out)
            clear hA
            have hqz5 : (((((v6.setCell ⟨g, 0, none⟩ (.string x1.name)).setCell ⟨g, 1, none⟩ (.int .i64 x1.kind)).setCell ⟨g, 2, none⟩ (.int .i64 x1.fr)).setCell ⟨g, 3, none⟩ (.int .i64 x1.to)).alloc (.cells #[.string x0.name, .int .i64 x0.kind, .int .i64 x0.fr, .int .i64 x0.to] 63)).heap.size ≤ (((((v6.setCell ⟨g, 0, none⟩ (.string x1.name)).setCell ⟨g, 1, none⟩ (.int .i64 x1.kind)).setCell ⟨g, 2, none⟩ (.int .i64 x1.fr)).setCell ⟨g, 3, none⟩ (.int .i64 x1.to)).alloc (.cells #[.string x0.name, .int .i64 x0.kind, .int .i64 x0.fr, .int .i64 x0.to] 63)).drew.heap.size ∧ (((((v6.setCell ⟨g, 0, none⟩ (.string x1.name)).setCell ⟨g, 1, none⟩ (.int .i64 x1.kind)).setCell ⟨g, 2, none⟩ (.int .i64 x1.fr)).setCell ⟨g, 3, none⟩ (.int .i64 x1.to)).alloc (.cells #[.string x0.name, .int .i64 x0.kind, .int .i64 x0.fr, .int .i64 x0.to] 63)).drew.heap.size ≤ (((((v6.setCell ⟨g, 0, none⟩ (.string x1.name)).setCell ⟨g, 1, none⟩ (.int .i64 x1.kind)).setCell ⟨g, 2, none⟩ (.int .i64 x1.fr)).setCell ⟨g, 3, none⟩ (.int .i64 x1.to)).alloc (.cells #[.string x0.name, .int .i64 x0.kind, .int .i64 x0.fr, .int .i64 x0.to] 63)).heap.size := by simp only [World.size_drew]; exact ⟨Nat.le_refl _, Nat.le_refl _⟩
            generalize (((((v6.setCell ⟨g, 0, none⟩ (.string x1.name)).setCell ⟨g, 1, none⟩ (.int .i64 x1.kind)).setCell ⟨g, 2, none⟩ (.int .i64 x1.fr)).setCell ⟨g, 3, none⟩ (.int .i64 x1.to)).alloc (.cells #[.string x0.name, .int .i64 x0.kind, .int .i64 x0.fr, .int .i64 x0.to] 63)).drew = v7 at *
            have hzv7 := hT.out.size
            have hlX : v6.heap.size < v7.heap.size := hkX.out.lt
            replace hoI := Lib.hid (show OV _ _ v7 63 4 (some ⟨g, 0, none⟩) m c3 (itemsV (xs.set 0 x1)) by
              have e := items_put hx0 x1
              simp only [Nat.zero_mul, Nat.zero_add] at e
              rw [← e]; exact hoI.out)
            have hx1b : (xs.set 0 x1)[1]? = some x1 := by rw [List.getElem?_set_ne (by decide)]; exact hx1
            obtain ⟨⟨i4_, i5_, i6_, i7_⟩, hfg⟩ := row_item (a := none) hoI.out hx1b
            simp only [Nat.one_mul] at i4_ i5_ i6_ i7_
            have f4_ := hfg 4
            have f5_ := hfg (4 + 1)
            have f6_ := hfg (4 + 2)
            have f7_ := hfg (4 + 3)
            obtain ⟨cL_0, cL_1, fL_0, fL_1⟩ := hkL.out.two
            obtain ⟨cR_0, cR_1, fR_0, fR_1⟩ := hkR.out.two
            obtain ⟨⟨cX_0, cX_1, cX_2, cX_3⟩, fX_0, fX_1, fX_2, fX_3⟩ := hkX.out.four
            go_wp2_with fail
            refine bodyPost_ret (v := .agg #[.int .i64 (1 + r), .slice (some ⟨g, 0, none⟩) m c3]) (by simp [results, Tryz.results49, go_sem, *]) rfl ⟨_, (some ⟨g, 0, none⟩), c3, ((xs.set 0 x1).set 1 x0), by rw [List.length_set, List.length_set, hxm.out], ⟨by omega, by omega, by rw [List.length_set, List.length_set, hxm.out]; omega, ?_⟩, ?_, ?_, ?_⟩
            · exact all_set (all_set hP.out (hP.out _ (List.mem_of_getElem? hx1))) (hP.out _ (List.mem_of_getElem? hx0))
            · have h8 := OV.store (OV.store (OV.store (OV.store hoI.out 4 (.string x0.name)) 5 (.int .i64 x0.kind)) 6 (.int .i64 x0.fr)) 7 (.int .i64 x0.to)
              have e := items_put hx1b x0
              simp only [Nat.one_mul, Nat.reduceAdd] at e
              rw [e] at h8
              have h9 := (OV.setBelow (OV.setBelow h8 (p := ⟨w.heap.size, 0, none⟩) (by dsimp only; omega) (.int .i64 (1 + r))) (p := ⟨w.heap.size, 1, none⟩) (by dsimp only; omega) (.slice (some ⟨g, 0, none⟩) m c3)).wider (show w.heap.size ≤ _ by omega) (show _ ≤ v7.heap.size by omega)
              unfold OT; rw [List.length_set, List.length_set, hxm.out]; simpa using h9
            · exact ((((((hT.out.set (p := ⟨g, 4, none⟩) (by dsimp only; omega) _).set (p := ⟨g, 5, none⟩) (by dsimp only; omega) _).set (p := ⟨g, 6, none⟩) (by dsimp only; omega) _).set (p := ⟨g, 7, none⟩) (by dsimp only; omega) _).set (p := ⟨w.heap.size, 0, none⟩) (Nat.le_refl _) _).set (p := ⟨w.heap.size, 1, none⟩) (Nat.le_refl _) _).src.more (by omega)
            · exact ((((((hT.out.set (p := ⟨g, 4, none⟩) (by dsimp only; omega) _).set (p := ⟨g, 5, none⟩) (by dsimp only; omega) _).set (p := ⟨g, 6, none⟩) (by dsimp only; omega) _).set (p := ⟨g, 7, none⟩) (by dsimp only; omega) _).set (p := ⟨w.heap.size, 0, none⟩) (Nat.le_refl _) _).set (p := ⟨w.heap.size, 1, none⟩) (Nat.le_refl _) _).win
        · have hd : decide ((1 : Int) < (m : Int)) = false := decide_eq_false (by omega)
          have hd2 : decide (1 < m) = false := decide_eq_false h2
          obtain ⟨cL_0, cL_1, fL_0, fL_1⟩ := hkL.out.two
          obtain ⟨cR_0, cR_1, fR_0, fR_1⟩ := hkR.out.two
          go_wp2_with fail
          refine bodyPost_ret (v := .agg #[.int .i64 (1 + r), .slice a3 m c3]) (by simp [results, Tryz.results49, go_sem, *]) rfl ⟨_, a3, c3, xs, by rw [hxm.out], ⟨by omega, by omega, by rw [hxm.out]; omega, ?_⟩, ?_, ?_, ?_⟩
          · exact hP.out
          · have h9 := (OV.setBelow (OV.setBelow hoI.out (p := ⟨w.heap.size, 0, none⟩) (by dsimp only; omega) (.int .i64 (1 + r))) (p := ⟨w.heap.size, 1, none⟩) (by dsimp only; omega) (.slice a3 m c3)).wider (show w.heap.size ≤ _ by omega) (show _ ≤ v5.heap.size by omega)
            unfold OT; rw [hxm.out]; simpa using h9
          · exact (((hT.out.set (p := ⟨w.heap.size, 0, none⟩) (Nat.le_refl _) _).set (p := ⟨w.heap.size, 1, none⟩) (Nat.le_refl _) _).src).more (by omega)
          · exact ((hT.out.set (p := ⟨w.heap.size, 0, none⟩) (Nat.le_refl _) _).set (p := ⟨w.heap.size, 1, none⟩) (Nat.le_refl _) _).win
      · have hgd : decide ((1 : Int) + r < (A : Int) + 1 + (q4 : Int)) = false := decide_eq_false hgt
        obtain ⟨cL_0, cL_1, fL_0, fL_1⟩ := hkL.out.two
        have n5 := hkN.out.cell k hnm
        have hne5 : ¬ w.heap.size + 1 = B := by omega
        go_wp2_with fail
        first | go_region_held3 (fun V => Within B (B + 1) v5 V ∧ V.cell? ⟨w.heap.size + 1, k, none⟩ = some (.string nm)) (first | assumption | exact heldS (Within.of_below (below_drewN (Below.refl _ _) 1)) n5 hne5 | (rename Within B (B + 1) v5 _ ∧ _ => hH; refine heldS (hH.1.trans ?_) n5 hne5; assumption) | (rename Within B (B + 1) v5 _ ∧ _ => hH; exact heldS (hH.1.trans (Within.of_below (below_alloc _))) n5 hne5) | exact heldS ((Within.of_below (Below.refl _ _).drew).trans (hwq0.trans (Within.of_below (below_alloc _)))) n5 hne5 | (rename Within B (B + 1) v5 _ ∧ _ => hH; exact heldS ((((hH.1.setNew (by dsimp only; omega) _).setNew (by dsimp only; omega) _).setNew (by dsimp only; omega) _).setNew (by dsimp only; omega) _) n5 hne5)) (first | (go_at_call 56; ((with_reducible refine (spec_pick B a c l _ 2 _ (hT.out.src.kept (Below.refl _ _).drew) (by omega) hl (by omega) (by omega)).mono ?_); rintro e wq0 ⟨r5, rfl, ⟨r50, r51, _⟩, hsq0, hwq0⟩; replace r51 := r51 (by omega); have hwr := (IntWalk.i64_in (1 + r5) (by omega) : IntKind.i64.wrap (1 + r5) = 1 + r5))) | (go_at_call 56; ((with_reducible refine (spec_pick B a c l _ 2 _ (hT.out.src.kept (bthen (below_alloc _) (Below.refl _ _).drew)) (by omega) hl (by omega) (by omega)).mono ?_); rintro e wq9 ⟨r5, rfl, ⟨r50, r51, _⟩, hsq9, hwq9⟩; replace r51 := r51 (by omega); have hwr := (IntWalk.i64_in (1 + r5) (by omega) : IntKind.i64.wrap (1 + r5) = 1 + r5); have hX9 := Lib.hid (((Bk.new v5 #[.string ⟨#[]⟩, .int .i64 0, .int .i64 0, .int .i64 0] 63).kept (Below.refl _ _).drew).within hwq9 (by omega)); obtain ⟨⟨y0, y1, y2, y3⟩, y4, y5, y6, y7⟩ := hX9.out.four))) | fail
        all_goals clear cL_0 cL_1 fL_0 fL_1
        · replace hT := Lib.hid ((hT.out.kept (Below.refl _ _).drew).step hsq0 hwq0)
          replace hkR := Lib.hid ((hkR.out.kept (Below.refl _ _).drew).within hwq0 (by omega))
          replace hkN := Lib.hid ((hkN.out.kept (Below.refl _ _).drew).within hwq0 (by omega))
          replace hkL := Lib.hid ((hkL.out.kept (Below.refl _ _).drew).within hwq0 (by omega))
          replace hoI := Lib.hid ((hoI.out.kept (Below.refl _ _).drew).within hwq0 (by omega))
          have hmq := hwq0.size
          simp only [World.size_drew] at hmq
          have hzq := hT.out.size
          clear hwq0 hsq0
          have hltRwq0 := hkR.out.lt
          have hltNwq0 := hkN.out.lt
          have hltLwq0 := hkL.out.lt
          have hA := Lib.hid (below_alloc (w := wq0) (.cells #[.string nm, .int .i64 (1 + r5), .int .i64 (A : Int), .int .i64 ((A : Int) + 1 + (q4 : Int))] 63))
          have hkn := Lib.hid (show Bk (wq0.alloc (.cells #[.string nm, .int .i64 (1 + r5), .int .i64 (A : Int), .int .i64 ((A : Int) + 1 + (q4 : Int))] 63)) (wq0.heap.size) 63 #[.string nm, .int .i64 (1 + r5), .int .i64 (A : Int), .int .i64 ((A : Int) + 1 + (q4 : Int))] from (by first | exact Bk.new _ _ _ | simpa using Bk.new wq0 #[.string nm, .int .i64 (1 + r5), .int .i64 (A : Int), .int .i64 ((A : Int) + 1 + (q4 : Int))] 63))
          replace hT := Lib.hid (hT.out.kept hA.out)
          replace hkR := Lib.hid (hkR.out.kept hA.out)
          replace hkN := Lib.hid (hkN.out.kept hA.out)
          replace hkL := Lib.hid (hkL.out.kept hA.out)
          replace hoI := Lib.hid (hoI.out.kept hA.out)
          have hqX : wq0.heap.size + 1 ≤ (wq0.alloc (.cells #[.string nm, .int .i64 (1 + r5), .int .i64 (A : Int), .int .i64 ((A : Int) + 1 + (q4 : Int))] 63)).heap.size ∧ (wq0.alloc (.cells #[.string nm, .int .i64 (1 + r5), .int .i64 (A : Int), .int .i64 ((A : Int) + 1 + (q4 : Int))] 63)).heap.size ≤ wq0.heap.size + 1 := by simp
          have hkX := hkn
          clear hkn hA
          generalize (wq0.alloc (.cells #[.string nm, .int .i64 (1 + r5), .int .i64 (A : Int), .int .i64 ((A : Int) + 1 + (q4 : Int))] 63)) = v6 at *
          have hzv6 := hT.out.size
          have hnews := Lib.hid (show Row (v6.alloc (.cells #[.string nm, .int .i64 (1 + r5), .int .i64 (A : Int), .int .i64 ((A : Int) + 1 + (q4 : Int))] 63)) (some ⟨v6.heap.size, 0, none⟩) ((⟨nm, 1 + r5, (A : Int), (A : Int) + 1 + (q4 : Int)⟩ : Itm)).cells from row_block (heap_alloc_new v6 (.cells #[.string nm, .int .i64 (1 + r5), .int .i64 (A : Int), .int .i64 ((A : Int) + 1 + (q4 : Int))] 63)))
          have hneL := Lib.hid (hoI.out.ne_block hkL.out (by decide))
          have hLlt : v2.heap.size + 1 < v6.heap.size := hkL.out.lt
          have hLO : v2.heap.size ≤ v6.heap.size := by omega
          obtain ⟨cL_0, cL_1, fL_0, fL_1⟩ := hkL.out.two
          obtain ⟨⟨cX_0, cX_1, cX_2, cX_3⟩, fX_0, fX_1, fX_2, fX_3⟩ := hkX.out.four
          go_wp2_with (at_builtin; refine wpList_append_own _ rfl _ _ 24 rfl (v2.heap.size) 63 i0 _ 4 40 Tryz.underlying24 hi hz0 hz1 hz2 rfl (by decide) _ m (itemsV xs) rfl (hoI.out.1.alloc _) ⟨v6.heap.size, 0, none⟩ 1 1 ((⟨nm, 1 + r5, (A : Int), (A : Int) + 1 + (q4 : Int)⟩ : Itm)).cells rfl rfl (Row.add hnews.out) (item_one _) hm63.out (by omega) (by simp only [World.size_alloc]; omega) ?_; intro v5_ w5 hown5 hg5 _; have hb5 := (((Below.refl (v2.heap.size) _).alloc hLO _).grown hg5 (by simp only [World.size_alloc]; omega) (fun k hk => (hoI.out.1.lt k hk).1)); replace hT := Lib.hid (hT.out.below (hb5.mono (by omega))); replace hkL := Lib.hid (show Bk w5 _ _ _ from blk_far ((heap_alloc_old _ _ hLlt).trans hkL.out) hg5 (own_ne hneL.out)); replace hkR := Lib.hid (hkR.out.below hb5 (by omega)); replace hkN := Lib.hid (hkN.out.below hb5 (by omega)); have hsz5 := hb5.size; obtain ⟨a5, c5, hv5, _, _⟩ := own_slice hown5; subst hv5; replace hoI := Lib.hid (OV.of hown5); clear hown5 hg5 hb5 hkX cL_0 cL_1 fL_0 fL_1 cX_0 cX_1 cX_2 cX_3 fX_0 fX_1 fX_2 fX_3; obtain ⟨cL_0, cL_1, fL_0, fL_1⟩ := hkL.out.two)
          clear cL_0 cL_1 fL_0 fL_1 hnews hneL
          replace hoI := Lib.hid (OV.far hoI.out hkL.out (by decide) 1 (.slice a5 (m + 1) c5))
          replace hT := Lib.hid (hT.out.set (p := ⟨v2.heap.size + 1, 1, none⟩) (by dsimp only; omega) (.slice a5 (m + 1) c5))
          replace hkR := Lib.hid (hkR.out.far (p := ⟨v2.heap.size + 1, 1, none⟩) (by dsimp only; omega) (.slice a5 (m + 1) c5))
          replace hkN := Lib.hid (hkN.out.far (p := ⟨v2.heap.size + 1, 1, none⟩) (by dsimp only; omega) (.slice a5 (m + 1) c5))
          replace hkL := Lib.hid (show Bk (w5.setCell ⟨v2.heap.size + 1, 1, none⟩ (.slice a5 (m + 1) c5)) (v2.heap.size + 1) 26 #[.int .i64 (1 + r), .slice a5 (m + 1) c5] from hkL.out.set 1 (.slice a5 (m + 1) c5))
          have hqz1 : w5.heap.size ≤ (w5.setCell ⟨v2.heap.size + 1, 1, none⟩ (.slice a5 (m + 1) c5)).heap.size ∧ (w5.setCell ⟨v2.heap.size + 1, 1, none⟩ (.slice a5 (m + 1) c5)).heap.size ≤ w5.heap.size := by simp only [World.size_setCell]; exact ⟨Nat.le_refl _, Nat.le_refl _⟩
          generalize (w5.setCell ⟨v2.heap.size + 1, 1, none⟩ (.slice a5 (m + 1) c5)) = v7 at *
          have hzv7 := hT.out.size
          refine (spec_pick B a c l _ (3) v7 hT.out.src (by omega) hl (by omega) (by omega)).mono ?_
          rintro e v8 ⟨r6, rfl, ⟨r60, r61, r62⟩, hs, hw⟩
          have hmv8 := hw.size
          replace hT := Lib.hid (hT.out.step hs hw)
          replace hkR := Lib.hid (hkR.out.within hw (by omega))
          replace hkN := Lib.hid (hkN.out.within hw (by omega))
          replace hkL := Lib.hid (hkL.out.within hw (by omega))
          replace hoI := Lib.hid (hoI.out.within hw (by omega))
          have hzv8 := hT.out.size
          have hltRv8 := hkR.out.lt
          have hltNv8 := hkN.out.lt
          have hltLv8 := hkL.out.lt
          clear hs hw
          replace r61 := r61 (by omega)
          clear r62
          have h3 : r6 = 0 ∨ r6 = 1 ∨ r6 = 2 := by omega
          rcases h3 with rfl | rfl | rfl
          · go_wp2_with fail
            go_roundw
            case rel => exact ⟨k + 1, A + 1 + q4, m + 1, xs ++ [(⟨nm, 1 + r5, (A : Int), (A : Int) + 1 + (q4 : Int)⟩ : Itm)], a5, c5, by omega, by go_num, by first | rfl | go_num | (congr 1; omega), by omega, by omega, Lib.hid (by rw [List.length_append, hxm.out]; rfl), all_snoc hP.out ⟨hnsz, (by show (1 + r5 = 1 ∨ 1 + r5 = 2); omega), (by show (0 : Int) ≤ (A : Int); omega), (by show (A : Int) < (A : Int) + 1 + (q4 : Int); omega), (by show (A : Int) + 1 + (q4 : Int) ≤ 1 + r; omega)⟩, by (rw [itemsV_append, itemsV_one]; exact hoI.out.wider (Nat.le_refl _) (by omega)), hkL.out, hkR.out, hkN.out, hT.out.more (by omega), by omega⟩
            case measure => simp [intOf]; omega
          · go_wp2_with fail
            go_roundw
            case rel => exact ⟨k + 1, A + 1 + q4, m + 1, xs ++ [(⟨nm, 1 + r5, (A : Int), (A : Int) + 1 + (q4 : Int)⟩ : Itm)], a5, c5, by omega, by go_num, by first | rfl | go_num | (congr 1; omega), by omega, by omega, Lib.hid (by rw [List.length_append, hxm.out]; rfl), all_snoc hP.out ⟨hnsz, (by show (1 + r5 = 1 ∨ 1 + r5 = 2); omega), (by show (0 : Int) ≤ (A : Int); omega), (by show (A : Int) < (A : Int) + 1 + (q4 : Int); omega), (by show (A : Int) + 1 + (q4 : Int) ≤ 1 + r; omega)⟩, by (rw [itemsV_append, itemsV_one]; exact hoI.out.wider (Nat.le_refl _) (by omega)), hkL.out, hkR.out, hkN.out, hT.out.more (by omega), by omega⟩
            case measure => simp [intOf]; omega
          · go_wp2_with fail
            go_roundw
            case rel => exact ⟨k + 1, A + 1 + q4 + 1, m + 1, xs ++ [(⟨nm, 1 + r5, (A : Int), (A : Int) + 1 + (q4 : Int)⟩ : Itm)], a5, c5, by omega, by go_num, by first | rfl | go_num | (congr 1; omega), by omega, by omega, Lib.hid (by rw [List.length_append, hxm.out]; rfl), all_snoc hP.out ⟨hnsz, (by show (1 + r5 = 1 ∨ 1 + r5 = 2); omega), (by show (0 : Int) ≤ (A : Int); omega), (by show (A : Int) < (A : Int) + 1 + (q4 : Int); omega), (by show (A : Int) + 1 + (q4 : Int) ≤ 1 + r; omega)⟩, by (rw [itemsV_append, itemsV_one]; exact hoI.out.wider (Nat.le_refl _) (by omega)), hkL.out, hkR.out, hkN.out, hT.out.more (by omega), by omega⟩
            case measure => simp [intOf]; omega
        · clear y0 y1 y2 y3 y4 y5 y6 y7
          have hA := Lib.hid (below_alloc (w := v5) (.cells #[.string ⟨#[]⟩, .int .i64 0, .int .i64 0, .int .i64 0] 63))
          have hkn := Lib.hid (show Bk (v5.alloc (.cells #[.string ⟨#[]⟩, .int .i64 0, .int .i64 0, .int .i64 0] 63)) (v5.heap.size) 63 #[.string ⟨#[]⟩, .int .i64 0, .int .i64 0, .int .i64 0] from (by first | exact Bk.new _ _ _ | simpa using Bk.new v5 #[.string ⟨#[]⟩, .int .i64 0, .int .i64 0, .int .i64 0] 63))
          replace hT := Lib.hid (hT.out.kept hA.out)
          replace hkR := Lib.hid (hkR.out.kept hA.out)
          replace hkN := Lib.hid (hkN.out.kept hA.out)
          replace hkL := Lib.hid (hkL.out.kept hA.out)
          replace hoI := Lib.hid (hoI.out.kept hA.out)
          have hqX : v5.heap.size + 1 ≤ (v5.alloc (.cells #[.string ⟨#[]⟩, .int .i64 0, .int .i64 0, .int .i64 0] 63)).heap.size ∧ (v5.alloc (.cells #[.string ⟨#[]⟩, .int .i64 0, .int .i64 0, .int .i64 0] 63)).heap.size ≤ v5.heap.size + 1 := by simp
          have hkX := hkn
          clear hkn hA
          have hA := Lib.hid ((Below.refl (v5.alloc (.cells #[.string ⟨#[]⟩, .int .i64 0, .int .i64 0, .int .i64 0] 63)).heap.size (v5.alloc (.cells #[.string ⟨#[]⟩, .int .i64 0, .int .i64 0, .int .i64 0] 63))).drew)
          replace hT := Lib.hid (hT.out.kept hA.out)
          replace hkR := Lib.hid (hkR.out.kept hA.out)
          replace hkN := Lib.hid (hkN.out.kept hA.out)
          replace hkL := Lib.hid (hkL.out.kept hA.out)
          replace hkX := Lib.hid (hkX.out.kept hA.out)
          replace hoI := Lib.hid (hoI.out.kept hA.out)
          clear hA
          have hqz1 : (v5.alloc (.cells #[.string ⟨#[]⟩, .int .i64 0, .int .i64 0, .int .i64 0] 63)).heap.size ≤ (v5.alloc (.cells #[.string ⟨#[]⟩, .int .i64 0, .int .i64 0, .int .i64 0] 63)).drew.heap.size ∧ (v5.alloc (.cells #[.string ⟨#[]⟩, .int .i64 0, .int .i64 0, .int .i64 0] 63)).drew.heap.size ≤ (v5.alloc (.cells #[.string ⟨#[]⟩, .int .i64 0, .int .i64 0, .int .i64 0] 63)).heap.size := by simp only [World.size_drew]; exact ⟨Nat.le_refl _, Nat.le_refl _⟩
          have hmq := hwq9.size
          simp only [World.size_drew, World.size_alloc] at hmq
          replace hT := Lib.hid (hT.out.step hsq9 hwq9)
          replace hkR := Lib.hid (hkR.out.within hwq9 (by omega))
          replace hkN := Lib.hid (hkN.out.within hwq9 (by omega))
          replace hkL := Lib.hid (hkL.out.within hwq9 (by omega))
          replace hkX := Lib.hid (hkX.out.within hwq9 (by omega))
          replace hoI := Lib.hid (hoI.out.within hwq9 (by omega))
          have hzq := hT.out.size
          clear hwq9 hsq9 hX9
          have hltRwq9 := hkR.out.lt
          have hltNwq9 := hkN.out.lt
          have hltLwq9 := hkL.out.lt
          have hltXwq9 := hkX.out.lt
          replace hoI := Lib.hid (hoI.out.below (M := v5.heap.size) ((Below.refl _ _).setCell (p := ⟨v5.heap.size, 0, none⟩) (Nat.le_refl _) (.string nm)) (by omega))
          replace hT := Lib.hid (hT.out.set (p := ⟨v5.heap.size, 0, none⟩) (by dsimp only; omega) (.string nm))
          replace hkR := Lib.hid (hkR.out.far (p := ⟨v5.heap.size, 0, none⟩) (by dsimp only; omega) (.string nm))
          replace hkN := Lib.hid (hkN.out.far (p := ⟨v5.heap.size, 0, none⟩) (by dsimp only; omega) (.string nm))
          replace hkL := Lib.hid (hkL.out.far (p := ⟨v5.heap.size, 0, none⟩) (by dsimp only; omega) (.string nm))
          replace hkX := Lib.hid (show Bk (wq9.setCell ⟨v5.heap.size, 0, none⟩ (.string nm)) (v5.heap.size) 63 #[.string nm, .int .i64 0, .int .i64 0, .int .i64 0] from hkX.out.set 0 (.string nm))
          have hqz2 : wq9.heap.size ≤ (wq9.setCell ⟨v5.heap.size, 0, none⟩ (.string nm)).heap.size ∧ (wq9.setCell ⟨v5.heap.size, 0, none⟩ (.string nm)).heap.size ≤ wq9.heap.size := by simp only [World.size_setCell]; exact ⟨Nat.le_refl _, Nat.le_refl _⟩
          replace hoI := Lib.hid (hoI.out.below (M := v5.heap.size) ((Below.refl _ _).setCell (p := ⟨v5.heap.size, 1, none⟩) (Nat.le_refl _) (.int .i64 (1 + r5))) (by omega))
          replace hT := Lib.hid (hT.out.set (p := ⟨v5.heap.size, 1, none⟩) (by dsimp only; omega) (.int .i64 (1 + r5)))
          replace hkR := Lib.hid (hkR.out.far (p := ⟨v5.heap.size, 1, none⟩) (by dsimp only; omega) (.int .i64 (1 + r5)))
          replace hkN := Lib.hid (hkN.out.far (p := ⟨v5.heap.size, 1, none⟩) (by dsimp only; omega) (.int .i64 (1 + r5)))
          replace hkL := Lib.hid (hkL.out.far (p := ⟨v5.heap.size, 1, none⟩) (by dsimp only; omega) (.int .i64 (1 + r5)))
          replace hkX := Lib.hid (show Bk ((wq9.setCell ⟨v5.heap.size, 0, none⟩ (.string nm)).setCell ⟨v5.heap.size, 1, none⟩ (.int .i64 (1 + r5))) (v5.heap.size) 63 #[.string nm, .int .i64 (1 + r5), .int .i64 0, .int .i64 0] from hkX.out.set 1 (.int .i64 (1 + r5)))
          have hqz3 : (wq9.setCell ⟨v5.heap.size, 0, none⟩ (.string nm)).heap.size ≤ ((wq9.setCell ⟨v5.heap.size, 0, none⟩ (.string nm)).setCell ⟨v5.heap.size, 1, none⟩ (.int .i64 (1 + r5))).heap.size ∧ ((wq9.setCell ⟨v5.heap.size, 0, none⟩ (.string nm)).setCell ⟨v5.heap.size, 1, none⟩ (.int .i64 (1 + r5))).heap.size ≤ (wq9.setCell ⟨v5.heap.size, 0, none⟩ (.string nm)).heap.size := by simp only [World.size_setCell]; exact ⟨Nat.le_refl _, Nat.le_refl _⟩
          replace hoI := Lib.hid (hoI.out.below (M := v5.heap.size) ((Below.refl _ _).setCell (p := ⟨v5.heap.size, 2, none⟩) (Nat.le_refl _) (.int .i64 (A : Int))) (by omega))
          replace hT := Lib.hid (hT.out.set (p := ⟨v5.heap.size, 2, none⟩) (by dsimp only; omega) (.int .i64 (A : Int)))
          replace hkR := Lib.hid (hkR.out.far (p := ⟨v5.heap.size, 2, none⟩) (by dsimp only; omega) (.int .i64 (A : Int)))
          replace hkN := Lib.hid (hkN.out.far (p := ⟨v5.heap.size, 2, none⟩) (by dsimp only; omega) (.int .i64 (A : Int)))
          replace hkL := Lib.hid (hkL.out.far (p := ⟨v5.heap.size, 2, none⟩) (by dsimp only; omega) (.int .i64 (A : Int)))
          replace hkX := Lib.hid (show Bk (((wq9.setCell ⟨v5.heap.size, 0, none⟩ (.string nm)).setCell ⟨v5.heap.size, 1, none⟩ (.int .i64 (1 + r5))).setCell ⟨v5.heap.size, 2, none⟩ (.int .i64 (A : Int))) (v5.heap.size) 63 #[.string nm, .int .i64 (1 + r5), .int .i64 (A : Int), .int .i64 0] from hkX.out.set 2 (.int .i64 (A : Int)))
          have hqz4 : ((wq9.setCell ⟨v5.heap.size, 0, none⟩ (.string nm)).setCell ⟨v5.heap.size, 1, none⟩ (.int .i64 (1 + r5))).heap.size ≤ (((wq9.setCell ⟨v5.heap.size, 0, none⟩ (.string nm)).setCell ⟨v5.heap.size, 1, none⟩ (.int .i64 (1 + r5))).setCell ⟨v5.heap.size, 2, none⟩ (.int .i64 (A : Int))).heap.size ∧ (((wq9.setCell ⟨v5.heap.size, 0, none⟩ (.string nm)).setCell ⟨v5.heap.size, 1, none⟩ (.int .i64 (1 + r5))).setCell ⟨v5.heap.size, 2, none⟩ (.int .i64 (A : Int))).heap.size ≤ ((wq9.setCell ⟨v5.heap.size, 0, none⟩ (.string nm)).setCell ⟨v5.heap.size, 1, none⟩ (.int .i64 (1 + r5))).heap.size := by simp only [World.size_setCell]; exact ⟨Nat.le_refl _, Nat.le_refl _⟩
          replace hoI := Lib.hid (hoI.out.below (M := v5.heap.size) ((Below.refl _ _).setCell (p := ⟨v5.heap.size, 3, none⟩) (Nat.le_refl _) (.int .i64 ((A : Int) + 1 + (q4 : Int)))) (by omega))
          replace hT := Lib.hid (hT.out.set (p := ⟨v5.heap.size, 3, none⟩) (by dsimp only; omega) (.int .i64 ((A : Int) + 1 + (q4 : Int))))
          replace hkR := Lib.hid (hkR.out.far (p := ⟨v5.heap.size, 3, none⟩) (by dsimp only; omega) (.int .i64 ((A : Int) + 1 + (q4 : Int))))
          replace hkN := Lib.hid (hkN.out.far (p := ⟨v5.heap.size, 3, none⟩) (by dsimp only; omega) (.int .i64 ((A : Int) + 1 + (q4 : Int))))
          replace hkL := Lib.hid (hkL.out.far (p := ⟨v5.heap.size, 3, none⟩) (by dsimp only; omega) (.int .i64 ((A : Int) + 1 + (q4 : Int))))
          replace hkX := Lib.hid (show Bk ((((wq9.setCell ⟨v5.heap.size, 0, none⟩ (.string nm)).setCell ⟨v5.heap.size, 1, none⟩ (.int .i64 (1 + r5))).setCell ⟨v5.heap.size, 2, none⟩ (.int .i64 (A : Int))).setCell ⟨v5.heap.size, 3, none⟩ (.int .i64 ((A : Int) + 1 + (q4 : Int)))) (v5.heap.size) 63 #[.string nm, .int .i64 (1 + r5), .int .i64 (A : Int), .int .i64 ((A : Int) + 1 + (q4 : Int))] from hkX.out.set 3 (.int .i64 ((A : Int) + 1 + (q4 : Int))))
          have hqz5 : (((wq9.setCell ⟨v5.heap.size, 0, none⟩ (.string nm)).setCell ⟨v5.heap.size, 1, none⟩ (.int .i64 (1 + r5))).setCell ⟨v5.heap.size, 2, none⟩ (.int .i64 (A : Int))).heap.size ≤ ((((wq9.setCell ⟨v5.heap.size, 0, none⟩ (.string nm)).setCell ⟨v5.heap.size, 1, none⟩ (.int .i64 (1 + r5))).setCell ⟨v5.heap.size, 2, none⟩ (.int .i64 (A : Int))).setCell ⟨v5.heap.size, 3, none⟩ (.int .i64 ((A : Int) + 1 + (q4 : Int)))).heap.size ∧ ((((wq9.setCell ⟨v5.heap.size, 0, none⟩ (.string nm)).setCell ⟨v5.heap.size, 1, none⟩ (.int .i64 (1 + r5))).setCell ⟨v5.heap.size, 2, none⟩ (.int .i64 (A : Int))).setCell ⟨v5.heap.size, 3, none⟩ (.int .i64 ((A : Int) + 1 + (q4 : Int)))).heap.size ≤ (((wq9.setCell ⟨v5.heap.size, 0, none⟩ (.string nm)).setCell ⟨v5.heap.size, 1, none⟩ (.int .i64 (1 + r5))).setCell ⟨v5.heap.size, 2, none⟩ (.int .i64 (A : Int))).heap.size := by simp only [World.size_setCell]; exact ⟨Nat.le_refl _, Nat.le_refl _⟩
          generalize ((((wq9.setCell ⟨v5.heap.size, 0, none⟩ (.string nm)).setCell ⟨v5.heap.size, 1, none⟩ (.int .i64 (1 + r5))).setCell ⟨v5.heap.size, 2, none⟩ (.int .i64 (A : Int))).setCell ⟨v5.heap.size, 3, none⟩ (.int .i64 ((A : Int) + 1 + (q4 : Int)))) = v6 at *
          have hzv6 := hT.out.size
          have hnews := Lib.hid (show Row (v6.alloc (.cells #[.string nm, .int .i64 (1 + r5), .int .i64 (A : Int), .int .i64 ((A : Int) + 1 + (q4 : Int))] 63)) (some ⟨v6.heap.size, 0, none⟩) ((⟨nm, 1 + r5, (A : Int), (A : Int) + 1 + (q4 : Int)⟩ : Itm)).cells from row_block (heap_alloc_new v6 (.cells #[.string nm, .int .i64 (1 + r5), .int .i64 (A : Int), .int .i64 ((A : Int) + 1 + (q4 : Int))] 63)))
          have hneL := Lib.hid (hoI.out.ne_block hkL.out (by decide))
          have hLlt : v2.heap.size + 1 < v6.heap.size := hkL.out.lt
          have hLO : v2.heap.size ≤ v6.heap.size := by omega
          obtain ⟨cL_0, cL_1, fL_0, fL_1⟩ := hkL.out.two
          obtain ⟨⟨cX_0, cX_1, cX_2, cX_3⟩, fX_0, fX_1, fX_2, fX_3⟩ := hkX.out.four
          go_wp2_with (at_builtin; refine wpList_append_own _ rfl _ _ 24 rfl (v2.heap.size) 63 i0 _ 4 40 Tryz.underlying24 hi hz0 hz1 hz2 rfl (by decide) _ m (itemsV xs) rfl (hoI.out.1.alloc _) ⟨v6.heap.size, 0, none⟩ 1 1 ((⟨nm, 1 + r5, (A : Int), (A : Int) + 1 + (q4 : Int)⟩ : Itm)).cells rfl rfl (Row.add hnews.out) (item_one _) hm63.out (by omega) (by simp only [World.size_alloc]; omega) ?_; intro v5_ w5 hown5 hg5 _; have hb5 := (((Below.refl (v2.heap.size) _).alloc hLO _).grown hg5 (by simp only [World.size_alloc]; omega) (fun k hk => (hoI.out.1.lt k hk).1)); replace hT := Lib.hid (hT.out.below (hb5.mono (by omega))); replace hkL := Lib.hid (show Bk w5 _ _ _ from blk_far ((heap_alloc_old _ _ hLlt).trans hkL.out) hg5 (own_ne hneL.out)); replace hkR := Lib.hid (hkR.out.below hb5 (by omega)); replace hkN := Lib.hid (hkN.out.below hb5 (by omega)); have hsz5 := hb5.size; obtain ⟨a5, c5, hv5, _, _⟩ := own_slice hown5; subst hv5; replace hoI := Lib.hid (OV.of hown5); clear hown5 hg5 hb5 hkX cL_0 cL_1 fL_0 fL_1 cX_0 cX_1 cX_2 cX_3 fX_0 fX_1 fX_2 fX_3; obtain ⟨cL_0, cL_1, fL_0, fL_1⟩ := hkL.out.two)
          clear cL_0 cL_1 fL_0 fL_1 hnews hneL
          replace hoI := Lib.hid (OV.far hoI.out hkL.out (by decide) 1 (.slice a5 (m + 1) c5))
          replace hT := Lib.hid (hT.out.set (p := ⟨v2.heap.size + 1, 1, none⟩) (by dsimp only; omega) (.slice a5 (m + 1) c5))
          replace hkR := Lib.hid (hkR.out.far (p := ⟨v2.heap.size + 1, 1, none⟩) (by dsimp only; omega) (.slice a5 (m + 1) c5))
          replace hkN := Lib.hid (hkN.out.far (p := ⟨v2.heap.size + 1, 1, none⟩) (by dsimp only; omega) (.slice a5 (m + 1) c5))
          replace hkL := Lib.hid (show Bk (w5.setCell ⟨v2.heap.size + 1, 1, none⟩ (.slice a5 (m + 1) c5)) (v2.heap.size + 1) 26 #[.int .i64 (1 + r), .slice a5 (m + 1) c5] from hkL.out.set 1 (.slice a5 (m + 1) c5))
          have hqz6 : w5.heap.size ≤ (w5.setCell ⟨v2.heap.size + 1, 1, none⟩ (.slice a5 (m + 1) c5)).heap.size ∧ (w5.setCell ⟨v2.heap.size + 1, 1, none⟩ (.slice a5 (m + 1) c5)).heap.size ≤ w5.heap.size := by simp only [World.size_setCell]; exact ⟨Nat.le_refl _, Nat.le_refl _⟩
          generalize (w5.setCell ⟨v2.heap.size + 1, 1, none⟩ (.slice a5 (m + 1) c5)) = v7 at *
          have hzv7 := hT.out.size
          refine (spec_pick B a c l _ (3) v7 hT.out.src (by omega) hl (by omega) (by omega)).mono ?_
          rintro e v8 ⟨r6, rfl, ⟨r60, r61, r62⟩, hs, hw⟩
          have hmv8 := hw.size
          replace hT := Lib.hid (hT.out.step hs hw)
          replace hkR := Lib.hid (hkR.out.within hw (by omega))
          replace hkN := Lib.hid (hkN.out.within hw (by omega))
          replace hkL := Lib.hid (hkL.out.within hw (by omega))
          replace hoI := Lib.hid (hoI.out.within hw (by omega))
          have hzv8 := hT.out.size
          have hltRv8 := hkR.out.lt
          have hltNv8 := hkN.out.lt
          have hltLv8 := hkL.out.lt
          clear hs hw
          replace r61 := r61 (by omega)
          clear r62
          have h3 : r6 = 0 ∨ r6 = 1 ∨ r6 = 2 := by omega
          rcases h3 with rfl | rfl | rfl
          · go_wp2_with fail
            go_roundw
            case rel => exact ⟨k + 1, A + 1 + q4, m + 1, xs ++ [(⟨nm, 1 + r5, (A : Int), (A : Int) + 1 + (q4 : Int)⟩ : Itm)], a5, c5, by omega, by go_num, by first | rfl | go_num | (congr 1; omega), by omega, by omega, Lib.hid (by rw [List.length_append, hxm.out]; rfl), all_snoc hP.out ⟨hnsz, (by show (1 + r5 = 1 ∨ 1 + r5 = 2); omega), (by show (0 : Int) ≤ (A : Int); omega), (by show (A : Int) < (A : Int) + 1 + (q4 : Int); omega), (by show (A : Int) + 1 + (q4 : Int) ≤ 1 + r; omega)⟩, by (rw [itemsV_append, itemsV_one]; exact hoI.out.wider (Nat.le_refl _) (by omega)), hkL.out, hkR.out, hkN.out, hT.out.more (by omega), by omega⟩
            case measure => simp [intOf]; omega
          · go_wp2_with fail
            go_roundw
            case rel => exact ⟨k + 1, A + 1 + q4, m + 1, xs ++ [(⟨nm, 1 + r5, (A : Int), (A : Int) + 1 + (q4 : Int)⟩ : Itm)], a5, c5, by omega, by go_num, by first | rfl | go_num | (congr 1; omega), by omega, by omega, Lib.hid (by rw [List.length_append, hxm.out]; rfl), all_snoc hP.out ⟨hnsz, (by show (1 + r5 = 1 ∨ 1 + r5 = 2); omega), (by show (0 : Int) ≤ (A : Int); omega), (by show (A : Int) < (A : Int) + 1 + (q4 : Int); omega), (by show (A : Int) + 1 + (q4 : Int) ≤ 1 + r; omega)⟩, by (rw [itemsV_append, itemsV_one]; exact hoI.out.wider (Nat.le_refl _) (by omega)), hkL.out, hkR.out, hkN.out, hT.out.more (by omega), by omega⟩
            case measure => simp [intOf]; omega
          · go_wp2_with fail
            go_roundw
            case rel => exact ⟨k + 1, A + 1 + q4 + 1, m + 1, xs ++ [(⟨nm, 1 + r5, (A : Int), (A : Int) + 1 + (q4 : Int)⟩ : Itm)], a5, c5, by omega, by go_num, by first | rfl | go_num | (congr 1; omega), by omega, by omega, Lib.hid (by rw [List.length_append, hxm.out]; rfl), all_snoc hP.out ⟨hnsz, (by show (1 + r5 = 1 ∨ 1 + r5 = 2); omega), (by show (0 : Int) ≤ (A : Int); omega), (by show (A : Int) < (A : Int) + 1 + (q4 : Int); omega), (by show (A : Int) + 1 + (q4 : Int) ≤ 1 + r; omega)⟩, by (rw [itemsV_append, itemsV_one]; exact hoI.out.wider (Nat.le_refl _) (by omega)), hkL.out, hkR.out, hkN.out, hT.out.more (by omega), by omega⟩
            case measure => simp [intOf]; omega
    · obtain rfl : k = 5 := by omega
      by_cases h2 : 1 < m
      · have hd : decide ((1 : Int) < (m : Int)) = true := decide_eq_true (by omega)
        have hd2 : decide (1 < m) = true := decide_eq_true h2
        obtain ⟨g, rfl, hg1, hg2⟩ := OV.addr hoI.out (by omega)
        have hgne : ¬ g = v2.heap.size + 1 := (hoI.out.ne_block hkL.out (by decide)) _ rfl
        obtain ⟨cL_0, cL_1, fL_0, fL_1⟩ := hkL.out.two
        go_wp2_with fail
        clear cL_0 cL_1 fL_0 fL_1
        refine (spec_one B a c l _ 3 wr hT.out.src (by omega) hl (by omega) (by omega)).mono ?_
        rintro e v5 ⟨b, rfl, hs, hw⟩
        have hmv5 := hw.size
        replace hT := Lib.hid (hT.out.step hs hw)
        replace hkR := Lib.hid (hkR.out.within hw (by omega))
        replace hkN := Lib.hid (hkN.out.within hw (by omega))
        replace hkL := Lib.hid (hkL.out.within hw (by omega))
        replace hoI := Lib.hid (hoI.out.within hw (by omega))
        have hzv5 := hT.out.size
        have hltRv5 := hkR.out.lt
        have hltNv5 := hkN.out.lt
        have hltLv5 := hkL.out.lt
        clear hs hw
        cases b
        · skip
          obtain ⟨cL_0, cL_1, fL_0, fL_1⟩ := hkL.out.two
          obtain ⟨cR_0, cR_1, fR_0, fR_1⟩ := hkR.out.two
          go_wp2_with fail
          refine bodyPost_ret (v := .agg #[.int .i64 (1 + r), .slice (some ⟨g, 0, none⟩) m c3]) (by simp [results, Tryz.results49, go_sem, *]) rfl ⟨_, (some ⟨g, 0, none⟩), c3, xs, by rw [hxm.out], ⟨by omega, by omega, by rw [hxm.out]; omega, ?_⟩, ?_, ?_, ?_⟩
          · exact hP.out
          · have h9 := (OV.setBelow (OV.setBelow hoI.out (p := ⟨w.heap.size, 0, none⟩) (by dsimp only; omega) (.int .i64 (1 + r))) (p := ⟨w.heap.size, 1, none⟩) (by dsimp only; omega) (.slice (some ⟨g, 0, none⟩) m c3)).wider (show w.heap.size ≤ _ by omega) (show _ ≤ v5.heap.size by omega)
            unfold OT; rw [hxm.out]; simpa using h9
          · exact (((hT.out.set (p := ⟨w.heap.size, 0, none⟩) (Nat.le_refl _) _).set (p := ⟨w.heap.size, 1, none⟩) (Nat.le_refl _) _).src).more (by omega)
          · exact ((hT.out.set (p := ⟨w.heap.size, 0, none⟩) (Nat.le_refl _) _).set (p := ⟨w.heap.size, 1, none⟩) (Nat.le_refl _) _).win
        · obtain ⟨x0, hx0⟩ := get_some (l := xs) (k := 0) (by rw [hxm.out]; omega)
          obtain ⟨x1, hx1⟩ := get_some (l := xs) (k := 1) (by rw [hxm.out]; omega)
          obtain ⟨⟨i0_, i1_, i2_, i3_⟩, hfg⟩ := row_item (a := none) hoI.out hx0
          obtain ⟨⟨i4_, i5_, i6_, i7_⟩, _⟩ := row_item (a := none) hoI.out hx1
          simp only [Nat.zero_mul, Nat.zero_add, Nat.one_mul] at i0_ i1_ i2_ i3_ i4_ i5_ i6_ i7_
          have f0_ := hfg 0
          have f1_ := hfg 1
          have f2_ := hfg 2
          have f3_ := hfg 3
          have f4_ := hfg (4 + 0)
          have f5_ := hfg (4 + 1)
          have f6_ := hfg (4 + 2)
          have f7_ := hfg (4 + 3)
          have hgl : g < v5.heap.size := World.block_lt_of_cell? _ _ i0_
          have hgl2 : ¬ g = v5.heap.size := by omega
          have hm1_ : (1 : Int) < (m : Int) := by omega
          have hm0_ : (0 : Int) < (m : Int) := by omega
          have hm0n_ : 0 < m := by omega
          have hgL2 : ¬ v2.heap.size + 1 = g := by omega
          have hgR2 : ¬ w.heap.size = g := by omega
          have hgR : ¬ g = w.heap.size := by omega
          obtain ⟨cL_0, cL_1, fL_0, fL_1⟩ := hkL.out.two
          obtain ⟨cR_0, cR_1, fR_0, fR_1⟩ := hkR.out.two
          go_wp2_with fail
          first | go_region_held3 (fun V => V.cell? ⟨v2.heap.size + 1, 1, none⟩ = some (.slice (some ⟨g, 0, none⟩) m c3) ∧ V.cell? ⟨g, 4, none⟩ = some (.string x1.name) ∧ V.cell? ⟨g, 5, none⟩ = some (.int .i64 x1.kind) ∧ V.cell? ⟨g, 6, none⟩ = some (.int .i64 x1.fr) ∧ V.cell? ⟨g, 7, none⟩ = some (.int .i64 x1.to)) (simp [go_sem, *]) (fail) | fail
          clear i0_ i1_ i2_ i3_ i4_ i5_ i6_ i7_ f0_ f1_ f2_ f3_ f4_ f5_ f6_ f7_ hfg
          clear cL_0 cL_1 fL_0 fL_1 cR_0 cR_1 fR_0 fR_1
          replace hT := Lib.hid (hT.out.set (p := ⟨g, 0, none⟩) (by dsimp only; omega) (.string x1.name))
          replace hkR := Lib.hid (hkR.out.far (p := ⟨g, 0, none⟩) (by dsimp only; omega) (.string x1.name))
          replace hkN := Lib.hid (hkN.out.far (p := ⟨g, 0, none⟩) (by dsimp only; omega) (.string x1.name))
          replace hkL := Lib.hid (hkL.out.far (p := ⟨g, 0, none⟩) (by dsimp only; omega) (.string x1.name))
          replace hoI := Lib.hid (OV.store hoI.out 0 (.string x1.name))
          have hqz1 : v5.heap.size ≤ (v5.setCell ⟨g, 0, none⟩ (.string x1.name)).heap.size ∧ (v5.setCell ⟨g, 0, none⟩ (.string x1.name)).heap.size ≤ v5.heap.size := by simp only [World.size_setCell]; exact ⟨Nat.le_refl _, Nat.le_refl _⟩
          replace hT := Lib.hid (hT.out.set (p := ⟨g, 1, none⟩) (by dsimp only; omega) (.int .i64 x1.kind))
          replace hkR := Lib.hid (hkR.out.far (p := ⟨g, 1, none⟩) (by dsimp only; omega) (.int .i64 x1.kind))
          replace hkN := Lib.hid (hkN.out.far (p := ⟨g, 1, none⟩) (by dsimp only; omega) (.int .i64 x1.kind))
          replace hkL := Lib.hid (hkL.out.far (p := ⟨g, 1, none⟩) (by dsimp only; omega) (.int .i64 x1.kind))
          replace hoI := Lib.hid (OV.store hoI.out 1 (.int .i64 x1.kind))
          have hqz2 : (v5.setCell ⟨g, 0, none⟩ (.string x1.name)).heap.size ≤ ((v5.setCell ⟨g, 0, none⟩ (.string x1.name)).setCell ⟨g, 1, none⟩ (.int .i64 x1.kind)).heap.size ∧ ((v5.setCell ⟨g, 0, none⟩ (.string x1.name)).setCell ⟨g, 1, none⟩ (.int .i64 x1.kind)).heap.size ≤ (v5.setCell ⟨g, 0, none⟩ (.string x1.name)).heap.size := by simp only [World.size_setCell]; exact ⟨Nat.le_refl _, Nat.le_refl _⟩
          replace hT := Lib.hid (hT.out.set (p := ⟨g, 2, none⟩) (by dsimp only; omega) (.int .i64 x1.fr))
          replace hkR := Lib.hid (hkR.out.far (p := ⟨g, 2, none⟩) (by dsimp only; omega) (.int .i64 x1.fr))
          replace hkN := Lib.hid (hkN.out.far (p := ⟨g, 2, none⟩) (by dsimp only; omega) (.int .i64 x1.fr))
          replace hkL := Lib.hid (hkL.out.far (p := ⟨g, 2, none⟩) (by dsimp only; omega) (.int .i64 x1.fr))
          replace hoI := Lib.hid (OV.store hoI.out 2 (.int .i64 x1.fr))
          have hqz3 : ((v5.setCell ⟨g, 0, none⟩ (.string x1.name)).setCell ⟨g, 1, none⟩ (.int .i64 x1.kind)).heap.size ≤ (((v5.setCell ⟨g, 0, none⟩ (.string x1.name)).setCell ⟨g, 1, none⟩ (.int .i64 x1.kind)).setCell ⟨g, 2, none⟩ (.int .i64 x1.fr)).heap.size ∧ (((v5.setCell ⟨g, 0, none⟩ (.string x1.name)).setCell ⟨g, 1, none⟩ (.int .i64 x1.kind)).setCell ⟨g, 2, none⟩ (.int .i64 x1.fr)).heap.size ≤ ((v5.setCell ⟨g, 0, none⟩ (.string x1.name)).setCell ⟨g, 1, none⟩ (.int .i64 x1.kind)).heap.size := by simp only [World.size_setCell]; exact ⟨Nat.le_refl _, Nat.le_refl _⟩
          replace hT := Lib.hid (hT.out.set (p := ⟨g, 3, none⟩) (by dsimp only; omega) (.int .i64 x1.to))
          replace hkR := Lib.hid (hkR.out.far (p := ⟨g, 3, none⟩) (by dsimp only; omega) (.int .i64 x1.to))
          replace hkN := Lib.hid (hkN.out.far (p := ⟨g, 3, none⟩) (by dsimp only; omega) (.int .i64 x1.to))
          replace hkL := Lib.hid (hkL.out.far (p := ⟨g, 3, none⟩) (by dsimp only; omega) (.int .i64 x1.to))
          replace hoI := Lib.hid (OV.store hoI.out 3 (.int .i64 x1.to))
          have hqz4 : (((v5.setCell ⟨g, 0, none⟩ (.string x1.name)).setCell ⟨g, 1, none⟩ (.int .i64 x1.kind)).setCell ⟨g, 2, none⟩ (.int .i64 x1.fr)).heap.size ≤ ((((v5.setCell ⟨g, 0, none⟩ (.string x1.name)).setCell ⟨g, 1, none⟩ (.int .i64 x1.kind)).setCell ⟨g, 2, none⟩ (.int .i64 x1.fr)).setCell ⟨g, 3, none⟩ (.int .i64 x1.to)).heap.size ∧ ((((v5.setCell ⟨g, 0, none⟩ (.string x1.name)).setCell ⟨g, 1, none⟩ (.int .i64 x1.kind)).setCell ⟨g, 2, none⟩ (.int .i64 x1.fr)).setCell ⟨g, 3, none⟩ (.int .i64 x1.to)).heap.size ≤ (((v5.setCell ⟨g, 0, none⟩ (.string x1.name)).setCell ⟨g, 1, none⟩ (.int .i64 x1.kind)).setCell ⟨g, 2, none⟩ (.int .i64 x1.fr)).heap.size := by simp only [World.size_setCell]; exact ⟨Nat.le_refl _, Nat.le_refl _⟩
          have hA := Lib.hid (below_alloc (w := ((((v5.setCell ⟨g, 0, none⟩ (.string x1.name)).setCell ⟨g, 1, none⟩ (.int .i64 x1.kind)).setCell ⟨g, 2, none⟩ (.int .i64 x1.fr)).setCell ⟨g, 3, none⟩ (.int .i64 x1.to))) (.cells #[.string x0.name, .int .i64 x0.kind, .int .i64 x0.fr, .int .i64 x0.to] 63))
          have hkn := Lib.hid (show Bk (((((v5.setCell ⟨g, 0, none⟩ (.string x1.name)).setCell ⟨g, 1, none⟩ (.int .i64 x1.kind)).setCell ⟨g, 2, none⟩ (.int .i64 x1.fr)).setCell ⟨g, 3, none⟩ (.int .i64 x1.to)).alloc (.cells #[.string x0.name, .int .i64 x0.kind, .int .i64 x0.fr, .int .i64 x0.to] 63)) (v5.heap.size) 63 #[.string x0.name, .int .i64 x0.kind, .int .i64 x0.fr, .int .i64 x0.to] from (by first | exact Bk.new _ _ _ | simpa using Bk.new ((((v5.setCell ⟨g, 0, none⟩ (.string x1.name)).setCell ⟨g, 1, none⟩ (.int .i64 x1.kind)).setCell ⟨g, 2, none⟩ (.int .i64 x1.fr)).setCell ⟨g, 3, none⟩ (.int .i64 x1.to)) #[.string x0.name, .int .i64 x0.kind, .int .i64 x0.fr, .int .i64 x0.to] 63))
          replace hT := Lib.hid (hT.out.kept hA.out)
          replace hkR := Lib.hid (hkR.out.kept hA.out)
          replace hkN := Lib.hid (hkN.out.kept hA.out)
          replace hkL := Lib.hid (hkL.out.kept hA.out)
          replace hoI := Lib.hid (hoI.out.kept hA.out)
          have hqX : ((((v5.setCell ⟨g, 0, none⟩ (.string x1.name)).setCell ⟨g, 1, none⟩ (.int .i64 x1.kind)).setCell ⟨g, 2, none⟩ (.int .i64 x1.fr)).setCell ⟨g, 3, none⟩ (.int .i64 x1.to)).heap.size + 1 ≤ (((((v5.setCell ⟨g, 0, none⟩ (.string x1.name)).setCell ⟨g, 1, none⟩ (.int .i64 x1.kind)).setCell ⟨g, 2, none⟩ (.int .i64 x1.fr)).setCell ⟨g, 3, none⟩ (.int .i64 x1.to)).alloc (.cells #[.string x0.name, .int .i64 x0.kind, .int .i64 x0.fr, .int .i64 x0.to] 63)).heap.size ∧ (((((v5.setCell ⟨g, 0, none⟩ (.string x1.name)).setCell ⟨g, 1, none⟩ (.int .i64 x1.kind)).setCell ⟨g, 2, none⟩ (.int .i64 x1.fr)).setCell ⟨g, 3, none⟩ (.int .i64 x1.to)).alloc (.cells #[.string x0.name, .int .i64 x0.kind, .int .i64 x0.fr, .int .i64 x0.to] 63)).heap.size ≤ ((((v5.setCell ⟨g, 0, none⟩ (.string x1.name)).setCell ⟨g, 1, none⟩ (.int .i64 x1.kind)).setCell ⟨g, 2, none⟩ (.int .i64 x1.fr)).setCell ⟨g, 3, none⟩ (.int .i64 x1.to)).heap.size + 1 := by simp
          have hkX := hkn
          clear hkn hA
          have hA := Lib.hid ((Below.refl (((((v5.setCell ⟨g, 0, none⟩ (.string x1.name)).setCell ⟨g, 1, none⟩ (.int .i64 x1.kind)).setCell ⟨g, 2, none⟩ (.int .i64 x1.fr)).setCell ⟨g, 3, none⟩ (.int .i64 x1.to)).alloc (.cells #[.string x0.name, .int .i64 x0.kind, .int .i64 x0.fr, .int .i64 x0.to] 63)).heap.size (((((v5.setCell ⟨g, 0, none⟩ (.string x1.name)).setCell ⟨g, 1, none⟩ (.int .i64 x1.kind)).setCell ⟨g, 2, none⟩ (.int .i64 x1.fr)).setCell ⟨g, 3, none⟩ (.int .i64 x1.to)).alloc (.cells #[.string x0.name, .int .i64 x0.kind, .int .i64 x0.fr, .int .i64 x0.to] 63))).drew)
          replace hT := Lib.hid (hT.out.kept hA.out)
          replace hkR := Lib.hid (hkR.out.kept hA.out)
          replace hkN := Lib.hid (hkN.out.kept hA.out)
          replace hkL := Lib.hid (hkL.out.kept hA.out)
          replace hkX := Lib.hid (hkX.out.kept hA.out)
          replace hoI := Lib.hid (hoI.out.kept hA.out)
          clear hA
          have hqz5 : (((((v5.setCell ⟨g, 0, none⟩ (.string x1.name)).setCell ⟨g, 1, none⟩ (.int .i64 x1.kind)).setCell ⟨g, 2, none⟩ (.int .i64 x1.fr)).setCell ⟨g, 3, none⟩ (.int .i64 x1.to)).alloc (.cells #[.string x0.name, .int .i64 x0.kind, .int .i64 x0.fr, .int .i64 x0.to] 63)).heap.size ≤ (((((v5.setCell ⟨g, 0, none⟩ (.string x1.name)).setCell ⟨g, 1, none⟩ (.int .i64 x1.kind)).setCell ⟨g, 2, none⟩ (.int .i64 x1.fr)).setCell ⟨g, 3, none⟩ (.int .i64 x1.to)).alloc (.cells #[.string x0.name, .int .i64 x0.kind, .int .i64 x0.fr, .int .i64 x0.to] 63)).drew.heap.size ∧ (((((v5.setCell ⟨g, 0, none⟩ (.string x1.name)).setCell ⟨g, 1, none⟩ (.int .i64 x1.kind)).setCell ⟨g, 2, none⟩ (.int .i64 x1.fr)).setCell ⟨g, 3, none⟩ (.int .i64 x1.to)).alloc (.cells #[.string x0.name, .int .i64 x0.kind, .int .i64 x0.fr, .int .i64 x0.to] 63)).drew.heap.size ≤ (((((v5.setCell ⟨g, 0, none⟩ (.string x1.name)).setCell ⟨g, 1, none⟩ (.int .i64 x1.kind)).setCell ⟨g, 2, none⟩ (.int .i64 x1.fr)).setCell ⟨g, 3, none⟩ (.int .i64 x1.to)).alloc (.cells #[.string x0.name, .int .i64 x0.kind, .int .i64 x0.fr, .int .i64 x0.to] 63)).heap.size := by simp only [World.size_drew]; exact ⟨Nat.le_refl _, Nat.le_refl _⟩
          generalize (((((v5.setCell ⟨g, 0, none⟩ (.string x1.name)).setCell ⟨g, 1, none⟩ (.int .i64 x1.kind)).setCell ⟨g, 2, none⟩ (.int .i64 x1.fr)).setCell ⟨g, 3, none⟩ (.int .i64 x1.to)).alloc (.cells #[.string x0.name, .int .i64 x0.kind, .int .i64 x0.fr, .int .i64 x0.to] 63)).drew = v6 at *
          have hzv6 := hT.out.size
          have hlX : v5.heap.size < v6.heap.size := hkX.out.lt
          replace hoI := Lib.hid (show OV _ _ v6 63 4 (some ⟨g, 0, none⟩) m c3 (itemsV (xs.set 0 x1)) by
            have e := items_put hx0 x1
            simp only [Nat.zero_mul, Nat.zero_add] at e
            rw [← e]; exact hoI.out)
          have hx1b : (xs.set 0 x1)[1]? = some x1 := by rw [List.getElem?_set_ne (by decide)]; exact hx1
          obtain ⟨⟨i4_, i5_, i6_, i7_⟩, hfg⟩ := row_item (a := none) hoI.out hx1b
          simp only [Nat.one_mul] at i4_ i5_ i6_ i7_
          have f4_ := hfg 4
          have f5_ := hfg (4 + 1)
          have f6_ := hfg (4 + 2)
          have f7_ := hfg (4 + 3)
          obtain ⟨cL_0, cL_1, fL_0, fL_1⟩ := hkL.out.two
          obtain ⟨cR_0, cR_1, fR_0, fR_1⟩ := hkR.out.two
          obtain ⟨⟨cX_0, cX_1, cX_2, cX_3⟩, fX_0, fX_1, fX_2, fX_3⟩ := hkX.out.four
          go_wp2_with fail
          refine bodyPost_ret (v := .agg #[.int .i64 (1 + r), .slice (some ⟨g, 0, none⟩) m c3]) (by simp [results, Tryz.results49, go_sem, *]) rfl ⟨_, (some ⟨g, 0, none⟩), c3, ((xs.set 0 x1).set 1 x0), by rw [List.length_set, List.length_set, hxm.out], ⟨by omega, by omega, by rw [List.length_set, List.length_set, hxm.out]; omega, ?_⟩, ?_, ?_, ?_⟩
          · exact all_set (all_set hP.out (hP.out _ (List.mem_of_getElem? hx1))) (hP.out _ (List.mem_of_getElem? hx0))
          · have h8 := OV.store (OV.store (OV.store (OV.store hoI.out 4 (.string x0.name)) 5 (.int .i64 x0.kind)) 6 (.int .i64 x0.fr)) 7 (.int .i64 x0.to)
            have e := items_put hx1b x0
            simp only [Nat.one_mul, Nat.reduceAdd] at e
            rw [e] at h8
            have h9 := (OV.setBelow (OV.setBelow h8 (p := ⟨w.heap.size, 0, none⟩) (by dsimp only; omega) (.int .i64 (1 + r))) (p := ⟨w.heap.size, 1, none⟩) (by dsimp only; omega) (.slice (some ⟨g, 0, none⟩) m c3)).wider (show w.heap.size ≤ _ by omega) (show _ ≤ v6.heap.size by omega)
            unfold OT; rw [List.length_set, List.length_set, hxm.out]; simpa using h9
          · exact ((((((hT.out.set (p := ⟨g, 4, none⟩) (by dsimp only; omega) _).set (p := ⟨g, 5, none⟩) (by dsimp only; omega) _).set (p := ⟨g, 6, none⟩) (by dsimp only; omega) _).set (p := ⟨g, 7, none⟩) (by dsimp only; omega) _).set (p := ⟨w.heap.size, 0, none⟩) (Nat.le_refl _) _).set (p := ⟨w.heap.size, 1, none⟩) (Nat.le_refl _) _).src.more (by omega)
          · exact ((((((hT.out.set (p := ⟨g, 4, none⟩) (by dsimp only; omega) _).set (p := ⟨g, 5, none⟩) (by dsimp only; omega) _).set (p := ⟨g, 6, none⟩) (by dsimp only; omega) _).set (p := ⟨g, 7, none⟩) (by dsimp only; omega) _).set (p := ⟨w.heap.size, 0, none⟩) (Nat.le_refl _) _).set (p := ⟨w.heap.size, 1, none⟩) (Nat.le_refl _) _).win
      · have hd : decide ((1 : Int) < (m : Int)) = false := decide_eq_false (by omega)
        have hd2 : decide (1 < m) = false := decide_eq_false h2
        obtain ⟨cL_0, cL_1, fL_0, fL_1⟩ := hkL.out.two
        obtain ⟨cR_0, cR_1, fR_0, fR_1⟩ := hkR.out.two
        go_wp2_with fail
        refine bodyPost_ret (v := .agg #[.int .i64 (1 + r), .slice a3 m c3]) (by simp [results, Tryz.results49, go_sem, *]) rfl ⟨_, a3, c3, xs, by rw [hxm.out], ⟨by omega, by omega, by rw [hxm.out]; omega, ?_⟩, ?_, ?_, ?_⟩
        · exact hP.out
        · have h9 := (OV.setBelow (OV.setBelow hoI.out (p := ⟨w.heap.size, 0, none⟩) (by dsimp only; omega) (.int .i64 (1 + r))) (p := ⟨w.heap.size, 1, none⟩) (by dsimp only; omega) (.slice a3 m c3)).wider (show w.heap.size ≤ _ by omega) (show _ ≤ wr.heap.size by omega)
          unfold OT; rw [hxm.out]; simpa using h9
        · exact (((hT.out.set (p := ⟨w.heap.size, 0, none⟩) (Nat.le_refl _) _).set (p := ⟨w.heap.size, 1, none⟩) (Nat.le_refl _) _).src).more (by omega)
        · exact ((hT.out.set (p := ⟨w.heap.size, 0, none⟩) (Nat.le_refl _) _).set (p := ⟨w.heap.size, 1, none⟩) (Nat.le_refl _) _).win
theorem spec_l04Draw (B : Nat) (a : Option Addr) (c : Nat) (l : List UInt8) (k0 : Nat) (w : World) (h : SrcIs w B a c l k0) (hk0 : k0 ≤ 268435456) (hl : l.length ≤ 1073741824) :
    Calls Tryz.prog 49 #[.pointer (some ⟨B, 0, none⟩)] w (DrawnL w B a c l (k0 + 64) 63 fun wd xs => 1 ≤ wd ∧ wd ≤ 12 ∧ xs.length ≤ 5 ∧ ∀ y ∈ xs, y.name.size ≤ 16) := by
  refine (spec_l04DrawS B a c l k0 w h hk0 hl).mono ?_
  rintro e w' ⟨wd, a', c', xs, h1, ⟨p1, p2, p3, p4⟩, h2⟩
  exact ⟨wd, a', c', xs, h1, ⟨p1, p2, p3, fun y hy => Nat.le_trans (p4 y hy).1 (by decide)⟩, h2⟩
end Go.Proofs.YtmpfnkheohlmiaaGreatDoor
