/- The walk of the reference's reader of one line. -/
import Derived.Test.YtmpfnkheohlmiaaGreatDoorQR
import Derived.Test.YtmpfnkheohlmiaaGreatDoorQS
import Derived.Test.YtmpfnkheohlmiaaGreatDoorQX
namespace Go.Proofs.YtmpfnkheohlmiaaGreatDoor
open Go.RowKit
set_option maxRecDepth 100000
set_option linter.unusedVariables false
set_option linter.unusedSimpArgs false
set_option linter.unnecessarySimpa false

theorem rs_own {w : World} {B e n c : Nat} {a : Option Addr} {L : List ByteArray} (h : w.ownsRow B e 1 (.slice a n c) n (L.map Value.string)) : RS w a L := (OV.of h).row
theorem self_text (s : ByteArray) : (⟨s.data.toList.toArray⟩ : ByteArray) = s := (ba_self s).symm
theorem lineOk_3 {t : ByteArray} (h : ¬ (cutB 32 t).length = 3) : lineOk t.data.toList = false := by
  rw [cutB_length] at h
  unfold lineOk
  split
  · rename_i e; rw [e] at h; exact absurd rfl h
  · rfl
theorem lineOk_2 {t n k r : ByteArray} (h : cutL 32 t.data.toList = [n.data.toList, k.data.toList, r.data.toList]) (h2 : ¬ (cutB 45 r).length = 2) : lineOk t.data.toList = false := by
  rw [cutB_length] at h2
  unfold lineOk
  simp only [h]
  split
  · rename_i e; rw [e] at h2; exact absurd rfl h2
  · rfl
theorem cutB_two {s a b : ByteArray} {u : UInt8} (h : (cutB u s).length = 2) (h0 : (cutB u s)[0]? = some a) (h1 : (cutB u s)[1]? = some b) : cutL u s.data.toList = [a.data.toList, b.data.toList] := by
  have a0 := cutB_at h0
  have a1 := cutB_at h1
  rw [cutB_length] at h
  match hq : cutL u s.data.toList, h with
  | [x, y], _ => rw [hq] at a0 a1; simp at a0 a1; rw [a0, a1]
theorem line_is {t n k r a b : ByteArray} (h : cutL 32 t.data.toList = [n.data.toList, k.data.toList, r.data.toList]) (h2 : cutL 45 r.data.toList = [a.data.toList, b.data.toList]) :
    lineOk t.data.toList = (readL a.data.toList && readL b.data.toList) ∧ lineX t.data.toList = ⟨n, kindP k.data.toList, readI a.data.toList, readI b.data.toList⟩ := by
  constructor
  · unfold lineOk; simp only [h, h2]
  · unfold lineX; simp only [h, h2, self_text]
theorem kind_t1 {k : ByteArray} (h : (k.toList == [116, 101, 120, 116]) = true) : kindP k.data.toList = 1 := by
  rw [← toList_eq]; rw [show k.toList = [116, 101, 120, 116] by simpa using h]; exact kindP_1
theorem kind_t2 {k : ByteArray} (h1 : (k.toList == [116, 101, 120, 116]) = false) (h : (k.toList == [110, 117, 109, 98, 101, 114]) = true) : kindP k.data.toList = 2 := by
  rw [← toList_eq]; rw [show k.toList = [110, 117, 109, 98, 101, 114] by simpa using h]; exact kindP_2
theorem kind_t0 {k : ByteArray} (h1 : (k.toList == [116, 101, 120, 116]) = false) (h : (k.toList == [110, 117, 109, 98, 101, 114]) = false) : kindP k.data.toList = 0 := by
  rw [← toList_eq]; exact kindP_0 (by simpa using h1) (by simpa using h)
set_option maxHeartbeats 4000000 in
theorem spec_l04Line (t : ByteArray) (w : World) (hs : t.size ≤ 1048576) :
    Calls Tryz.prog 54 #[.string t] w fun e w' => ∃ it : Itm, e = .returned (.tuple #[.agg #[.string it.name, .int .i64 it.kind, .int .i64 it.fr, .int .i64 it.to], .bool (lineOk t.data.toList)]) ∧ (lineOk t.data.toList = true → it = lineX t.data.toList) ∧ Below w.heap.size w w' := by
  have hb1 := Lib.hid (below_alloc (w := w) (.cells #[.string ⟨#[]⟩, .int .i64 0, .int .i64 0, .int .i64 0] 63))
  have hsp := Lib.hid (fun W => spec_l01Split t 32 W hs)
  have hcl := cutB_le 32 t
  by_cases h3 : (cutB 32 t).length = 3
  · obtain ⟨n, hn⟩ := get_some (l := cutB 32 t) (k := 0) (by omega)
    obtain ⟨k, hk⟩ := get_some (l := cutB 32 t) (k := 1) (by omega)
    obtain ⟨r, hr⟩ := get_some (l := cutB 32 t) (k := 2) (by omega)
    have hw := cutB_three h3 hn hk hr
    have hrs := cutB_part hr
    have hsp2 := Lib.hid (fun W => spec_l01Split r 45 W (by omega))
    have hrl := cutB_le 45 r
    have hread := Lib.hid (fun (W : World) (a : Option Addr) (h : RS W a (cutB 32 t)) => And.intro (h.at hn) (And.intro (h.at hk) (h.at hr)))
    by_cases h2 : (cutB 45 r).length = 2
    · obtain ⟨a, ha⟩ := get_some (l := cutB 45 r) (k := 0) (by omega)
      obtain ⟨b, hb⟩ := get_some (l := cutB 45 r) (k := 1) (by omega)
      have hv := cutB_two h2 ha hb
      obtain ⟨l1, l2⟩ := line_is hw hv
      have has := cutB_part ha
      have hbs := cutB_part hb
      have hna := Lib.hid (fun W => spec_l01Number a W (by omega))
      have hnb := Lib.hid (fun W => spec_l01Number b W (by omega))
      have hread2 := Lib.hid (fun (W : World) (q : Option Addr) (h : RS W q (cutB 45 r)) => And.intro (h.at ha) (h.at hb))
      have hQ1 := Lib.hid l1
      have hQ2 := Lib.hid l2
      clear hn hk hr ha hb hw hv l1 l2
      have hsp' := hsp.out
      have hsp2' := hsp2.out
      rw [h3] at hsp'
      rw [h2] at hsp2'
      generalize hRA : readL a.data.toList = RA at *
      generalize hRB : readL b.data.toList = RB at *
      generalize readI a.data.toList = VA at *
      generalize readI b.data.toList = VB at *
      have hsp3 := Lib.hid hsp'
      have hsp4 := Lib.hid hsp2'
      clear hsp hsp2 hsp' hsp2' hRA hRB h3 h2 hcl hrl
      go_enter Tryz.func54, Tryz.ntmps54
      go_wp2_with fail
      refine (hsp3.out _).mono ?_
      rintro e w2 ⟨a2, c2, rfl, ho2, hb⟩
      obtain ⟨⟨bw, ow, rfl, d0⟩, ⟨b1_, o1_, e1, d1⟩, ⟨b2_, o2_, e2, d2⟩⟩ := hread.out _ _ (rs_own ho2)
      simp only [Option.some.injEq, Addr.mk.injEq, and_true] at e1 e2
      obtain ⟨rfl, rfl⟩ := e1
      obtain ⟨rfl, rfl⟩ := e2
      rw [Nat.add_zero] at d0
      (have hc0 := keep (p := ⟨w.heap.size, 0, none⟩) (v := .string ⟨#[]⟩) hb (by simp [go_sem, *]); have hf0 := keepf (p := ⟨w.heap.size, 0, none⟩) (v := .string ⟨#[]⟩) hb (by simp [go_sem, *]) (by simp [go_sem, *]); have hl0 := World.block_lt_of_cell? _ _ hc0; have hc1 := keep (p := ⟨w.heap.size, 1, none⟩) (v := .int .i64 0) hb (by simp [go_sem, *]); have hf1 := keepf (p := ⟨w.heap.size, 1, none⟩) (v := .int .i64 0) hb (by simp [go_sem, *]) (by simp [go_sem, *]); have hl1 := World.block_lt_of_cell? _ _ hc1; have hc2 := keep (p := ⟨w.heap.size, 2, none⟩) (v := .int .i64 0) hb (by simp [go_sem, *]); have hf2 := keepf (p := ⟨w.heap.size, 2, none⟩) (v := .int .i64 0) hb (by simp [go_sem, *]) (by simp [go_sem, *]); have hl2 := World.block_lt_of_cell? _ _ hc2; have hc3 := keep (p := ⟨w.heap.size, 3, none⟩) (v := .int .i64 0) hb (by simp [go_sem, *]); have hf3 := keepf (p := ⟨w.heap.size, 3, none⟩) (v := .int .i64 0) hb (by simp [go_sem, *]) (by simp [go_sem, *]); have hl3 := World.block_lt_of_cell? _ _ hc3)
      have hB := Lib.hid (bthen hb1.out hb)
      clear hb ho2
      go_wp2_with fail
      refine (hsp4.out _).mono ?_
      rintro e w3 ⟨a3, c3, rfl, ho3, hb⟩
      obtain ⟨⟨bv, ov, rfl, g0⟩, ⟨b3_, o3_, e3, g1⟩⟩ := hread2.out _ _ (rs_own ho3)
      simp only [Option.some.injEq, Addr.mk.injEq, and_true] at e3
      obtain ⟨rfl, rfl⟩ := e3
      rw [Nat.add_zero] at g0
      replace d0 := keep hb d0
      replace d1 := keep hb d1
      (replace hf0 := keepf hb hc0 hf0; replace hc0 := keep hb hc0; replace hl0 := World.block_lt_of_cell? _ _ hc0; replace hf1 := keepf hb hc1 hf1; replace hc1 := keep hb hc1; replace hl1 := World.block_lt_of_cell? _ _ hc1; replace hf2 := keepf hb hc2 hf2; replace hc2 := keep hb hc2; replace hl2 := World.block_lt_of_cell? _ _ hc2; replace hf3 := keepf hb hc3 hf3; replace hc3 := keep hb hc3; replace hl3 := World.block_lt_of_cell? _ _ hc3)
      replace hB := Lib.hid (bthen hB.out hb)
      clear hb ho3
      go_wp2_with fail
      refine (hna.out _).mono ?_
      rintro e w4 ⟨rfl, hb⟩
      replace d0 := keep hb d0
      replace d1 := keep hb d1
      replace g1 := keep hb g1
      (replace hf0 := keepf hb hc0 hf0; replace hc0 := keep hb hc0; replace hl0 := World.block_lt_of_cell? _ _ hc0; replace hf1 := keepf hb hc1 hf1; replace hc1 := keep hb hc1; replace hl1 := World.block_lt_of_cell? _ _ hc1; replace hf2 := keepf hb hc2 hf2; replace hc2 := keep hb hc2; replace hl2 := World.block_lt_of_cell? _ _ hc2; replace hf3 := keepf hb hc3 hf3; replace hc3 := keep hb hc3; replace hl3 := World.block_lt_of_cell? _ _ hc3)
      replace hB := Lib.hid (bthen hB.out hb)
      clear hb
      go_wp2_with fail
      refine (hnb.out _).mono ?_
      rintro e w5 ⟨rfl, hb⟩
      replace d0 := keep hb d0
      replace d1 := keep hb d1
      (replace hf0 := keepf hb hc0 hf0; replace hc0 := keep hb hc0; replace hl0 := World.block_lt_of_cell? _ _ hc0; replace hf1 := keepf hb hc1 hf1; replace hc1 := keep hb hc1; replace hl1 := World.block_lt_of_cell? _ _ hc1; replace hf2 := keepf hb hc2 hf2; replace hc2 := keep hb hc2; replace hl2 := World.block_lt_of_cell? _ _ hc2; replace hf3 := keepf hb hc3 hf3; replace hc3 := keep hb hc3; replace hl3 := World.block_lt_of_cell? _ _ hc3)
      replace hB := Lib.hid (bthen hB.out hb)
      have hl5 : w.heap.size < w5.heap.size := hl0
      have hd5 := World.block_lt_of_cell? _ _ d1
      have hd5' : ¬ bw = w5.heap.size := by have : bw < w5.heap.size := hd5; omega
      clear hb hread hread2 hna hnb hsp3 hsp4
      cases RA
      · cases t1 : (k.toList == [116, 101, 120, 116])
        · cases t2 : (k.toList == [110, 117, 109, 98, 101, 114])
          · have hk0 := Lib.hid (kind_t0 t1 t2)
            go_wp2_with fail
            refine bodyPost_ret (v := .tuple #[.agg #[.string n, .int .i64 0, .int .i64 VA, .int .i64 VB], .bool false]) (by simp [results, Tryz.results54, go_sem, *]) rfl ⟨⟨n, 0, VA, VB⟩, by rw [hQ1.out]; rfl, fun _ => by rw [hQ2.out, hk0.out], ?_⟩
            exact ((((hB.out.setCell (by dsimp only; omega) _).setCell (by dsimp only; omega) _).setCell (by dsimp only; omega) _).setCell (by dsimp only; omega) _).alloc (by have := hB.out.size; simpa [World.setCell] using this) _
          · have hk0 := Lib.hid (kind_t2 t1 t2)
            go_wp2_with fail
            refine bodyPost_ret (v := .tuple #[.agg #[.string n, .int .i64 2, .int .i64 VA, .int .i64 VB], .bool false]) (by simp [results, Tryz.results54, go_sem, *]) rfl ⟨⟨n, 2, VA, VB⟩, by rw [hQ1.out]; rfl, fun _ => by rw [hQ2.out, hk0.out], ?_⟩
            exact ((((hB.out.setCell (by dsimp only; omega) _).setCell (by dsimp only; omega) _).setCell (by dsimp only; omega) _).setCell (by dsimp only; omega) _).alloc (by have := hB.out.size; simpa [World.setCell] using this) _
        · have hk0 := Lib.hid (kind_t1 t1)
          go_wp2_with fail
          refine bodyPost_ret (v := .tuple #[.agg #[.string n, .int .i64 1, .int .i64 VA, .int .i64 VB], .bool false]) (by simp [results, Tryz.results54, go_sem, *]) rfl ⟨⟨n, 1, VA, VB⟩, by rw [hQ1.out]; rfl, fun _ => by rw [hQ2.out, hk0.out], ?_⟩
          exact ((((hB.out.setCell (by dsimp only; omega) _).setCell (by dsimp only; omega) _).setCell (by dsimp only; omega) _).setCell (by dsimp only; omega) _).alloc (by have := hB.out.size; simpa [World.setCell] using this) _
      · cases t1 : (k.toList == [116, 101, 120, 116])
        · cases t2 : (k.toList == [110, 117, 109, 98, 101, 114])
          · have hk0 := Lib.hid (kind_t0 t1 t2)
            go_wp2_with fail
            refine bodyPost_ret (v := .tuple #[.agg #[.string n, .int .i64 0, .int .i64 VA, .int .i64 VB], .bool RB]) (by simp [results, Tryz.results54, go_sem, *]) rfl ⟨⟨n, 0, VA, VB⟩, by rw [hQ1.out]; rfl, fun _ => by rw [hQ2.out, hk0.out], ?_⟩
            exact ((((hB.out.setCell (by dsimp only; omega) _).setCell (by dsimp only; omega) _).setCell (by dsimp only; omega) _).setCell (by dsimp only; omega) _).alloc (by have := hB.out.size; simpa [World.setCell] using this) _
          · have hk0 := Lib.hid (kind_t2 t1 t2)
            go_wp2_with fail
            refine bodyPost_ret (v := .tuple #[.agg #[.string n, .int .i64 2, .int .i64 VA, .int .i64 VB], .bool RB]) (by simp [results, Tryz.results54, go_sem, *]) rfl ⟨⟨n, 2, VA, VB⟩, by rw [hQ1.out]; rfl, fun _ => by rw [hQ2.out, hk0.out], ?_⟩
            exact ((((hB.out.setCell (by dsimp only; omega) _).setCell (by dsimp only; omega) _).setCell (by dsimp only; omega) _).setCell (by dsimp only; omega) _).alloc (by have := hB.out.size; simpa [World.setCell] using this) _
        · have hk0 := Lib.hid (kind_t1 t1)
          go_wp2_with fail
          refine bodyPost_ret (v := .tuple #[.agg #[.string n, .int .i64 1, .int .i64 VA, .int .i64 VB], .bool RB]) (by simp [results, Tryz.results54, go_sem, *]) rfl ⟨⟨n, 1, VA, VB⟩, by rw [hQ1.out]; rfl, fun _ => by rw [hQ2.out, hk0.out], ?_⟩
          exact ((((hB.out.setCell (by dsimp only; omega) _).setCell (by dsimp only; omega) _).setCell (by dsimp only; omega) _).setCell (by dsimp only; omega) _).alloc (by have := hB.out.size; simpa [World.setCell] using this) _
    · have hf := Lib.hid (lineOk_2 hw h2)
      have hne : (((cutB 45 r).length : Int) != 2) = true := by simp; omega
      have hsp' := hsp.out
      rw [h3] at hsp'
      have hsp3 := Lib.hid hsp'
      clear hsp hsp' hn hk hr hw
      go_enter Tryz.func54, Tryz.ntmps54
      go_wp2_with fail
      refine (hsp3.out _).mono ?_
      rintro e w2 ⟨a2, c2, rfl, ho2, hb⟩
      obtain ⟨⟨bw, ow, rfl, d0⟩, ⟨b1_, o1_, e1, d1⟩, ⟨b2_, o2_, e2, d2⟩⟩ := hread.out _ _ (rs_own ho2)
      simp only [Option.some.injEq, Addr.mk.injEq, and_true] at e1 e2
      obtain ⟨rfl, rfl⟩ := e1
      obtain ⟨rfl, rfl⟩ := e2
      (have hc0 := keep (p := ⟨w.heap.size, 0, none⟩) (v := .string ⟨#[]⟩) hb (by simp [go_sem, *]); have hf0 := keepf (p := ⟨w.heap.size, 0, none⟩) (v := .string ⟨#[]⟩) hb (by simp [go_sem, *]) (by simp [go_sem, *]); have hl0 := World.block_lt_of_cell? _ _ hc0; have hc1 := keep (p := ⟨w.heap.size, 1, none⟩) (v := .int .i64 0) hb (by simp [go_sem, *]); have hf1 := keepf (p := ⟨w.heap.size, 1, none⟩) (v := .int .i64 0) hb (by simp [go_sem, *]) (by simp [go_sem, *]); have hl1 := World.block_lt_of_cell? _ _ hc1; have hc2 := keep (p := ⟨w.heap.size, 2, none⟩) (v := .int .i64 0) hb (by simp [go_sem, *]); have hf2 := keepf (p := ⟨w.heap.size, 2, none⟩) (v := .int .i64 0) hb (by simp [go_sem, *]) (by simp [go_sem, *]); have hl2 := World.block_lt_of_cell? _ _ hc2; have hc3 := keep (p := ⟨w.heap.size, 3, none⟩) (v := .int .i64 0) hb (by simp [go_sem, *]); have hf3 := keepf (p := ⟨w.heap.size, 3, none⟩) (v := .int .i64 0) hb (by simp [go_sem, *]) (by simp [go_sem, *]); have hl3 := World.block_lt_of_cell? _ _ hc3)
      have hB2 := Lib.hid (bthen hb1.out hb)
      clear hb ho2
      go_wp2_with fail
      refine (hsp2.out _).mono ?_
      rintro e w3 ⟨a3, c3, rfl, ho3, hb⟩
      (replace hf0 := keepf hb hc0 hf0; replace hc0 := keep hb hc0; replace hl0 := World.block_lt_of_cell? _ _ hc0; replace hf1 := keepf hb hc1 hf1; replace hc1 := keep hb hc1; replace hl1 := World.block_lt_of_cell? _ _ hc1; replace hf2 := keepf hb hc2 hf2; replace hc2 := keep hb hc2; replace hl2 := World.block_lt_of_cell? _ _ hc2; replace hf3 := keepf hb hc3 hf3; replace hc3 := keep hb hc3; replace hl3 := World.block_lt_of_cell? _ _ hc3)
      replace hB2 := Lib.hid (bthen hB2.out hb)
      clear hb ho3
      go_wp2_with fail
      refine bodyPost_ret (v := .tuple #[.agg #[.string ⟨#[]⟩, .int .i64 0, .int .i64 0, .int .i64 0], .bool false]) (by simp [results, Tryz.results54, go_sem, *]) rfl ⟨⟨⟨#[]⟩, 0, 0, 0⟩, by rw [hf.out], fun h => by (rw [hf.out] at h; cases h), ?_⟩
      first | exact hB2.out | exact (((hB2.out.setCell (by dsimp only; omega) _).setCell (by dsimp only; omega) _).setCell (by dsimp only; omega) _).setCell (by dsimp only; omega) _
  · have hf := Lib.hid (lineOk_3 h3)
    have hne : (((cutB 32 t).length : Int) != 3) = true := by simp; omega
    go_enter Tryz.func54, Tryz.ntmps54
    go_wp2_with fail
    refine (hsp.out _).mono ?_
    rintro e w2 ⟨a2, c2, rfl, ho2, hb⟩
    (have hc0 := keep (p := ⟨w.heap.size, 0, none⟩) (v := .string ⟨#[]⟩) hb (by simp [go_sem, *]); have hf0 := keepf (p := ⟨w.heap.size, 0, none⟩) (v := .string ⟨#[]⟩) hb (by simp [go_sem, *]) (by simp [go_sem, *]); have hl0 := World.block_lt_of_cell? _ _ hc0; have hc1 := keep (p := ⟨w.heap.size, 1, none⟩) (v := .int .i64 0) hb (by simp [go_sem, *]); have hf1 := keepf (p := ⟨w.heap.size, 1, none⟩) (v := .int .i64 0) hb (by simp [go_sem, *]) (by simp [go_sem, *]); have hl1 := World.block_lt_of_cell? _ _ hc1; have hc2 := keep (p := ⟨w.heap.size, 2, none⟩) (v := .int .i64 0) hb (by simp [go_sem, *]); have hf2 := keepf (p := ⟨w.heap.size, 2, none⟩) (v := .int .i64 0) hb (by simp [go_sem, *]) (by simp [go_sem, *]); have hl2 := World.block_lt_of_cell? _ _ hc2; have hc3 := keep (p := ⟨w.heap.size, 3, none⟩) (v := .int .i64 0) hb (by simp [go_sem, *]); have hf3 := keepf (p := ⟨w.heap.size, 3, none⟩) (v := .int .i64 0) hb (by simp [go_sem, *]) (by simp [go_sem, *]); have hl3 := World.block_lt_of_cell? _ _ hc3)
    have hB2 := Lib.hid (bthen hb1.out hb)
    clear hb ho2
    go_wp2_with fail
    refine bodyPost_ret (v := .tuple #[.agg #[.string ⟨#[]⟩, .int .i64 0, .int .i64 0, .int .i64 0], .bool false]) (by simp [results, Tryz.results54, go_sem, *]) rfl ⟨⟨⟨#[]⟩, 0, 0, 0⟩, by rw [hf.out], fun h => by (rw [hf.out] at h; cases h), ?_⟩
    first | exact hB2.out | exact (((hB2.out.setCell (by dsimp only; omega) _).setCell (by dsimp only; omega) _).setCell (by dsimp only; omega) _).setCell (by dsimp only; omega) _
end Go.Proofs.YtmpfnkheohlmiaaGreatDoor
