/- The walk of the reference's reader of a layout's text. -/
import Derived.Test.YtmpfnkheohlmiaaGreatDoorQS
import Derived.Test.YtmpfnkheohlmiaaGreatDoorRlS
import Derived.Test.YtmpfnkheohlmiaaGreatDoorValid
import Derived.Test.YtmpfnkheohlmiaaGreatDoorQD
namespace Go.Proofs.YtmpfnkheohlmiaaGreatDoor
open Go.RowKit
set_option maxRecDepth 100000
set_option linter.unusedVariables false
set_option linter.unusedSimpArgs false
set_option linter.unnecessarySimpa false

theorem item_one' (p : Itm) : ∀ u ∈ p.cells, u.oneCell' = true := by
  intro u hu; simp only [Itm.cells, List.mem_cons, List.mem_nil_iff, or_false] at hu; rcases hu with rfl | rfl | rfl | rfl <;> rfl
theorem head6 {t : ByteArray} {b : Bool} (h : ((t.extract 0 6).toList == [119, 105, 100, 116, 104, 32]) = b) (h7 : 7 ≤ t.size) : decide (t.data.toList.take 6 = [119, 105, 100, 116, 104, 32]) = b := by
  rw [toList_eq, extract_take t 6 (by omega)] at h
  rw [← h]
  cases b <;> simp at h <;> simp [h]
theorem rl_no {s : List UInt8} (h : layOk s = false) : layW s = 0 ∧ layX s = [] ∧ layOk s = false := ⟨(lay_no h).1, (lay_no h).2, h⟩
set_option maxHeartbeats 4000000 in
theorem spec_ReadLayout (s : ByteArray) (w : World) (hs : s.size ≤ 1048576) :
    Calls Tryz.prog 15 #[.string s] w fun e w' => ∃ a' c', e = .returned (.tuple #[.agg #[.int .i64 (layW s.data.toList), .slice a' (layX s.data.toList).length c'], .bool (layOk s.data.toList)]) ∧ w'.ownsRow w.heap.size 63 4 (.slice a' (layX s.data.toList).length c') (layX s.data.toList).length (itemsV (layX s.data.toList)) ∧ Below w.heap.size w w' := by
  obtain ⟨i0, hi, hz0, hz1, hz2⟩ := info_parts Tryz.info_item
  have hb1 := Lib.hid (below_alloc (w := w) (.cells #[.int .i64 0, .slice none 0 0] 26))
  have hsp := Lib.hid (fun W => spec_l01Split s 10 W hs)
  have hcl := cutB_le 10 s
  obtain ⟨n, hn⟩ : ∃ n, (cutB 10 s).length = n + 1 := ⟨(cutB 10 s).length - 1, by have := cutB_pos 10 s; omega⟩
  obtain ⟨t0, h0⟩ := get_some (l := cutB 10 s) (k := 0) (by omega)
  obtain ⟨tl, hl⟩ := get_some (l := cutB 10 s) (k := n) (by omega)
  obtain ⟨hh, hsh⟩ := shape_is hn h0 hl
  have hread := Lib.hid (fun (W : World) (a : Option Addr) (h : RS W a (cutB 10 s)) => And.intro (h.at h0) (h.at hl))
  have hone := Lib.hid (fun (W : World) (a : Option Addr) (h : RS W a (cutB 10 s)) (k : Nat) (t : ByteArray) (hk : (cutB 10 s)[k]? = some t) => h.at hk)
  have h0s := cutB_part h0
  have hsp' := hsp.out
  rw [hn] at hsp'
  have hsp2 := Lib.hid hsp'
  have hnl : n ≤ 1048576 := by omega
  clear hsp hsp' hcl
  by_cases g1 : 1 ≤ n
  · by_cases g2 : n ≤ 13
    · have hn1 : ((n + 1 : Nat) : Int) - 1 = (n : Int) := by omega
      by_cases g3 : tl.size = 0
      · obtain ⟨e1, e2⟩ := empty_text g3
        by_cases g4 : 7 ≤ t0.size
        · cases g5 : ((t0.extract 0 6).toList == [119, 105, 100, 116, 104, 32])
          · have g6 := head6 g5 g4
            have hno := Lib.hid (rl_no (layOk_shape (s := s.data.toList) (by rw [hsh]; rw [g6]; simp)))
            clear hsh hh h0 hl hn
            go_enter Tryz.func15, Tryz.ntmps15
            go_wp2_with fail
            refine (hsp2.out _).mono ?_
            rintro e w2 ⟨a2, c2, rfl, ho2, hb⟩
            obtain ⟨⟨bw, ow, rfl, d0⟩, ⟨b1_, o1_, e1, d1⟩⟩ := hread.out _ _ (rs_own ho2)
            simp only [Option.some.injEq, Addr.mk.injEq, and_true] at e1
            obtain ⟨rfl, rfl⟩ := e1
            rw [Nat.add_zero] at d0
            (have hc0 := keep (p := ⟨w.heap.size, 0, none⟩) (v := .int .i64 0) hb (by simp [go_sem, *]); have hf0 := keepf (p := ⟨w.heap.size, 0, none⟩) (v := .int .i64 0) hb (by simp [go_sem, *]) (by simp [go_sem, *]); have hl0 := World.block_lt_of_cell? _ _ hc0; have hc1 := keep (p := ⟨w.heap.size, 1, none⟩) (v := .slice none 0 0) hb (by simp [go_sem, *]); have hf1 := keepf (p := ⟨w.heap.size, 1, none⟩) (v := .slice none 0 0) hb (by simp [go_sem, *]) (by simp [go_sem, *]); have hl1 := World.block_lt_of_cell? _ _ hc1)
            have hB := Lib.hid (bthen hb1.out hb)
            have hrs := Lib.hid (rs_own ho2)
            clear hb ho2
            go_wp2_with fail
            refine bodyPost_ret (v := .tuple #[.agg #[.int .i64 0, .slice none 0 0], .bool false]) (by simp [results, Tryz.results15, go_sem, *]) rfl ⟨none, 0, by rw [hno.out.1, hno.out.2.1, hno.out.2.2]; rfl, by rw [hno.out.2.1]; exact World.ownsRow_nil _ _ _ _, (hB.out.setCell (by dsimp only; omega) _).setCell (by dsimp only; omega) _⟩
          · have g6 := head6 g5 g4
            have hsh1 := Lib.hid (show shapeP s.data.toList = true by rw [hsh, g6, decide_eq_true g1, decide_eq_true g2, decide_eq_true g3, decide_eq_true g4]; rfl)
            have hnum := Lib.hid (fun W => spec_l01Number (t0.extract 6 t0.size) W (by (have : (t0.extract 6 t0.size).size ≤ t0.size := by rw [ByteArray.size_extract]; omega); omega))
            have hdr : (headP s.data.toList).drop 6 = (t0.extract 6 t0.size).data.toList := by rw [hh, extract_drop]
            have hst1 := Lib.hid (RsYes.start (s := s.data.toList))
            have hst2 := Lib.hid (RsNo.start (s := s.data.toList))
            have hdone := Lib.hid (fun (k : Nat) (xs : List Itm) (h : RsYes s.data.toList k true xs) (hk : k = n) => rs_done hsh1.out h (by rw [← cutB_length, hn, hk]) (by omega))
            rw [hdr] at hst1 hst2 hdone
            generalize hRQ : readL (t0.extract 6 t0.size).data.toList = RQ at *
            generalize readI (t0.extract 6 t0.size).data.toList = WQ at *
            have hlen := Lib.hid (show (cutL 10 s.data.toList).length = n + 1 by rw [← cutB_length, hn])
            clear hsh hh h0 hl hdr hRQ
            have hn' := Lib.hid hn
            clear hn
            go_enter Tryz.func15, Tryz.ntmps15
            go_wp2_with fail
            refine (hsp2.out _).mono ?_
            rintro e w2 ⟨a2, c2, rfl, ho2, hb⟩
            obtain ⟨⟨bw, ow, rfl, d0⟩, ⟨b1_, o1_, e1, d1⟩⟩ := hread.out _ _ (rs_own ho2)
            simp only [Option.some.injEq, Addr.mk.injEq, and_true] at e1
            obtain ⟨rfl, rfl⟩ := e1
            rw [Nat.add_zero] at d0
            (have hc0 := keep (p := ⟨w.heap.size, 0, none⟩) (v := .int .i64 0) hb (by simp [go_sem, *]); have hf0 := keepf (p := ⟨w.heap.size, 0, none⟩) (v := .int .i64 0) hb (by simp [go_sem, *]) (by simp [go_sem, *]); have hl0 := World.block_lt_of_cell? _ _ hc0; have hc1 := keep (p := ⟨w.heap.size, 1, none⟩) (v := .slice none 0 0) hb (by simp [go_sem, *]); have hf1 := keepf (p := ⟨w.heap.size, 1, none⟩) (v := .slice none 0 0) hb (by simp [go_sem, *]) (by simp [go_sem, *]); have hl1 := World.block_lt_of_cell? _ _ hc1)
            have hB := Lib.hid (bthen hb1.out hb)
            have hrs := Lib.hid (rs_own ho2)
            clear hb ho2
            go_wp2_with fail
            refine (hnum.out _).mono ?_
            rintro e w3 ⟨rfl, hb⟩
            (replace hf0 := keepf hb hc0 hf0; replace hc0 := keep hb hc0; replace hl0 := World.block_lt_of_cell? _ _ hc0; replace hf1 := keepf hb hc1 hf1; replace hc1 := keep hb hc1; replace hl1 := World.block_lt_of_cell? _ _ hc1)
            replace hB := Lib.hid (bthen hB.out hb)
            have hrs3 := Lib.hid (hrs.out.kept hb)
            have hw3 := hb.size
            clear hb hrs hnum hread hsp2
            go_wp2_with fail
            have hwn : w.heap.size < w3.heap.size := hl0
            have hown00 := Lib.hid ((World.ownsRow_lit (base := w3.heap.size) (e := 63) (size := 4) w3 #[] 0 (Nat.le_refl _) (by simp [maxLen]) rfl).alloc (.cells #[.int .i64 WQ, .slice (some ⟨w3.heap.size, 0, none⟩) 0 0] 26))
            have hbk0 := Lib.hid (show ((w3.alloc (.cells #[] 63)).alloc (.cells #[.int .i64 WQ, .slice (some ⟨w3.heap.size, 0, none⟩) 0 0] 26)).heap[w3.heap.size + 1]? = some (.cells #[.int .i64 WQ, .slice (some ⟨w3.heap.size, 0, none⟩) 0 0] 26 (0, 0)) by
              have h := heap_alloc_new (w3.alloc (.cells #[] 63)) (.cells #[.int .i64 WQ, .slice (some ⟨w3.heap.size, 0, none⟩) 0 0] 26)
              rw [show (w3.alloc (.cells #[] 63)).heap.size = w3.heap.size + 1 by simp] at h
              exact h)
            have hbb := Lib.hid (bthen (below_alloc (w := w3) (.cells #[] 63)) (below_alloc (.cells #[.int .i64 WQ, .slice (some ⟨w3.heap.size, 0, none⟩) 0 0] 26)))
            go_loopw [7, 9] (fun q i wr => ∃ (k m : Nat) (okb : Bool) (xs : List Itm) (a' : Option Addr) (c' : Nat), 1 ≤ k ∧ k ≤ n ∧ m + 1 = k ∧ i = .int .i64 k ∧ q = .bool okb ∧ Hid (xs.length = m) ∧ Hid (RsYes s.data.toList k okb xs) ∧ Hid (RsNo s.data.toList okb) ∧ OV w3.heap.size wr.heap.size wr 63 4 a' m c' (itemsV xs) ∧ wr.heap[w3.heap.size + 1]? = some (.cells #[.int .i64 WQ, .slice a' m c'] 26 (0, 0)) ∧ Below w3.heap.size w3 wr) (fun _ i _ => n - (intOf i).toNat)
            case atStart => exact ⟨1, 0, RQ, [], _, _, by omega, by omega, rfl, rfl, rfl, Lib.hid rfl, hst1, hst2, OV.of hown00.out, hbk0.out, hbb.out⟩
            case round =>
              obtain ⟨k, m, okb, xs, a3, c3, hk1, hkn, hmk, rfl, rfl, hxm, hy, hno, hown, hbk, hBr⟩ := hrel
              have hszr := hBr.size
              obtain ⟨q0, q1, q2, q3⟩ := blk_cell hbk
              have hsrc := Lib.hid (hrs3.out.kept hBr)
              replace hBr := Lib.hid hBr
              replace hown := Lib.hid hown
              replace hbk := Lib.hid hbk
              clear hown00 hbk0 hbb hst1 hst2 hrs3
              have hPl : w3.heap.size + 1 < wr.heap.size := World.block_lt_of_cell? _ _ q0
              have hr0 := keep hBr.out hc0
              have hr1 := keep hBr.out hc1
              have hrf0 := keepf hBr.out hc0 hf0
              have hrf1 := keepf hBr.out hc1 hf1
              have hPw : ¬ w3.heap.size + 1 = w.heap.size := by omega
              have hPw' : ¬ w.heap.size = w3.heap.size + 1 := by omega
              by_cases hlt : k < n
              · have hlt' : (k : Int) < (n : Int) := by omega
                obtain ⟨t, htk⟩ := get_some (l := cutB 10 s) (k := k) (by rw [hn'.out]; omega)
                obtain ⟨b1, o1, hab, hct⟩ := hsrc.out.at htk
                simp only [Option.some.injEq, Addr.mk.injEq, and_true] at hab
                obtain ⟨rfl, rfl⟩ := hab
                have hts := cutB_part htk
                have hline := Lib.hid (fun W => spec_l04Line t W (by omega))
                have hyn := Lib.hid (fun (y : Itm) (h : lineOk t.data.toList = true → y = lineX t.data.toList) => hy.out.next hk1 (cutB_at htk) h)
                have hnn := Lib.hid (hno.out.next hk1 (by rw [hlen.out]; omega) (cutB_at htk))
                have hm63 := Lib.hid (show m + 1 ≤ maxLen by unfold maxLen; omega)
                generalize lineOk t.data.toList = LO at *
                clear htk
                cases okb
                all_goals
                  go_wp2_with fail
                  refine (hline.out _).mono ?_
                  rintro e w4 ⟨it, rfl, hit, hb4⟩
                  have hs4 := hb4.size
                  have hbk4 := (hb4.block _ hPl).trans hbk.out
                  have hown4 := Lib.hid (hown.out.kept hb4)
                  have hne4 := Lib.hid (hown4.out.ne_block hbk4 (by decide))
                  obtain ⟨p0, p1, p2, p3⟩ := blk_cell hbk4
                  have hPl4 : w3.heap.size + 1 < w4.heap.size := by omega
                  have hB4 := Lib.hid (bthen hBr.out hb4)
                  have hyn2 := Lib.hid (hyn.out it hit)
                  have hln := Lib.hid (show (xs ++ [it]).length = m + 1 by rw [List.length_append, hxm.out]; rfl)
                  have hnews := Lib.hid (show Row ((w4.alloc (.cells #[.string it.name, .int .i64 it.kind, .int .i64 it.fr, .int .i64 it.to] 63)).alloc (.cells #[.string it.name, .int .i64 it.kind, .int .i64 it.fr, .int .i64 it.to] 63)) (some ⟨w4.heap.size + 1, 0, none⟩) it.cells by
                    have h := row_block (heap_alloc_new (w4.alloc (.cells #[.string it.name, .int .i64 it.kind, .int .i64 it.fr, .int .i64 it.to] 63)) (.cells #[.string it.name, .int .i64 it.kind, .int .i64 it.fr, .int .i64 it.to] 63))
                    rw [show (w4.alloc (.cells #[.string it.name, .int .i64 it.kind, .int .i64 it.fr, .int .i64 it.to] 63)).heap.size = w4.heap.size + 1 by simp] at h
                    exact h)
                  replace hbk4 := Lib.hid hbk4
                  clear hb4 hit
                  go_wp2_with (at_builtin; refine wpList_append_own _ rfl _ _ 24 rfl w3.heap.size 63 i0 _ 4 40 Tryz.underlying24 hi hz0 hz1 hz2 rfl (by decide) _ m (itemsV xs) rfl ((hown4.out.1.alloc _).alloc _) ⟨w4.heap.size + 1, 0, none⟩ 1 1 it.cells rfl rfl (Row.add hnews.out) (item_one' it) hm63.out (by omega) (by simp only [World.size_alloc]; omega) ?_; intro v5 w5 hown5 hg5 _; have hz5 := Lib.hid (blk_far ((heap_alloc_old _ _ (by simp only [World.size_alloc]; omega)).trans ((heap_alloc_old _ _ hPl4).trans hbk4.out)) hg5 (own_ne hne4.out)); have hb5 := Lib.hid (((hB4.out.alloc (by omega) _).alloc (by simp only [World.size_alloc]; omega) _).grown hg5 (by simp only [World.size_alloc]; omega) (fun k hk => (hown4.out.1.lt k hk).1)); obtain ⟨a5, c5, hv5, _, _⟩ := own_slice hown5; subst hv5; have hown5' := Lib.hid hown5; obtain ⟨r0, r1, r2, r3⟩ := blk_cell hz5.out; clear hown5 hg5)
                  go_roundw
                  case rel => exact ⟨k + 1, m + 1, _, xs ++ [it], a5, c5, by omega, by omega, by omega, by go_num, rfl, hln, hyn2, hnn, OV.of ((OV.of (by rw [itemsV_append, itemsV_one]; exact hown5'.out)).far hz5.out (by decide) 1 _).1, (by rw [← hmk]; exact blk_set hz5.out 1 _), hb5.out.setCell (by dsimp only; omega) _⟩
                  case measure => simp [intOf]; omega
              · obtain rfl : k = n := by omega
                cases okb
                · replace hno := Lib.hid (rl_no (hno.out rfl))
                  have hBx := Lib.hid (bthen hB.out hBr.out)
                  go_wp2_with fail
                  refine bodyPost_ret (v := .tuple #[.agg #[.int .i64 0, .slice none 0 0], .bool false]) (by simp [results, Tryz.results15, go_sem, *]) rfl ⟨none, 0, by rw [hno.out.1, hno.out.2.1, hno.out.2.2]; rfl, by rw [hno.out.2.1]; exact World.ownsRow_nil _ _ _ _, (hBx.out.setCell (by dsimp only; omega) _).setCell (by dsimp only; omega) _⟩
                · obtain ⟨z1, z2, z3⟩ := hdone.out k xs hy.out rfl
                  obtain rfl := hxm.out
                  have hval := Lib.hid (spec_l04Ok (w3.heap.size + 1) WQ a3 c3 xs wr q0 q1 hown.out.row (by rw [len_bytes] at z1; omega))
                  cases hv : validLayB WQ xs
                  · rw [hv] at z2
                    replace hno := Lib.hid (rl_no z2)
                    rw [hv] at hval
                    clear hdone z1 z2 z3
                    go_wp2_with fail
                    refine hval.out.mono ?_
                    rintro e w4 ⟨rfl, hb⟩
                    have hr2 := keep hb hr0
                    have hr3 := keep hb hr1
                    have hrf2 := keepf hb hr0 hrf0
                    have hrf3 := keepf hb hr1 hrf1
                    have hBx := Lib.hid (bthen hB.out (bthen hBr.out hb))
                    go_wp2_with fail
                    refine bodyPost_ret (v := .tuple #[.agg #[.int .i64 0, .slice none 0 0], .bool false]) (by simp [results, Tryz.results15, go_sem, *]) rfl ⟨none, 0, by rw [hno.out.1, hno.out.2.1, hno.out.2.2]; rfl, by rw [hno.out.2.1]; exact World.ownsRow_nil _ _ _ _, (hBx.out.setCell (by dsimp only; omega) _).setCell (by dsimp only; omega) _⟩
                  · rw [hv] at z2
                    rw [hv] at hval
                    obtain ⟨y1, y2⟩ := z3 z2
                    have hyes := Lib.hid (And.intro y1 (And.intro y2 z2))
                    clear hdone z1 z2 z3 y1 y2
                    go_wp2_with fail
                    refine hval.out.mono ?_
                    rintro e w4 ⟨rfl, hb⟩
                    have hr2 := keep hb hr0
                    have hr3 := keep hb hr1
                    have hrf2 := keepf hb hr0 hrf0
                    have hrf3 := keepf hb hr1 hrf1
                    have hq2 := keep hb q0
                    have hq3 := keep hb q1
                    have hBx := Lib.hid (bthen hB.out (bthen hBr.out hb))
                    have hown4 := Lib.hid (hown.out.kept hb)
                    clear hb
                    go_wp2_with fail
                    refine bodyPost_ret (v := .tuple #[.agg #[.int .i64 WQ, .slice a3 xs.length c3], .bool true]) (by simp [results, Tryz.results15, go_sem, *]) rfl ⟨a3, c3, by rw [hyes.out.1, hyes.out.2.1, hyes.out.2.2], ?_, (hBx.out.setCell (by dsimp only; omega) _).setCell (by dsimp only; omega) _⟩
                    rw [hyes.out.2.1]
                    exact own_mono (ownsRow_setCell_below (ownsRow_setCell_below hown4.out.1 (by dsimp only; omega) _) (by dsimp only; omega) _) (by omega)
        · have hno := Lib.hid (rl_no (layOk_shape (s := s.data.toList) (by rw [hsh]; rw [decide_eq_false g4]; simp)))
          clear hsh hh h0 hl hn
          go_enter Tryz.func15, Tryz.ntmps15
          go_wp2_with fail
          refine (hsp2.out _).mono ?_
          rintro e w2 ⟨a2, c2, rfl, ho2, hb⟩
          obtain ⟨⟨bw, ow, rfl, d0⟩, ⟨b1_, o1_, e1, d1⟩⟩ := hread.out _ _ (rs_own ho2)
          simp only [Option.some.injEq, Addr.mk.injEq, and_true] at e1
          obtain ⟨rfl, rfl⟩ := e1
          rw [Nat.add_zero] at d0
          (have hc0 := keep (p := ⟨w.heap.size, 0, none⟩) (v := .int .i64 0) hb (by simp [go_sem, *]); have hf0 := keepf (p := ⟨w.heap.size, 0, none⟩) (v := .int .i64 0) hb (by simp [go_sem, *]) (by simp [go_sem, *]); have hl0 := World.block_lt_of_cell? _ _ hc0; have hc1 := keep (p := ⟨w.heap.size, 1, none⟩) (v := .slice none 0 0) hb (by simp [go_sem, *]); have hf1 := keepf (p := ⟨w.heap.size, 1, none⟩) (v := .slice none 0 0) hb (by simp [go_sem, *]) (by simp [go_sem, *]); have hl1 := World.block_lt_of_cell? _ _ hc1)
          have hB := Lib.hid (bthen hb1.out hb)
          have hrs := Lib.hid (rs_own ho2)
          clear hb ho2
          go_wp2_with fail
          refine bodyPost_ret (v := .tuple #[.agg #[.int .i64 0, .slice none 0 0], .bool false]) (by simp [results, Tryz.results15, go_sem, *]) rfl ⟨none, 0, by rw [hno.out.1, hno.out.2.1, hno.out.2.2]; rfl, by rw [hno.out.2.1]; exact World.ownsRow_nil _ _ _ _, (hB.out.setCell (by dsimp only; omega) _).setCell (by dsimp only; omega) _⟩
      · obtain ⟨e1, e2⟩ := full_text g3
        have hno := Lib.hid (rl_no (layOk_shape (s := s.data.toList) (by rw [hsh]; rw [decide_eq_false g3]; simp)))
        clear hsh hh h0 hl hn
        go_enter Tryz.func15, Tryz.ntmps15
        go_wp2_with fail
        refine (hsp2.out _).mono ?_
        rintro e w2 ⟨a2, c2, rfl, ho2, hb⟩
        obtain ⟨⟨bw, ow, rfl, d0⟩, ⟨b1_, o1_, e1, d1⟩⟩ := hread.out _ _ (rs_own ho2)
        simp only [Option.some.injEq, Addr.mk.injEq, and_true] at e1
        obtain ⟨rfl, rfl⟩ := e1
        rw [Nat.add_zero] at d0
        (have hc0 := keep (p := ⟨w.heap.size, 0, none⟩) (v := .int .i64 0) hb (by simp [go_sem, *]); have hf0 := keepf (p := ⟨w.heap.size, 0, none⟩) (v := .int .i64 0) hb (by simp [go_sem, *]) (by simp [go_sem, *]); have hl0 := World.block_lt_of_cell? _ _ hc0; have hc1 := keep (p := ⟨w.heap.size, 1, none⟩) (v := .slice none 0 0) hb (by simp [go_sem, *]); have hf1 := keepf (p := ⟨w.heap.size, 1, none⟩) (v := .slice none 0 0) hb (by simp [go_sem, *]) (by simp [go_sem, *]); have hl1 := World.block_lt_of_cell? _ _ hc1)
        have hB := Lib.hid (bthen hb1.out hb)
        have hrs := Lib.hid (rs_own ho2)
        clear hb ho2
        go_wp2_with fail
        refine bodyPost_ret (v := .tuple #[.agg #[.int .i64 0, .slice none 0 0], .bool false]) (by simp [results, Tryz.results15, go_sem, *]) rfl ⟨none, 0, by rw [hno.out.1, hno.out.2.1, hno.out.2.2]; rfl, by rw [hno.out.2.1]; exact World.ownsRow_nil _ _ _ _, (hB.out.setCell (by dsimp only; omega) _).setCell (by dsimp only; omega) _⟩
    · have hno := Lib.hid (rl_no (layOk_shape (s := s.data.toList) (by rw [hsh]; rw [decide_eq_false g2]; simp)))
      clear hsh hh h0 hl hn
      go_enter Tryz.func15, Tryz.ntmps15
      go_wp2_with fail
      refine (hsp2.out _).mono ?_
      rintro e w2 ⟨a2, c2, rfl, ho2, hb⟩
      obtain ⟨⟨bw, ow, rfl, d0⟩, ⟨b1_, o1_, e1, d1⟩⟩ := hread.out _ _ (rs_own ho2)
      simp only [Option.some.injEq, Addr.mk.injEq, and_true] at e1
      obtain ⟨rfl, rfl⟩ := e1
      rw [Nat.add_zero] at d0
      (have hc0 := keep (p := ⟨w.heap.size, 0, none⟩) (v := .int .i64 0) hb (by simp [go_sem, *]); have hf0 := keepf (p := ⟨w.heap.size, 0, none⟩) (v := .int .i64 0) hb (by simp [go_sem, *]) (by simp [go_sem, *]); have hl0 := World.block_lt_of_cell? _ _ hc0; have hc1 := keep (p := ⟨w.heap.size, 1, none⟩) (v := .slice none 0 0) hb (by simp [go_sem, *]); have hf1 := keepf (p := ⟨w.heap.size, 1, none⟩) (v := .slice none 0 0) hb (by simp [go_sem, *]) (by simp [go_sem, *]); have hl1 := World.block_lt_of_cell? _ _ hc1)
      have hB := Lib.hid (bthen hb1.out hb)
      have hrs := Lib.hid (rs_own ho2)
      clear hb ho2
      go_wp2_with fail
      refine bodyPost_ret (v := .tuple #[.agg #[.int .i64 0, .slice none 0 0], .bool false]) (by simp [results, Tryz.results15, go_sem, *]) rfl ⟨none, 0, by rw [hno.out.1, hno.out.2.1, hno.out.2.2]; rfl, by rw [hno.out.2.1]; exact World.ownsRow_nil _ _ _ _, (hB.out.setCell (by dsimp only; omega) _).setCell (by dsimp only; omega) _⟩
  · have hno := Lib.hid (rl_no (layOk_shape (s := s.data.toList) (by rw [hsh]; rw [decide_eq_false g1]; simp)))
    clear hsh hh h0 hl hn
    go_enter Tryz.func15, Tryz.ntmps15
    go_wp2_with fail
    refine (hsp2.out _).mono ?_
    rintro e w2 ⟨a2, c2, rfl, ho2, hb⟩
    obtain ⟨⟨bw, ow, rfl, d0⟩, ⟨b1_, o1_, e1, d1⟩⟩ := hread.out _ _ (rs_own ho2)
    simp only [Option.some.injEq, Addr.mk.injEq, and_true] at e1
    obtain ⟨rfl, rfl⟩ := e1
    rw [Nat.add_zero] at d0
    (have hc0 := keep (p := ⟨w.heap.size, 0, none⟩) (v := .int .i64 0) hb (by simp [go_sem, *]); have hf0 := keepf (p := ⟨w.heap.size, 0, none⟩) (v := .int .i64 0) hb (by simp [go_sem, *]) (by simp [go_sem, *]); have hl0 := World.block_lt_of_cell? _ _ hc0; have hc1 := keep (p := ⟨w.heap.size, 1, none⟩) (v := .slice none 0 0) hb (by simp [go_sem, *]); have hf1 := keepf (p := ⟨w.heap.size, 1, none⟩) (v := .slice none 0 0) hb (by simp [go_sem, *]) (by simp [go_sem, *]); have hl1 := World.block_lt_of_cell? _ _ hc1)
    have hB := Lib.hid (bthen hb1.out hb)
    have hrs := Lib.hid (rs_own ho2)
    clear hb ho2
    go_wp2_with fail
    refine bodyPost_ret (v := .tuple #[.agg #[.int .i64 0, .slice none 0 0], .bool false]) (by simp [results, Tryz.results15, go_sem, *]) rfl ⟨none, 0, by rw [hno.out.1, hno.out.2.1, hno.out.2.2]; rfl, by rw [hno.out.2.1]; exact World.ownsRow_nil _ _ _ _, (hB.out.setCell (by dsimp only; omega) _).setCell (by dsimp only; omega) _⟩
end Go.Proofs.YtmpfnkheohlmiaaGreatDoor
