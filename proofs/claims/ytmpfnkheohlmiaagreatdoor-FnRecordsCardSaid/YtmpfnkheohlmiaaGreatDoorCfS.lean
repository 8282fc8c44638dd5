/- The walk of the reference's function that punches a card of all values. -/
import Derived.Test.YtmpfnkheohlmiaaGreatDoorCf
namespace Go.Proofs.YtmpfnkheohlmiaaGreatDoor
open Go.RowKit
set_option maxRecDepth 100000
set_option linter.unusedVariables false
set_option linter.unusedSimpArgs false
set_option linter.unnecessarySimpa false

set_option maxHeartbeats 4000000 in
theorem spec_CardFor (wd : Int) (a : Option Addr) (c : Nat) (xs : List Itm) (b : Option Addr) (d : Nat) (vs : List ByteArray) (w : World) (hx : RT w a xs) (hv : RS w b vs) (hn : itemsSz xs ≤ 1048576) (hcap : xs.length ≤ c) (hn2 : textsSz vs ≤ 1048576) :
    Calls Tryz.prog 7 #[.agg #[.int .i64 wd, .slice a xs.length c], .slice b vs.length d] w fun e w' => ∃ a' c', e = .returned (.tuple #[.agg #[.slice a' (cfL wd xs vs).length c'], .int .i64 (cfCode wd xs vs)]) ∧ w'.ownsRow w.heap.size 2 1 (.slice a' (cfL wd xs vs).length c') (cfL wd xs vs).length ((cfL wd xs vs).map (Value.int .i64)) ∧ Below w.heap.size w w' := by
  have hb1 := Lib.hid (below_alloc2 w (.cells #[.int .i64 wd, .slice a xs.length c] 26) (.cells #[.slice none 0 0] 32))
  have hca : ((w.alloc (.cells #[.int .i64 wd, .slice a xs.length c] 26)).alloc (.cells #[.slice none 0 0] 32)).cell? ⟨w.heap.size, 0, none⟩ = some (.int .i64 wd) := by simp [go_sem]
  have hcb : ((w.alloc (.cells #[.int .i64 wd, .slice a xs.length c] 26)).alloc (.cells #[.slice none 0 0] 32)).cell? ⟨w.heap.size, 1, none⟩ = some (.slice a xs.length c) := by simp [go_sem]
  have hval := Lib.hid (spec_l04Ok w.heap.size wd a c xs _ hca hcb (hx.kept hb1.out) hn)
  clear hca hcb
  have hsl := textsSz_len vs
  have hxl := itemsSz_len xs
  cases hvl : validLayB wd xs
  · have hf := Lib.hid (cfv_1 vs hvl)
    rw [hvl] at hval
    go_enter Tryz.func7, Tryz.ntmps7
    go_wp2_with fail
    refine hval.out.mono ?_
    rintro e w2 ⟨rfl, hb⟩
    (have hc0 := keep (p := ⟨w.heap.size + 1, 0, none⟩) (v := .slice none 0 0) hb (by simp [go_sem, *]); have hf0 := keepf (p := ⟨w.heap.size + 1, 0, none⟩) (v := .slice none 0 0) hb (by simp [go_sem, *]) (by simp [go_sem, *]); have hl0 := World.block_lt_of_cell? _ _ hc0)
    have hB2 := Lib.hid (bthen hb1.out hb)
    clear hb
    go_wp2_with fail
    refine bodyPost_ret (v := .tuple #[.agg #[.slice none 0 0], .int .i64 1]) (by simp [results, Tryz.results7, go_sem, *]) rfl ⟨none, 0, by rw [hf.out.1, hf.out.2]; rfl, by rw [hf.out.1]; exact World.ownsRow_nil _ _ _ _, ?_⟩
    first | exact hB2.out | exact hB2.out.setCell (by dsimp only; omega) _
  rw [hvl] at hval
  by_cases hlen : vs.length = xs.length
  · obtain ⟨w1_, w2_, w3_, _⟩ := validLay_is hvl
    obtain ⟨m, rfl⟩ := Int.eq_ofNat_of_zero_le (show 0 ≤ wd by omega)
    have hne : ((vs.length : Int) != (xs.length : Int)) = false := by rw [hlen]; simp
    have hflds := Lib.hid (fun (x : Itm) (hxm : x ∈ xs) => (show fieldB x.fr x.to m = true by
      obtain ⟨q1, q2, q3⟩ := itemB_field (validLay_item hvl hxm)
      exact fieldB_ok q1 q2 (by omega)))
    have hbad := Lib.hid (fun (k : Nat) (x : Itm) (v : ByteArray) h1 h2 h3 h4 => cfv_bad (k := k) (x := x) (v := v) hvl hlen h1 h2 h3 h4)
    have hok := Lib.hid (fun h => cfv_ok hvl hlen h)
    rw [Int.toNat_natCast] at hok
    have hln := Lib.hid (fun k h1 h2 => cfUp_len (m := m) (vs := vs) hflds.out hlen k h1 h2)
    have hxs := Lib.hid hx
    have hvs := Lib.hid hv
    obtain ⟨i0, hi0, hz0, hz1, hz2⟩ := info_parts Tryz.info_int64
    have hm := Lib.hid (show m ≤ maxLen by simp [maxLen]; omega)
    clear hvl hx hv
    go_enter Tryz.func7, Tryz.ntmps7
    go_wp2_with fail
    refine hval.out.mono ?_
    rintro e w2 ⟨rfl, hb⟩
    (have hc0 := keep (p := ⟨w.heap.size, 0, none⟩) (v := .int .i64 m) hb (by simp [go_sem, *]); have hf0 := keepf (p := ⟨w.heap.size, 0, none⟩) (v := .int .i64 m) hb (by simp [go_sem, *]) (by simp [go_sem, *]); have hl0 := World.block_lt_of_cell? _ _ hc0; have hc1 := keep (p := ⟨w.heap.size, 1, none⟩) (v := .slice a xs.length c) hb (by simp [go_sem, *]); have hf1 := keepf (p := ⟨w.heap.size, 1, none⟩) (v := .slice a xs.length c) hb (by simp [go_sem, *]) (by simp [go_sem, *]); have hl1 := World.block_lt_of_cell? _ _ hc1; have hc2 := keep (p := ⟨w.heap.size + 1, 0, none⟩) (v := .slice none 0 0) hb (by simp [go_sem, *]); have hf2 := keepf (p := ⟨w.heap.size + 1, 0, none⟩) (v := .slice none 0 0) hb (by simp [go_sem, *]) (by simp [go_sem, *]); have hl2 := World.block_lt_of_cell? _ _ hc2)
    have hB2 := Lib.hid (bthen hb1.out hb)
    have hl2' : w.heap.size + 1 < w2.heap.size := hl2
    clear hb
    go_wp2_with (at_make; refine wpList_make_full _ rfl _ _ 30 rfl w2.heap.size 2 i0 (.int .i64 0) 1 Tryz.underlying30 hi0 hz0 hz1 _ _ _ _ m rfl rfl rfl rfl (by rw [hz2]; omega) hm.out (Nat.le_refl _) ?_; intro w4 hown hgrow; have hbg := Lib.hid (below_grown hgrow); have hownh := Lib.hid hown; clear hown hgrow)
    have hgl : w2.heap.size < w4.heap.size := (own_at hownh.out rfl).2
    have hba := below_alloc (w := w4) (.cells #[.slice (some ⟨w2.heap.size, 0, none⟩) m m] 32)
    have ho0 : OV w2.heap.size w4.heap.size (w4.alloc (.cells #[.slice (some ⟨w2.heap.size, 0, none⟩) m m] 32)) 2 1 (some ⟨w2.heap.size, 0, none⟩) m m ((cfUp m xs vs 0).map (Value.int .i64)) := by
      rw [cfUp_zero, zerosL_vals]
      refine (OV.of ?_).kept hba
      simpa [Value.cells, toList_madeCells_one] using hownh.out
    have hcO : (w4.alloc (.cells #[.slice (some ⟨w2.heap.size, 0, none⟩) m m] 32)).cell? ⟨w4.heap.size, 0, none⟩ = some (.slice (some ⟨w2.heap.size, 0, none⟩) m m) := by simp [go_sem]
    have hBW := Lib.hid (bthen (bthen hB2.out hbg.out) hba)
    have y1 := keep hba (keep hbg.out hc1)
    have y3 := keep hba (keep hbg.out hc2)
    have yf := keepf hba (keep hbg.out hc2) (keepf hbg.out hc2 hf2)
    have hw4 : (w4.alloc (.cells #[.slice (some ⟨w2.heap.size, 0, none⟩) m m] 32)).heap.size = w4.heap.size + 1 := by simp
    clear hba hc0 hc1 hc2 hf0 hf1 hf2 hl0 hl1 hl2 hbg hownh
    go_wp2_with fail
    generalize hW : (w4.alloc (.cells #[.slice (some ⟨w2.heap.size, 0, none⟩) m m] 32)) = W at *
    clear hW
    go_loopw [7] (fun i wr => ∃ k : Nat, k ≤ xs.length ∧ i = .int .i64 k ∧ Hid (OV w2.heap.size w4.heap.size wr 2 1 (some ⟨w2.heap.size, 0, none⟩) m m ((cfUp m xs vs k).map (Value.int .i64))) ∧ Hid (((zipV xs vs).take k).all okV = true) ∧ Hid (Within w2.heap.size w4.heap.size W wr)) (fun i _ => xs.length - (intOf i).toNat)
    case atStart => exact ⟨0, by omega, rfl, Lib.hid ho0, Lib.hid rfl, Lib.hid (Within.refl _ _ _)⟩
    case round =>
      obtain ⟨k, hk, rfl, hov, hall, hwi⟩ := hrel
      have r1 := hwi.out.cell y1 (Or.inl (by dsimp only; omega))
      have r3 := hwi.out.cell y3 (Or.inl (by dsimp only; omega))
      have rf := hwi.out.frozen y3 yf (Or.inl (by dsimp only; omega))
      have rO := hwi.out.cell hcO (Or.inr (Nat.le_refl _))
      have rl := World.block_lt_of_cell? _ _ r3
      have rlO := World.block_lt_of_cell? _ _ rO
      by_cases hlt : k < xs.length
      · have hlt' : (k : Int) < (vs.length : Int) := by omega
        have hltx : (k : Int) < (xs.length : Int) := by omega
        obtain ⟨x, hxk⟩ := get_some (l := xs) (k := k) hlt
        obtain ⟨v, hvk⟩ := get_some (l := vs) (k := k) (by omega)
        obtain ⟨bx, ox, rfl, q0, q1, q2, q3⟩ := hxs.out.at hxk
        obtain ⟨bv, ov, rfl, qv⟩ := hvs.out.at hvk
        have hbx : bx < w.heap.size := World.block_lt_of_cell? _ _ q0
        have hbv : bv < w.heap.size := World.block_lt_of_cell? _ _ qv
        have p1 := hwi.out.cell (keep hBW.out q1) (Or.inl (by dsimp only; omega))
        have p2 := hwi.out.cell (keep hBW.out q2) (Or.inl (by dsimp only; omega))
        have p3 := hwi.out.cell (keep hBW.out q3) (Or.inl (by dsimp only; omega))
        have pv := hwi.out.cell (keep hBW.out qv) (Or.inl (by dsimp only; omega))
        have hfx := hflds.out x (List.mem_of_getElem? hxk)
        obtain ⟨f1, f2, f3⟩ := fieldB_yes hfx
        obtain ⟨f, hfr⟩ := Int.eq_ofNat_of_zero_le f1
        have hlk := hln.out k hk hall.out
        have hvsz := textsSz_mem (List.mem_of_getElem? hvk) hn2
        have hBr := Lib.hid (hwi.out.below hBW.out (by omega) hBW.out.size)
        have hpun := Lib.hid (fun (V : World) (hb : Below wr.heap.size wr V) => spec_l04Punch bx (ox + k * 4) x v V (keep hb p1) (keep hb p2) (keep hb p3) f1 f2 (by omega) hvsz)
        have hbd := Lib.hid (fun h => hbad.out k x v hxk hvk hall.out h)
        have hmo := Lib.hid (fun h => ok_more hxk hvk hall.out h)
        have hyes := Lib.hid (fun (h : pvCode x v = 0) => pv_yes (cfUp m xs vs k) h)
        have hnot := Lib.hid (fun (h : (pvCode x v == 0) = false) => pv_not (cfUp m xs vs k) rfl h)
        have hnx := Lib.hid (cfUp_succ (n := m) hxk hvk)
        rw [hfr, Int.toNat_natCast] at hnx
        have hpl := Lib.hid (fun (h0 : pvCode x v = 0) => (show f + (pvL x v).length ≤ m by rw [pvL_len h0 (show x.fr ≤ x.to by omega)]; unfold sizeX; omega))
        have p2' : wr.cell? ⟨bx, ox + k * 4 + 2, none⟩ = some (.int .i64 (f : Int)) := by rw [← hfr]; exact p2
        have hok1 := Lib.hid (show okV (x, v) = (pvCode x v == 0) from rfl)
        clear hxk hvk q0 q1 q2 q3 qv hfx p1 p2 f1 f2 f3 hfr
        cases hC : (pvCode x v == 0)
        · obtain ⟨n1, n2, n3⟩ := hnot.out hC
          have hf := Lib.hid (hbd.out (by rw [hok1.out]; exact hC))
          rw [n2] at hpun
          have hne2 : (pvCode x v != 0) = true := by rw [bne, hC]; rfl
          generalize pvCode x v = C at *
          go_wp2_with fail
          (first | go_region_held3 (fun W => Below wr.heap.size wr W ∧ W.cell? ⟨w.heap.size, 1, none⟩ = some (.slice (some ⟨bx, ox, none⟩) xs.length c) ∧ W.cell? ⟨bv, ov + k, none⟩ = some (.string v)) (first | exact held2 (below_drewN (Below.refl _ _) 1) r1 pv | (rename Below wr.heap.size wr _ ∧ _ => hH; refine held2 ?_ r1 pv; (refine bthen hH.1 ?_; assumption))) (first | (go_at_call 35; ((with_reducible refine (hpun.out _ (And.left ‹Below wr.heap.size wr _ ∧ _›)).mono ?_); rintro e wq0 ⟨a5, c5, rfl, hp5, hbq0⟩))) | fail)
          all_goals
            have hHb := And.left ‹Below wr.heap.size wr _ ∧ _›
            have s3 := keep hHb r3
            have sf := keepf hHb r3 rf
            have sl := World.block_lt_of_cell? _ _ s3
            have hB9 := Lib.hid (bthen hBr.out hHb)
            clear hHb
            go_wp2_with fail
            refine bodyPost_ret (v := .tuple #[.agg #[.slice none 0 0], .int .i64 C]) (by simp [results, Tryz.results7, go_sem, *]) rfl ⟨none, 0, by rw [hf.out.1, hf.out.2]; rfl, by rw [hf.out.1]; exact World.ownsRow_nil _ _ _ _, ?_⟩
            first | exact hB9.out | exact hB9.out.setCell (by dsimp only; omega) _
        · have hC0 : pvCode x v = 0 := by simpa using hC
          obtain ⟨n1, n2, n3⟩ := hyes.out hC0
          have hall2 := Lib.hid (hmo.out (by rw [hok1.out]; exact hC))
          have hfit := hpl.out hC0
          rw [n2, hC0] at hpun
          clear hC hC0 n1 n2 n3 hyes hnot hmo hbd hok1 hpl
          generalize pvL x v = P at *
          go_wp2_with fail
          (first | go_region_held3 (fun W => Below wr.heap.size wr W ∧ W.cell? ⟨w.heap.size, 1, none⟩ = some (.slice (some ⟨bx, ox, none⟩) xs.length c) ∧ W.cell? ⟨bv, ov + k, none⟩ = some (.string v)) (first | exact held2 (below_drewN (Below.refl _ _) 1) r1 pv | (rename Below wr.heap.size wr _ ∧ _ => hH; refine held2 ?_ r1 pv; (refine bthen hH.1 ?_; assumption))) (first | (go_at_call 35; ((with_reducible refine (hpun.out _ (And.left ‹Below wr.heap.size wr _ ∧ _›)).mono ?_); rintro e wq0 ⟨a5, c5, rfl, hp5, hbq0⟩))) | fail)
          all_goals
            have hHb := Lib.hid (And.left ‹Below wr.heap.size wr _ ∧ _›)
            have t1 := keep hHb.out r1
            have t2 := keep hHb.out p2'
            have t3 := keep hHb.out p3
            have tO := keep hHb.out rO
            have hrl : w4.heap.size < wr.heap.size := rlO
            have hput := Lib.hid (show Calls Tryz.prog 36 #[.pointer (some ⟨w4.heap.size, 0, none⟩), .agg #[.int .i64 f, .int .i64 x.to], .slice a5 P.length c5] wq0 fun e w' => e = .returned (.tuple #[]) ∧ OV w2.heap.size w4.heap.size w' 2 1 (some ⟨w2.heap.size, 0, none⟩) m m ((cfUp m xs vs (k + 1)).map (Value.int .i64)) ∧ Within w2.heap.size w4.heap.size wq0 w' by
              have hov2 := hov.out.kept hHb.out
              have h := spec_l04Put w4.heap.size w2.heap.size w2.heap.size w4.heap.size m (cfUp m xs vs k) f x.to a5 c5 P wq0 (by rw [hlk]; exact tO) (Or.inr (Nat.le_refl _)) (by have := hHb.out.size; omega) (by rw [hlk]; exact hov2) (own_RI hp5) (fun p hp => Or.inr (by have h1 := (own_at hp5 hp).1; have h2 : wr.heap.size ≤ p.block := h1; omega)) (by rw [hlk]; exact hfit) (by rw [hlk]; omega)
              rw [hlk, ← hnx.out] at h
              exact h)
            have hz9 := hHb.out.size
            clear hp5
            go_wp2_with fail
            refine hput.out.mono ?_
            rintro e w6 ⟨rfl, hov6, hwi6⟩
            go_wp2_with fail
            go_roundw
            case rel => exact ⟨k + 1, by omega, by go_num, Lib.hid hov6, hall2, Lib.hid ((hwi.out.trans (Within.of_below hHb.out)).trans hwi6)⟩
            case measure => simp [intOf]; omega
      · obtain rfl : k = xs.length := by omega
        have hge' : ¬ (xs.length : Int) < (vs.length : Int) := by omega
        have hf := Lib.hid (hok.out hall.out)
        have hlk := Lib.hid (hln.out _ (Nat.le_refl _) hall.out)
        have hBr := Lib.hid (hwi.out.below hBW.out (by omega) hBW.out.size)
        have hne9 : ¬ w.heap.size + 1 = w4.heap.size := by omega
        go_wp2_with fail
        refine bodyPost_ret (v := .tuple #[.agg #[.slice (some ⟨w2.heap.size, 0, none⟩) m m], .int .i64 0]) (by simp [results, Tryz.results7, go_sem, *]) rfl ⟨some ⟨w2.heap.size, 0, none⟩, m, by rw [hf.out.1, hf.out.2, hlk.out], ?_, hBr.out.setCell (by dsimp only; omega) _⟩
        rw [hf.out.1, hlk.out]
        exact own_mono (ownsRow_setCell_below hov.out.1 (by dsimp only; omega) _) (by omega)
  · have hf := Lib.hid (cfv_2 hvl hlen)
    have hne : ((vs.length : Int) != (xs.length : Int)) = true := by simp; omega
    go_enter Tryz.func7, Tryz.ntmps7
    go_wp2_with fail
    refine hval.out.mono ?_
    rintro e w2 ⟨rfl, hb⟩
    (have hc0 := keep (p := ⟨w.heap.size, 0, none⟩) (v := .int .i64 wd) hb (by simp [go_sem, *]); have hf0 := keepf (p := ⟨w.heap.size, 0, none⟩) (v := .int .i64 wd) hb (by simp [go_sem, *]) (by simp [go_sem, *]); have hl0 := World.block_lt_of_cell? _ _ hc0; have hc1 := keep (p := ⟨w.heap.size, 1, none⟩) (v := .slice a xs.length c) hb (by simp [go_sem, *]); have hf1 := keepf (p := ⟨w.heap.size, 1, none⟩) (v := .slice a xs.length c) hb (by simp [go_sem, *]) (by simp [go_sem, *]); have hl1 := World.block_lt_of_cell? _ _ hc1; have hc2 := keep (p := ⟨w.heap.size + 1, 0, none⟩) (v := .slice none 0 0) hb (by simp [go_sem, *]); have hf2 := keepf (p := ⟨w.heap.size + 1, 0, none⟩) (v := .slice none 0 0) hb (by simp [go_sem, *]) (by simp [go_sem, *]); have hl2 := World.block_lt_of_cell? _ _ hc2)
    have hB2 := Lib.hid (bthen hb1.out hb)
    clear hb
    go_wp2_with fail
    refine bodyPost_ret (v := .tuple #[.agg #[.slice none 0 0], .int .i64 2]) (by simp [results, Tryz.results7, go_sem, *]) rfl ⟨none, 0, by rw [hf.out.1, hf.out.2]; rfl, by rw [hf.out.1]; exact World.ownsRow_nil _ _ _ _, ?_⟩
    first | exact hB2.out | exact hB2.out.setCell (by dsimp only; omega) _
end Go.Proofs.YtmpfnkheohlmiaaGreatDoor
