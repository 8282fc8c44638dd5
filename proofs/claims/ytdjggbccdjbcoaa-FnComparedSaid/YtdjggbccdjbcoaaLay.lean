/- The walks of the function that lays a card over another, in both packages: what it returns, and that memory has at most new blocks. -/
import Derived.Test.YtdjggbccdjbcoaaHole
import Derived.Deep.RegionHeld3
namespace Go.Proofs.Ytdjggbccdjbcoaa
open Go.RowKit
set_option maxRecDepth 100000
set_option linter.unusedVariables false
set_option linter.unusedSimpArgs false
set_option linter.unnecessarySimpa false

theorem Within.frozen {lo hi : Nat} {w w' : World} (h : Within lo hi w w') {p : Addr} {v : Value} (hc : w.cell? p = some v) (hf : w.frozen? p = false) (hp : p.block < lo ∨ hi ≤ p.block) : w'.frozen? p = false :=
  (World.frozen?_of_block (w := w) (h.block p.block (World.block_lt_of_cell? w p hc) (fun e => by omega))).trans hf
/-! ### a row of which the first j are new -/
def upto (f xs : List Int) (j : Nat) : List Int := f.take j ++ xs.drop j
theorem upto_zero (f xs : List Int) : upto f xs 0 = xs := by simp [upto]
theorem upto_all (f xs : List Int) {j : Nat} (h : f.length = xs.length) (hj : j = xs.length) : upto f xs j = f := by rw [upto, List.take_of_length_le (by omega), List.drop_of_length_le (by omega)]; simp
theorem upto_length (f xs : List Int) {j : Nat} (h : f.length = xs.length) (hj : j ≤ xs.length) : (upto f xs j).length = xs.length := by simp [upto]; omega
theorem upto_at (f xs : List Int) {j : Nat} {x : Int} (h : f.length = xs.length) (hx : xs[j]? = some x) : (upto f xs j)[j]? = some x := by
  have hlt := (List.getElem?_eq_some_iff.1 hx).1
  rw [upto, List.getElem?_append_right (by simp; omega)]
  simp [List.length_take, h, Nat.min_eq_left (Nat.le_of_lt hlt), hx]
theorem upto_set (f xs : List Int) {j : Nat} {v : Int} (h : f.length = xs.length) (hv : f[j]? = some v) : ((upto f xs j).map (Value.int .i64)).set j (.int .i64 v) = (upto f xs (j + 1)).map (Value.int .i64) := by
  obtain ⟨hlt, hg⟩ := List.getElem?_eq_some_iff.1 hv
  have hl : (f.take j).length = j := by simp; omega
  rw [upto, upto, List.map_append, List.set_append_right _ _ (by rw [List.length_map, hl]; exact Nat.le_refl _), List.length_map, hl, Nat.sub_self, List.drop_eq_getElem_cons (by omega), List.map_cons, List.set_cons_zero, List.take_add_one, hv]
  simp

/-- two cards, hole over hole -/
def orL (x y : List Int) : List Int := List.zipWith orI x y
theorem orL_length {x y : List Int} (h : x.length = y.length) : (orL x y).length = x.length := by simp [orL, h]
theorem orL_at {x y : List Int} {j : Nat} {u v : Int} (hu : x[j]? = some u) (hv : y[j]? = some v) : (orL x y)[j]? = some (bits BinOp.or IntKind.i64 u v) := by simp [orL, List.getElem?_zipWith, hu, hv, orI]
def overlayCode (x y : List Int) : Int := if validCardL x && validCardL y then (if x.length == y.length then 0 else 6) else 1
def overlayL (x y : List Int) : List Int := if overlayCode x y == 0 then orL x y else []
theorem overlay_bad1 {x : List Int} (y : List Int) (h : validCardL x = false) : overlayCode x y = 1 ∧ overlayL x y = [] := by
  have h1 : overlayCode x y = 1 := by unfold overlayCode; rw [h]; rfl
  exact ⟨h1, by unfold overlayL; rw [h1]; rfl⟩
theorem overlay_bad2 (x : List Int) {y : List Int} (h : validCardL y = false) : overlayCode x y = 1 ∧ overlayL x y = [] := by
  have h1 : overlayCode x y = 1 := by unfold overlayCode; rw [h]; simp
  exact ⟨h1, by unfold overlayL; rw [h1]; rfl⟩
theorem overlay_state {x y : List Int} (h : validCardL x = true) (h2 : validCardL y = true) (h3 : ¬ x.length = y.length) : overlayCode x y = 6 ∧ overlayL x y = [] := by
  have h1 : overlayCode x y = 6 := by unfold overlayCode; rw [h, h2]; simp [h3]
  exact ⟨h1, by unfold overlayL; rw [h1]; rfl⟩
theorem overlay_ok {x y : List Int} (h : validCardL x = true) (h2 : validCardL y = true) (h3 : x.length = y.length) : overlayCode x y = 0 ∧ overlayL x y = orL x y := by
  have h1 : overlayCode x y = 0 := by unfold overlayCode; rw [h, h2]; simp [h3]
  exact ⟨h1, by unfold overlayL; rw [h1]; rfl⟩
theorem overlayL_len (x y : List Int) : (overlayL x y).length ≤ 1048576 := by
  cases h : validCardL x
  · rw [(overlay_bad1 y h).2]; simp
  · cases h2 : validCardL y
    · rw [(overlay_bad2 x h2).2]; simp
    · by_cases h3 : x.length = y.length
      · rw [(overlay_ok h h2 h3).2, orL_length h3]; have := validCard_len h; omega
      · rw [(overlay_state h h2 h3).2]; simp
set_option maxHeartbeats 1000000 in
theorem impl_Overlay (a : Option Addr) (c : Nat) (x : List Int) (b : Option Addr) (d : Nat) (y : List Int) (w : World) (hx : RI w a x) (hy : RI w b y) (h1 : x.length ≤ maxLen) (h2 : y.length ≤ maxLen) :
    Calls Try.prog 40 #[.agg #[.slice a x.length c], .agg #[.slice b y.length d]] w fun e w' => ∃ a' c', e = .returned (.tuple #[.agg #[.slice a' (overlayL x y).length c'], .int .i64 (overlayCode x y)]) ∧ w'.ownsRow w.heap.size 2 1 (.slice a' (overlayL x y).length c') (overlayL x y).length ((overlayL x y).map (Value.int .i64)) ∧ Below w.heap.size w w' := by
  have hb1 := Lib.hid (below_alloc3 w (.cells #[.slice a x.length c] 48) (.cells #[.slice b y.length d] 48) (.cells #[.slice none 0 0] 48))
  have hm1 : x.length ≤ 9223372036854775807 := by simpa [maxLen] using h1
  have hm2 : y.length ≤ 9223372036854775807 := by simpa [maxLen] using h2
  cases hv : validCardL x
  · have hf := Lib.hid (overlay_bad1 y hv)
    go_enter Try.func40, Try.ntmps40
    go_wp2_with (go_at_call 81; ((with_reducible refine (impl_ValidCard a c x _ (hx.kept hb1.out) h1).mono ?_); rintro e w' ⟨rfl, hb⟩; (have hc0 := keep (p := ⟨w.heap.size + 2, 0, none⟩) (v := .slice none 0 0) hb (by simp [go_sem, *]); have hf0 := keepf (p := ⟨w.heap.size + 2, 0, none⟩) (v := .slice none 0 0) hb (by simp [go_sem, *]) (by simp [go_sem, *]); have hl0 := World.block_lt_of_cell? _ _ hc0)))
    refine bodyPost_ret (v := .tuple #[.agg #[.slice none 0 0], .int .i64 1]) (by simp [results, Try.results40, go_sem, *]) rfl ⟨none, 0, by rw [hf.out.1, hf.out.2]; rfl, by rw [hf.out.2]; exact World.ownsRow_nil _ _ _ _, ?_⟩
    first | exact bthen hb1.out hb | exact (bthen hb1.out hb).setCell (by dsimp only; omega) _
  · cases hv2 : validCardL y
    · have hf := Lib.hid (overlay_bad2 x hv2)
      go_enter Try.func40, Try.ntmps40
      go_wp2_with fail
      refine (impl_ValidCard a c x _ (hx.kept hb1.out) h1).mono ?_
      rintro e w2 ⟨rfl, hb⟩
      (have hc0 := keep (p := ⟨w.heap.size, 0, none⟩) (v := .slice a x.length c) hb (by simp [go_sem, *]); have hf0 := keepf (p := ⟨w.heap.size, 0, none⟩) (v := .slice a x.length c) hb (by simp [go_sem, *]) (by simp [go_sem, *]); have hl0 := World.block_lt_of_cell? _ _ hc0; have hc1 := keep (p := ⟨w.heap.size + 1, 0, none⟩) (v := .slice b y.length d) hb (by simp [go_sem, *]); have hf1 := keepf (p := ⟨w.heap.size + 1, 0, none⟩) (v := .slice b y.length d) hb (by simp [go_sem, *]) (by simp [go_sem, *]); have hl1 := World.block_lt_of_cell? _ _ hc1; have hc2 := keep (p := ⟨w.heap.size + 2, 0, none⟩) (v := .slice none 0 0) hb (by simp [go_sem, *]); have hf2 := keepf (p := ⟨w.heap.size + 2, 0, none⟩) (v := .slice none 0 0) hb (by simp [go_sem, *]) (by simp [go_sem, *]); have hl2 := World.block_lt_of_cell? _ _ hc2)
      have hb2 := Lib.hid (bthen hb1.out hb)
      clear hb
      go_wp2_with (go_at_call 81; ((with_reducible refine (impl_ValidCard b d y _ (hy.kept hb2.out) h2).mono ?_); rintro e w' ⟨rfl, hb⟩; (have hc0 := keep (p := ⟨w.heap.size + 2, 0, none⟩) (v := .slice none 0 0) hb (by simp [go_sem, *]); have hf0 := keepf (p := ⟨w.heap.size + 2, 0, none⟩) (v := .slice none 0 0) hb (by simp [go_sem, *]) (by simp [go_sem, *]); have hl0 := World.block_lt_of_cell? _ _ hc0)))
      refine bodyPost_ret (v := .tuple #[.agg #[.slice none 0 0], .int .i64 1]) (by simp [results, Try.results40, go_sem, *]) rfl ⟨none, 0, by rw [hf.out.1, hf.out.2]; rfl, by rw [hf.out.2]; exact World.ownsRow_nil _ _ _ _, ?_⟩
      first | exact bthen hb2.out hb | exact (bthen hb2.out hb).setCell (by dsimp only; omega) _
    · go_enter Try.func40, Try.ntmps40
      go_wp2_with fail
      refine (impl_ValidCard a c x _ (hx.kept hb1.out) h1).mono ?_
      rintro e w2 ⟨rfl, hb⟩
      (have hc0 := keep (p := ⟨w.heap.size, 0, none⟩) (v := .slice a x.length c) hb (by simp [go_sem, *]); have hf0 := keepf (p := ⟨w.heap.size, 0, none⟩) (v := .slice a x.length c) hb (by simp [go_sem, *]) (by simp [go_sem, *]); have hl0 := World.block_lt_of_cell? _ _ hc0; have hc1 := keep (p := ⟨w.heap.size + 1, 0, none⟩) (v := .slice b y.length d) hb (by simp [go_sem, *]); have hf1 := keepf (p := ⟨w.heap.size + 1, 0, none⟩) (v := .slice b y.length d) hb (by simp [go_sem, *]) (by simp [go_sem, *]); have hl1 := World.block_lt_of_cell? _ _ hc1; have hc2 := keep (p := ⟨w.heap.size + 2, 0, none⟩) (v := .slice none 0 0) hb (by simp [go_sem, *]); have hf2 := keepf (p := ⟨w.heap.size + 2, 0, none⟩) (v := .slice none 0 0) hb (by simp [go_sem, *]) (by simp [go_sem, *]); have hl2 := World.block_lt_of_cell? _ _ hc2)
      have hb2 := Lib.hid (bthen hb1.out hb)
      clear hb
      go_wp2_with fail
      refine (impl_ValidCard b d y _ (hy.kept hb2.out) h2).mono ?_
      rintro e w3 ⟨rfl, hb⟩
      (have hc0 := keep (p := ⟨w.heap.size, 0, none⟩) (v := .slice a x.length c) hb (by simp [go_sem, *]); have hf0 := keepf (p := ⟨w.heap.size, 0, none⟩) (v := .slice a x.length c) hb (by simp [go_sem, *]) (by simp [go_sem, *]); have hl0 := World.block_lt_of_cell? _ _ hc0; have hc1 := keep (p := ⟨w.heap.size + 1, 0, none⟩) (v := .slice b y.length d) hb (by simp [go_sem, *]); have hf1 := keepf (p := ⟨w.heap.size + 1, 0, none⟩) (v := .slice b y.length d) hb (by simp [go_sem, *]) (by simp [go_sem, *]); have hl1 := World.block_lt_of_cell? _ _ hc1; have hc2 := keep (p := ⟨w.heap.size + 2, 0, none⟩) (v := .slice none 0 0) hb (by simp [go_sem, *]); have hf2 := keepf (p := ⟨w.heap.size + 2, 0, none⟩) (v := .slice none 0 0) hb (by simp [go_sem, *]) (by simp [go_sem, *]); have hl2 := World.block_lt_of_cell? _ _ hc2)
      have hb3 := Lib.hid (bthen hb2.out hb)
      clear hb
      go_wp2_with fail
      go_region_held3 (fun W => Below w3.heap.size w3 W ∧ W.cell? ⟨w.heap.size, 0, none⟩ = some (.slice a x.length c) ∧ W.cell? ⟨w.heap.size + 1, 0, none⟩ = some (.slice b y.length d)) (first | exact held2 (below_drewN (Below.refl _ _) 1) hc0 hc1 | (rename Below w3.heap.size w3 _ ∧ _ => hH; refine held2 ?_ hc0 hc1; (refine bthen hH.1 ?_; assumption))) (first | (go_at_call 91; ((with_reducible refine (impl_columns _ _ _ _).mono ?_); rintro e w4 ⟨rfl, hb⟩)))
      have hHb := And.left ‹Below w3.heap.size w3 _ ∧ _›
      (have hc0 := keep (p := ⟨w.heap.size, 0, none⟩) (v := .slice a x.length c) hHb (by simp [go_sem, *]); have hf0 := keepf (p := ⟨w.heap.size, 0, none⟩) (v := .slice a x.length c) hHb (by simp [go_sem, *]) (by simp [go_sem, *]); have hl0 := World.block_lt_of_cell? _ _ hc0; have hc1 := keep (p := ⟨w.heap.size + 1, 0, none⟩) (v := .slice b y.length d) hHb (by simp [go_sem, *]); have hf1 := keepf (p := ⟨w.heap.size + 1, 0, none⟩) (v := .slice b y.length d) hHb (by simp [go_sem, *]) (by simp [go_sem, *]); have hl1 := World.block_lt_of_cell? _ _ hc1; have hc2 := keep (p := ⟨w.heap.size + 2, 0, none⟩) (v := .slice none 0 0) hHb (by simp [go_sem, *]); have hf2 := keepf (p := ⟨w.heap.size + 2, 0, none⟩) (v := .slice none 0 0) hHb (by simp [go_sem, *]) (by simp [go_sem, *]); have hl2 := World.block_lt_of_cell? _ _ hc2)
      have hb4 := Lib.hid (bthen hb3.out hHb)
      clear hHb
      clear ‹Below w3.heap.size w3 _ ∧ _›
      by_cases hl : x.length = y.length
      · have hf := Lib.hid (overlay_ok hv hv2 hl)
        have hs : x.length ≤ 1048576 := by have := validCard_len hv; omega
        have hne : ((x.length : Int) != (y.length : Int)) = false := by simp [hl]
        have hl' := Lib.hid hl
        clear hl
        go_wp2_with fail
        refine (impl_newCard _ c x _ (hx.kept hb4.out) hs).mono ?_
        rintro e w5 ⟨a5, c5, rfl, hown, hb5⟩
        have hq1 := keep hb5 hc1
        have hqf1 := keepf hb5 hc1 hf1
        have hq2 := keep hb5 hc2
        have hqf := keepf hb5 hc2 hf2
        have hql := World.block_lt_of_cell? _ _ hq2
        have hql1 := World.block_lt_of_cell? _ _ hq1
        have hB := Lib.hid (bthen hb4.out hb5)
        have ho := Lib.hid (OI.of (own_mono (B := w.heap.size + 3) hown (by first | omega | simp)))
        clear hown hb5
        have hbx : (w5.alloc (.cells #[.slice a5 x.length c5] 48)).cell? ⟨w5.heap.size, 0, none⟩ = some (.slice a5 x.length c5) := by simp [go_sem]
        have hby := keep (below_alloc (w := w5) (.cells #[.slice a5 x.length c5] 48)) hq1
        have hbz := keep (below_alloc (w := w5) (.cells #[.slice a5 x.length c5] 48)) hq2
        have hbf := keepf (below_alloc (w := w5) (.cells #[.slice a5 x.length c5] 48)) hq2 hqf
        have hB' := Lib.hid (bthen hB.out (below_alloc (.cells #[.slice a5 x.length c5] 48)))
        have ho' : OI (w.heap.size + 3) w5.heap.size (w5.alloc (.cells #[.slice a5 x.length c5] 48)) 2 a5 c5 x := ho.out.kept (below_alloc _)
        have hlen := orL_length hl'.out
        generalize hN : x.length = n at *
        have hN' := Lib.hid hN
        clear hN
        go_wp2_with fail
        generalize hW : (w5.alloc (.cells #[.slice a5 n c5] 48)) = W at *
        have hW' := Lib.hid hW
        clear hW
        have ho0 : OV (w.heap.size + 3) w5.heap.size W 2 1 a5 n c5 ((upto (orL x y) x 0).map (Value.int .i64)) := by rw [upto_zero]; unfold OI at ho'; rw [hN'.out] at ho'; exact ho'
        go_loopw [31] (fun i wr => ∃ j : Nat, j ≤ n ∧ i = .int .i64 j ∧ OV (w.heap.size + 3) w5.heap.size wr 2 1 a5 n c5 ((upto (orL x y) x j).map (Value.int .i64)) ∧ Within (w.heap.size + 3) w5.heap.size W wr) (fun i _ => n - (intOf i).toNat)
        case atStart => exact ⟨0, by omega, rfl, ho0, Within.refl _ _ _⟩
        case round =>
          obtain ⟨j, hj, rfl, hoj, hw⟩ := hrel
          have hbxr := hw.cell hbx (Or.inr (Nat.le_refl _))
          have hbyr := hw.cell hby (Or.inl (by dsimp only; omega))
          have hbzr := hw.cell hbz (Or.inl (by dsimp only; omega))
          by_cases hlt : j < n
          · obtain ⟨g, rfl, hg1, hg2⟩ := hoj.addr (by omega)
            obtain ⟨u, hu⟩ := get_some (l := x) (k := j) (by rw [hN'.out]; exact hlt)
            obtain ⟨v, hv'⟩ := get_some (l := y) (k := j) (by rw [← hl'.out]; exact hlt)
            obtain ⟨b1, o1, rfl, hcy⟩ := (hy.kept (hw.below hB'.out (by omega) hB'.out.size)).at hv'
            have hcg := (hoj.1.cellAt j (by omega)).trans (map_at (upto_at _ _ (hlen.trans hN'.out.symm) hu))
            have hfg := hoj.1.frozenAt j
            have hu' := Lib.hid hu
            have hv'' := Lib.hid hv'
            clear hu hv'
            have hy2 : (j : Int) < (y.length : Int) := by have := hl'.out; omega
            have hy3 : j < y.length := by have := hl'.out; omega
            have hg3 : ¬ g = w5.heap.size := by omega
            go_wp2_with fail
            all_goals
              go_roundw
              case rel => exact ⟨j + 1, by omega, by go_num, by rw [← upto_set _ _ (hlen.trans hN'.out.symm) (orL_at hu'.out hv''.out)]; exact hoj.store j _, hw.setCell hg1 hg2 _⟩
              case measure => simp [intOf]; omega
          · have hy2 : ¬ (j : Int) < (y.length : Int) := by have := hl'.out; omega
            have hy3 : ¬ j < y.length := by have := hl'.out; omega
            have hfzr := hw.frozen hbz hbf (Or.inl (by dsimp only; omega))
            have hq : upto (orL x y) x j = orL x y := upto_all _ _ (hlen.trans hN'.out.symm) (by rw [hN'.out]; omega)
            rw [hq] at hoj
            go_wp2_with fail
            refine bodyPost_ret (v := .tuple #[.agg #[.slice a5 n c5], .int .i64 0]) (by simp [results, Try.results40, go_sem, *]) rfl ⟨a5, c5, by rw [hf.out.1, hf.out.2, hlen], ?_, (hw.below hB'.out (by omega) hB'.out.size).setCell (by dsimp only; omega) _⟩
            rw [hf.out.2, hlen]
            exact own_mono (ownsRow_setCell_below hoj.1 (by dsimp only; omega) _) (by omega)
      · have hf := Lib.hid (overlay_state hv hv2 hl)
        have hne : ((x.length : Int) != (y.length : Int)) = true := by simp; omega
        go_wp2_with fail
        refine bodyPost_ret (v := .tuple #[.agg #[.slice none 0 0], .int .i64 6]) (by simp [results, Try.results40, go_sem, *]) rfl ⟨none, 0, by rw [hf.out.1, hf.out.2]; rfl, by rw [hf.out.2]; exact World.ownsRow_nil _ _ _ _, ?_⟩
        first | exact hb4.out | exact (hb4.out).setCell (by dsimp only; omega) _
end Go.Proofs.Ytdjggbccdjbcoaa
