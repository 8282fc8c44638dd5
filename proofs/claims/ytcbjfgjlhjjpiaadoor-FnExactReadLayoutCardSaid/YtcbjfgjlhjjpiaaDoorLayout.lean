/- The walks of the laws' own functions on items and layouts, and of the comparison of layouts: what each returns, and that memory has at most new blocks. -/
import Derived.Test.YtcbjfgjlhjjpiaaDoorItems
import Derived.Test.YtcbjfgjlhjjpiaaDoorField
import Derived.Deep.RegionHeld3
import Derived.Laws.StructEq
namespace Go.Proofs.YtcbjfgjlhjjpiaaDoor
open Go.RowKit
set_option maxRecDepth 100000
set_option linter.unusedVariables false
set_option linter.unusedSimpArgs false
set_option linter.unnecessarySimpa false

set_option maxHeartbeats 400000 in
theorem laws_toItem (x : Itm) (w : World) : Calls Tryd.prog 82 #[.agg #[.string x.name, .int .i64 x.kind, .int .i64 x.fr, .int .i64 x.to]] w fun e w' => e = .returned (.agg #[.string x.name, .int .i64 x.kind, .int .i64 x.fr, .int .i64 x.to]) ∧ Below w.heap.size w w' := by
  obtain ⟨s, k, f, t⟩ := x
  have hb3 := Lib.hid (below_alloc3 w (.cells #[.string s, .int .i64 k, .int .i64 f, .int .i64 t] 115) (.cells #[.string ⟨#[]⟩, .int .i64 0, .int .i64 0, .int .i64 0] 77) (.cells #[.string s, .int .i64 k, .int .i64 0, .int .i64 0] 77))
  go_enter Tryd.func82, Tryd.ntmps82
  go_wp2_with fail
  refine (laws_toField f t _).mono ?_
  rintro e w2 ⟨rfl, hb⟩
  (have hc0 := keep (p := ⟨w.heap.size + 1, 0, none⟩) (v := .string ⟨#[]⟩) hb (by simp [go_sem, *]); have hf0 := keepf (p := ⟨w.heap.size + 1, 0, none⟩) (v := .string ⟨#[]⟩) hb (by simp [go_sem, *]) (by simp [go_sem, *]); have hl0 := World.block_lt_of_cell? _ _ hc0; have hc1 := keep (p := ⟨w.heap.size + 1, 1, none⟩) (v := .int .i64 0) hb (by simp [go_sem, *]); have hf1 := keepf (p := ⟨w.heap.size + 1, 1, none⟩) (v := .int .i64 0) hb (by simp [go_sem, *]) (by simp [go_sem, *]); have hl1 := World.block_lt_of_cell? _ _ hc1; have hc2 := keep (p := ⟨w.heap.size + 1, 2, none⟩) (v := .int .i64 0) hb (by simp [go_sem, *]); have hf2 := keepf (p := ⟨w.heap.size + 1, 2, none⟩) (v := .int .i64 0) hb (by simp [go_sem, *]) (by simp [go_sem, *]); have hl2 := World.block_lt_of_cell? _ _ hc2; have hc3 := keep (p := ⟨w.heap.size + 1, 3, none⟩) (v := .int .i64 0) hb (by simp [go_sem, *]); have hf3 := keepf (p := ⟨w.heap.size + 1, 3, none⟩) (v := .int .i64 0) hb (by simp [go_sem, *]) (by simp [go_sem, *]); have hl3 := World.block_lt_of_cell? _ _ hc3; have hc4 := keep (p := ⟨w.heap.size + 2, 0, none⟩) (v := .string s) hb (by simp [go_sem, *]); have hf4 := keepf (p := ⟨w.heap.size + 2, 0, none⟩) (v := .string s) hb (by simp [go_sem, *]) (by simp [go_sem, *]); have hl4 := World.block_lt_of_cell? _ _ hc4; have hc5 := keep (p := ⟨w.heap.size + 2, 1, none⟩) (v := .int .i64 k) hb (by simp [go_sem, *]); have hf5 := keepf (p := ⟨w.heap.size + 2, 1, none⟩) (v := .int .i64 k) hb (by simp [go_sem, *]) (by simp [go_sem, *]); have hl5 := World.block_lt_of_cell? _ _ hc5; have hc6 := keep (p := ⟨w.heap.size + 2, 2, none⟩) (v := .int .i64 0) hb (by simp [go_sem, *]); have hf6 := keepf (p := ⟨w.heap.size + 2, 2, none⟩) (v := .int .i64 0) hb (by simp [go_sem, *]) (by simp [go_sem, *]); have hl6 := World.block_lt_of_cell? _ _ hc6; have hc7 := keep (p := ⟨w.heap.size + 2, 3, none⟩) (v := .int .i64 0) hb (by simp [go_sem, *]); have hf7 := keepf (p := ⟨w.heap.size + 2, 3, none⟩) (v := .int .i64 0) hb (by simp [go_sem, *]) (by simp [go_sem, *]); have hl7 := World.block_lt_of_cell? _ _ hc7)
  have hb2 := Lib.hid (bthen hb3.out hb)
  clear hb
  go_wp2_with fail
  refine bodyPost_ret (v := .agg #[.string s, .int .i64 k, .int .i64 f, .int .i64 t]) (by simp [results, Tryd.results82, go_sem, *]) rfl ⟨rfl, ?_⟩
  repeat (refine Below.setCell ?_ (by dsimp only; omega) _)
  exact hb2.out
theorem laws_szItem (x : Itm) (left : Int) (h0 : 0 ≤ left) (h1 : left ≤ 1048576) (hn : x.name.size ≤ maxLen) (w : World) :
    Calls Tryd.prog 79 #[.agg #[.string x.name, .int .i64 x.kind, .int .i64 x.fr, .int .i64 x.to], .int .i64 left] w fun e w' => e = .returned (.int .i64 (szI left x.name.size)) ∧ Below w.heap.size w w' := by
  unfold maxLen at hn
  obtain ⟨s, k, f, t⟩ := x
  simp only at hn ⊢
  have hb1 := Lib.hid (below_alloc (w := w) (.cells #[.string s, .int .i64 k, .int .i64 f, .int .i64 t] 115))
  by_cases h : left - (s.size : Int) < 0
  · have hs := Lib.hid (show szI left s.size = -1 by unfold szI; rw [if_pos h])
    go_enter Tryd.func79, Tryd.ntmps79
    go_wp2_with fail
    go_ret
    exact ⟨ret_int (by rw [hs.out]), hb1.out⟩
  · have hs := Lib.hid (show szI left s.size = left - s.size by unfold szI; rw [if_neg h])
    go_enter Tryd.func79, Tryd.ntmps79
    go_wp2_with fail
    go_ret
    exact ⟨ret_int (by rw [hs.out]), hb1.out⟩
set_option maxHeartbeats 400000 in
theorem laws_szItemS (a : Option Addr) (c : Nat) (xs : List Itm) (left : Int) (w : World) (hx : RT w a xs) (h0 : 0 ≤ left) (h1 : left ≤ 1048576) (hn : xs.length ≤ maxLen ∧ ∀ x ∈ xs, x.name.size ≤ maxLen) :
    Calls Tryd.prog 44 #[.slice a xs.length c, .int .i64 left] w fun e w' => e = .returned (.int .i64 (szI left (itemsSz xs))) ∧ Below w.heap.size w w' := by
  obtain ⟨hn, hns⟩ := hn
  unfold maxLen at hn
  have hns' := Lib.hid hns
  clear hns
  have hd := itemsSz_len xs
  by_cases hneg : left - (xs.length : Int) < 0
  · have hs := Lib.hid (show szI left (itemsSz xs) = -1 by unfold szI; rw [if_pos (by omega)])
    clear hd
    go_enter Tryd.func44, Tryd.ntmps44
    go_wp2_with fail
    go_ret
    exact ⟨ret_int (by rw [hs.out]), Below.refl _ _⟩
  · have hde := Lib.hid (show itemsSz xs = xs.length + (xs.map fun x => x.name.size).sum from rfl)
    generalize hN : xs.length = n at *
    have hN' := Lib.hid hN
    clear hN hd
    go_enter Tryd.func44, Tryd.ntmps44
    go_wp2_with fail
    go_loopw [1, 5] (fun l i wr => ∃ k : Nat, k ≤ n ∧ i = .int .i64 k ∧ Hid ((n : Int) + namesUp xs k ≤ left) ∧ l = .int .i64 (left - n - namesUp xs k) ∧ Below w.heap.size w wr) (fun _ i _ => n - (intOf i).toNat)
    case atStart => exact ⟨0, by omega, rfl, Lib.hid (by simp [namesUp]; omega), by simp [namesUp], Below.refl _ _⟩
    case round =>
      obtain ⟨k, hk, rfl, hle, rfl, hb⟩ := hrel
      by_cases hlt : k < n
      · obtain ⟨x, hxk⟩ := get_some (l := xs) (k := k) (by rw [hN'.out]; exact hlt)
        obtain ⟨b1, o1, rfl, hc0, hc1, hc2, hc3⟩ := (hx.kept hb).at hxk
        have hxk' := Lib.hid hxk
        have hsucc := Lib.hid (namesUp_succ hxk)
        have hl0 := hle.out
        generalize hL : namesUp xs k = L at *
        have hL' := Lib.hid hL
        have hlm : x.name.size ≤ maxLen := hns'.out x (List.mem_of_getElem? hxk)
        clear hxk hL
        by_cases hsm : left - n - L - (x.name.size : Int) < 0
        · have hz : szI (left - n - L) x.name.size = -1 := by unfold szI; rw [if_pos hsm]
          have hc := (laws_szItem x (left - n - L) (by omega) (by omega) hlm wr)
          rw [hz] at hc
          have hcl := Lib.hid hc
          clear hz hc
          go_wp2_with (go_at_call 79; ((with_reducible refine hcl.out.mono ?_); rintro e w' ⟨rfl, hb'⟩))
          go_ret
          have hle2 := namesUp_le xs (k + 1)
          have h3 := hsucc.out
          have h4 := hde.out
          exact ⟨ret_int (by unfold szI; rw [if_pos (by omega)]), bthen hb hb'⟩
        · have hz : szI (left - n - L) x.name.size = left - n - L - x.name.size := by unfold szI; rw [if_neg hsm]
          have hc := (laws_szItem x (left - n - L) (by omega) (by omega) hlm wr)
          rw [hz] at hc
          have hcl := Lib.hid hc
          clear hz hc
          have hnn : 0 ≤ left - n - L - (x.name.size : Int) := by omega
          have hnn2 : left - n - L - (x.name.size : Int) ≤ 1048576 := by omega
          go_wp2_with (go_at_call 79; ((with_reducible refine hcl.out.mono ?_); rintro e w' ⟨rfl, hb'⟩))
          go_roundw
          case rel =>
            have h3 := hsucc.out
            exact ⟨k + 1, by omega, by go_num, Lib.hid (by omega), by rw [h3]; go_num, bthen hb hb'⟩
          case measure => simp [intOf]; omega
      · go_wp2_with fail
        go_ret
        have h3 := namesUp_all (xs := xs) (k := k) (by rw [hN'.out]; omega)
        have h4 := hde.out
        have h5 := hle.out
        exact ⟨ret_int (by unfold szI; rw [if_neg (by omega)]; omega), hb⟩
theorem laws_szLayout (wd : Int) (a : Option Addr) (c : Nat) (xs : List Itm) (left : Int) (w : World) (hx : RT w a xs) (h0 : 0 ≤ left) (h1 : left ≤ 1048576) (hn : xs.length ≤ maxLen ∧ ∀ x ∈ xs, x.name.size ≤ maxLen) :
    Calls Tryd.prog 17 #[.agg #[.int .i64 wd, .slice a xs.length c], .int .i64 left] w fun e w' => e = .returned (.int .i64 (szI left (itemsSz xs))) ∧ Below w.heap.size w w' := by
  have hb1 := Lib.hid (below_alloc (w := w) (.cells #[.int .i64 wd, .slice a xs.length c] 42))
  by_cases h : szI left (itemsSz xs) < 0
  · have hs := Lib.hid (szI_neg h)
    go_enter Tryd.func17, Tryd.ntmps17
    go_wp2_with (go_at_call 44; ((with_reducible refine (laws_szItemS _ _ _ _ _ (hx.kept hb1.out) h0 h1 hn).mono ?_); rintro e w' ⟨rfl, hb⟩))
    go_ret
    exact ⟨ret_int (by rw [hs.out]), bthen hb1.out hb⟩
  · go_enter Tryd.func17, Tryd.ntmps17
    go_wp2_with (go_at_call 44; ((with_reducible refine (laws_szItemS _ _ _ _ _ (hx.kept hb1.out) h0 h1 hn).mono ?_); rintro e w' ⟨rfl, hb⟩))
    go_ret
    exact ⟨rfl, bthen hb1.out hb⟩
theorem laws_szLayout_over (wd : Int) (a : Option Addr) (c : Nat) (x : List Itm) (left : Int) (w : World) (hx : RT w a x) (h0 : 0 ≤ left) (h1 : left ≤ 1048576) (hn : x.length ≤ maxLen ∧ ∀ y ∈ x, y.name.size ≤ maxLen) (h : left < (itemsSz x : Int)) :
    Calls Tryd.prog 17 #[.agg #[.int .i64 wd, .slice a x.length c], .int .i64 left] w fun e w' => e = .returned (.int .i64 (-1)) ∧ Below w.heap.size w w' :=
  (laws_szLayout wd a c x left w hx h0 h1 hn).mono fun e w' h' => ⟨by rw [h'.1]; unfold szI; rw [if_pos (by omega)], h'.2⟩
theorem laws_szLayout_ok (wd : Int) (a : Option Addr) (c : Nat) (x : List Itm) (left : Int) (w : World) (hx : RT w a x) (h0 : 0 ≤ left) (h1 : left ≤ 1048576) (hn : x.length ≤ maxLen ∧ ∀ y ∈ x, y.name.size ≤ maxLen) (h : (itemsSz x : Int) ≤ left) :
    Calls Tryd.prog 17 #[.agg #[.int .i64 wd, .slice a x.length c], .int .i64 left] w fun e w' => e = .returned (.int .i64 (left - (itemsSz x : Int))) ∧ Below w.heap.size w w' :=
  (laws_szLayout wd a c x left w hx h0 h1 hn).mono fun e w' h' => ⟨by rw [h'.1]; unfold szI; rw [if_neg (by omega)], h'.2⟩
theorem laws_eqField_same (f t : Int) (w : World) : Calls Tryd.prog 106 #[.agg #[.int .i64 f, .int .i64 t], .agg #[.int .i64 f, .int .i64 t]] w fun e w' => e = .returned (.bool true) ∧ Below w.heap.size w w' := by
  have hb2 := Lib.hid (below_alloc2 w (.cells #[.int .i64 f, .int .i64 t] 31) (.cells #[.int .i64 f, .int .i64 t] 31))
  go_enter Tryd.func106, Tryd.ntmps106
  go_wp2_with fail
  go_ret
  exact ⟨rfl, hb2.out⟩
theorem laws_eqItem_same (x : Itm) (w : World) : Calls Tryd.prog 87 #[.agg #[.string x.name, .int .i64 x.kind, .int .i64 x.fr, .int .i64 x.to], .agg #[.string x.name, .int .i64 x.kind, .int .i64 x.fr, .int .i64 x.to]] w fun e w' => e = .returned (.bool true) ∧ Below w.heap.size w w' := by
  obtain ⟨s, k, f, t⟩ := x
  have hb2 := Lib.hid (below_alloc2 w (.cells #[.string s, .int .i64 k, .int .i64 f, .int .i64 t] 77) (.cells #[.string s, .int .i64 k, .int .i64 f, .int .i64 t] 77))
  go_enter Tryd.func87, Tryd.ntmps87
  go_wp2_with (go_at_call 106; ((with_reducible refine (laws_eqField_same _ _ _).mono ?_); rintro e w' ⟨rfl, hb⟩))
  go_ret
  exact ⟨rfl, bthen hb2.out hb⟩
theorem Tryd.info_item : (Tryd.prog.info? 77).map (fun i => (i.zero, i.size, i.bytes)) = some (some (.agg #[.string ⟨#[]⟩, .int .i64 0, .int .i64 0, .int .i64 0]), 4, 40) := by kernel_rfl
set_option maxHeartbeats 1000000 in
theorem laws_toItemS (a : Option Addr) (c : Nat) (xs : List Itm) (w : World) (hx : RT w a xs) (hn : itemsSz xs ≤ 1048576) :
    Calls Tryd.prog 47 #[.slice a xs.length c] w fun e w' => ∃ a' c', e = .returned (.slice a' xs.length c') ∧ w'.ownsRow w.heap.size 77 4 (.slice a' xs.length c') xs.length (itemsV xs) ∧ Below w.heap.size w w' := by
  obtain ⟨i0, hi, hz0, hz1, hz2⟩ := info_parts Tryd.info_item
  have hdl := itemsSz_len xs
  generalize hN : xs.length = n at *
  have hN' := Lib.hid hN
  clear hN
  have hm := Lib.hid (show n ≤ maxLen by simp [maxLen]; omega)
  go_enter Tryd.func47, Tryd.ntmps47
  go_wp2_with (at_make; refine wpList_make_full _ rfl _ _ 45 rfl w.heap.size 77 i0 (.agg #[.string ⟨#[]⟩, .int .i64 0, .int .i64 0, .int .i64 0]) 4 Tryd.underlying45 hi hz0 hz1 _ _ _ _ n rfl rfl rfl rfl (by rw [hz2]; omega) hm.out (by exact Nat.le_refl _) ?_; intro w1 hown hgrow)
  obtain ⟨M, hM, hown0⟩ : ∃ M : List Value, M.length = n * 4 ∧ w1.ownsRow w.heap.size 77 4 (.slice (some ⟨w.heap.size, 0, none⟩) n n) n (itemsV (xs.take 0) ++ M.drop 0) := ⟨_, hown.1, by simpa [itemsV] using hown⟩
  have hb0 : Below w.heap.size w w1 := (Below.refl _ _).grown hgrow (Nat.le_refl _) (by simp)
  have hM' := Lib.hid hM
  clear hown hgrow hM
  go_loopw [4] (fun i wr => ∃ k : Nat, k ≤ n ∧ i = .int .i64 k ∧ wr.ownsRow w.heap.size 77 4 (.slice (some ⟨w.heap.size, 0, none⟩) n n) n (itemsV (xs.take k) ++ M.drop (k * 4)) ∧ Below w.heap.size w wr) (fun i _ => n - (intOf i).toNat)
  case atStart => exact ⟨0, by omega, rfl, hown0, hb0⟩
  case round =>
    obtain ⟨k, hk, rfl, hown, hb⟩ := hrel
    by_cases hlt : k < n
    · obtain ⟨x, hxk⟩ := get_some (l := xs) (k := k) (by rw [hN'.out]; exact hlt)
      obtain ⟨b1, o1, rfl, hc0, hc1, hc2, hc3⟩ := (hx.kept hb).at hxk
      have hxk' := Lib.hid hxk
      have hP : (itemsV (xs.take k)).length = k * 4 := by rw [itemsV_length, List.length_take, hN'.out, Nat.min_eq_left (by omega)]
      have hs4 := Lib.hid (fun (p q r s : Value) => set4 (M := M) (a := p) (b := q) (c := r) (d := s) hP (by rw [hM'.out]; omega))
      have hxs := Lib.hid (show xs.take (k + 1) = xs.take k ++ [x] by rw [List.take_add_one, hxk]; rfl)
      obtain ⟨v0, hv0⟩ := cell4 (M := M) (j := 0) hP (by omega) (by rw [hM'.out]; omega)
      obtain ⟨v1, hv1⟩ := cell4 (M := M) (j := 1) hP (by omega) (by rw [hM'.out]; omega)
      obtain ⟨v2, hv2⟩ := cell4 (M := M) (j := 2) hP (by omega) (by rw [hM'.out]; omega)
      obtain ⟨v3, hv3⟩ := cell4 (M := M) (j := 3) hP (by omega) (by rw [hM'.out]; omega)
      clear hxk hP
      go_wp2_with fail
      refine (laws_toItem x _).mono ?_
      rintro e w2 ⟨rfl, hb2⟩
      have hown2 := (OV.of hown).kept hb2
      have hd0 := (hown2.1.cellAt (k * 4 + 0) (by omega)).trans hv0
      have hd1 := (hown2.1.cellAt (k * 4 + 1) (by omega)).trans hv1
      have hd2 := (hown2.1.cellAt (k * 4 + 2) (by omega)).trans hv2
      have hd3 := (hown2.1.cellAt (k * 4 + 3) (by omega)).trans hv3
      rw [Nat.add_zero] at hd0
      have he0 := hown2.1.frozenAt (k * 4)
      have he1 := hown2.1.frozenAt (k * 4 + 1)
      have he2 := hown2.1.frozenAt (k * 4 + 2)
      have he3 := hown2.1.frozenAt (k * 4 + 3)
      have hB := Lib.hid (bthen hb hb2)
      have hown3 := Lib.hid hown2.1
      clear hv0 hv1 hv2 hv3 hb2 hown2 hown
      go_wp2_with fail
      go_roundw
      case rel =>
        refine ⟨k + 1, by omega, by go_num, ?_, (((hB.out.setCell (Nat.le_refl _) _).setCell (Nat.le_refl _) _).setCell (Nat.le_refl _) _).setCell (Nat.le_refl _) _⟩
        have h9 := ((((hown3.out.stored (k * 4) (.string x.name)).1.stored (k * 4 + 1) (.int .i64 x.kind)).1.stored (k * 4 + 2) (.int .i64 x.fr)).1.stored (k * 4 + 3) (.int .i64 x.to)).1
        rw [hs4.out] at h9
        rw [hxs.out, itemsV_append, itemsV_one, show (k + 1) * 4 = k * 4 + 4 by omega]
        exact h9
      case measure => simp [intOf]; omega
    · go_wp2_with fail
      go_ret
      have e : k = n := by omega
      subst e
      rw [List.take_of_length_le (by rw [hN'.out]; exact Nat.le_refl _), List.drop_of_length_le (by rw [hM'.out]; exact Nat.le_refl _), List.append_nil] at hown
      exact ⟨_, _, rfl, hown, hb⟩
set_option maxHeartbeats 400000 in
theorem laws_toLayout (wd : Int) (a : Option Addr) (c : Nat) (xs : List Itm) (w : World) (hx : RT w a xs) (hn : itemsSz xs ≤ 1048576) :
    Calls Tryd.prog 19 #[.agg #[.int .i64 wd, .slice a xs.length c]] w fun e w' => ∃ a' c', e = .returned (.agg #[.int .i64 wd, .slice a' xs.length c']) ∧ w'.ownsRow w.heap.size 77 4 (.slice a' xs.length c') xs.length (itemsV xs) ∧ Below w.heap.size w w' := by
  have hb3 := Lib.hid (below_alloc3 w (.cells #[.int .i64 wd, .slice a xs.length c] 42) (.cells #[.int .i64 0, .slice none 0 0] 47) (.cells #[.int .i64 wd, .slice none 0 0] 47))
  go_enter Tryd.func19, Tryd.ntmps19
  go_wp2_with fail
  refine (laws_toItemS a c xs _ (hx.kept hb3.out) hn).mono ?_
  rintro e w4 ⟨a4, c4, rfl, hown, hb4⟩
  (have hc0 := keep (p := ⟨w.heap.size + 1, 0, none⟩) (v := .int .i64 0) hb4 (by simp [go_sem, *]); have hf0 := keepf (p := ⟨w.heap.size + 1, 0, none⟩) (v := .int .i64 0) hb4 (by simp [go_sem, *]) (by simp [go_sem, *]); have hl0 := World.block_lt_of_cell? _ _ hc0; have hc1 := keep (p := ⟨w.heap.size + 1, 1, none⟩) (v := .slice none 0 0) hb4 (by simp [go_sem, *]); have hf1 := keepf (p := ⟨w.heap.size + 1, 1, none⟩) (v := .slice none 0 0) hb4 (by simp [go_sem, *]) (by simp [go_sem, *]); have hl1 := World.block_lt_of_cell? _ _ hc1; have hc2 := keep (p := ⟨w.heap.size + 2, 0, none⟩) (v := .int .i64 wd) hb4 (by simp [go_sem, *]); have hf2 := keepf (p := ⟨w.heap.size + 2, 0, none⟩) (v := .int .i64 wd) hb4 (by simp [go_sem, *]) (by simp [go_sem, *]); have hl2 := World.block_lt_of_cell? _ _ hc2; have hc3 := keep (p := ⟨w.heap.size + 2, 1, none⟩) (v := .slice none 0 0) hb4 (by simp [go_sem, *]); have hf3 := keepf (p := ⟨w.heap.size + 2, 1, none⟩) (v := .slice none 0 0) hb4 (by simp [go_sem, *]) (by simp [go_sem, *]); have hl3 := World.block_lt_of_cell? _ _ hc3)
  have hown' := Lib.hid hown
  have hb4' := Lib.hid (bthen hb3.out hb4)
  clear hown hb4
  go_wp2_with fail
  refine bodyPost_ret (v := .agg #[.int .i64 wd, .slice a4 xs.length c4]) (by simp [results, Tryd.results19, go_sem, *]) rfl ⟨_, _, rfl, ?_, ?_⟩
  · refine own_mono (B' := w.heap.size + 3) ?_ (by omega)
    have h9 : w4.ownsRow (w.heap.size + 3) 77 4 (.slice a4 xs.length c4) xs.length (itemsV xs) := by simpa using hown'.out
    repeat (refine ownsRow_setCell_below ?_ (by dsimp only; omega) _)
    exact h9
  · repeat (refine Below.setCell ?_ (by dsimp only; omega) _)
    exact hb4'.out
set_option maxHeartbeats 1000000 in
theorem laws_eqItemS_same (a b : Option Addr) (ca cb : Nat) (xs : List Itm) (w : World) (hx : RT w a xs) (hy : RT w b xs) (h1 : itemsSz xs ≤ 1048576) :
    Calls Tryd.prog 49 #[.slice a xs.length ca, .slice b xs.length cb] w fun e w' => e = .returned (.bool true) ∧ Below w.heap.size w w' := by
  have hdl := itemsSz_len xs
  generalize hN : xs.length = n at *
  have hN' := Lib.hid hN
  clear hN
  go_enter Tryd.func49, Tryd.ntmps49
  go_wp2_with fail
  go_loopw [5] (fun i wr => ∃ k : Nat, k ≤ n ∧ i = .int .i64 k ∧ Below w.heap.size w wr) (fun i _ => n - (intOf i).toNat)
  case atStart => exact ⟨0, by omega, rfl, Below.refl _ _⟩
  case round =>
    obtain ⟨k, hk, rfl, hb⟩ := hrel
    by_cases hlt : k < n
    · obtain ⟨x, hxk⟩ := get_some (l := xs) (k := k) (by rw [hN'.out]; exact hlt)
      obtain ⟨b1, o1, rfl, hc0, hc1, hc2, hc3⟩ := (hx.kept hb).at hxk
      obtain ⟨b2, o2, rfl, hd0, hd1, hd2, hd3⟩ := (hy.kept hb).at hxk
      clear hxk
      go_wp2_with fail
      go_region_with (go_at_call 87; ((with_reducible refine (laws_eqItem_same x _).mono ?_); rintro e wq ⟨rfl, hbq⟩))
      all_goals
        go_wp2_with fail
        go_roundw
        case rel => exact ⟨k + 1, by omega, by go_num, bthen (bthen hb (Below.refl _ _).drew) hbq⟩
        case measure => simp [intOf]; omega
    · go_wp2_with fail
      go_ret
      exact ⟨rfl, hb⟩
theorem laws_eqLayout_same (wd : Int) (a b : Option Addr) (ca cb : Nat) (xs : List Itm) (w : World) (hx : RT w a xs) (hy : RT w b xs) (h1 : itemsSz xs ≤ 1048576) :
    Calls Tryd.prog 21 #[.agg #[.int .i64 wd, .slice a xs.length ca], .agg #[.int .i64 wd, .slice b xs.length cb]] w fun e w' => e = .returned (.bool true) ∧ Below w.heap.size w w' := by
  have hb2 := Lib.hid (below_alloc2 w (.cells #[.int .i64 wd, .slice a xs.length ca] 47) (.cells #[.int .i64 wd, .slice b xs.length cb] 47))
  go_enter Tryd.func21, Tryd.ntmps21
  go_wp2_with (go_at_call 49; ((with_reducible refine (laws_eqItemS_same _ _ _ _ _ _ (hx.kept hb2.out) (hy.kept hb2.out) h1).mono ?_); rintro e w' ⟨rfl, hb⟩))
  go_ret
  exact ⟨rfl, bthen hb2.out hb⟩
def sameLayB (u v : Int) (xs ys : List Itm) : Bool := (u == v) && eqB xs ys
theorem sameLay_1 {u v : Int} (xs ys : List Itm) (h : (u == v) = false) : sameLayB u v xs ys = false := by unfold sameLayB; rw [h]; rfl
theorem sameLay_2 {u v : Int} (xs ys : List Itm) (h : (u == v) = true) : sameLayB u v xs ys = eqB xs ys := by unfold sameLayB; rw [h]; rfl
theorem item_neq (x y : Itm) (w : World) : (binOp .neq 77 (.agg #[.string x.name, .int .i64 x.kind, .int .i64 x.fr, .int .i64 x.to]) (.agg #[.string y.name, .int .i64 y.kind, .int .i64 y.fr, .int .i64 y.to])).run Tryd.prog w = .ok (.bool (itNe x y)) w := by
  obtain ⟨s, k, f, t⟩ := x
  obtain ⟨s', k', f', t'⟩ := y
  go_simp
  have hs : s.toList = s'.toList ↔ s = s' := ⟨fun h => ByteArray.ext (Array.toList_inj.1 (by rwa [toList_eq, toList_eq] at h)), fun h => by rw [h]⟩
  unfold itNe
  by_cases h1 : s = s'
  · by_cases h2 : k = k'
    · by_cases h3 : f = f'
      · by_cases h4 : t = t'
        · simp [h1, h2, h3, h4]
        · simp [h1, h2, h3, h4]
      · simp [h1, h2, h3]
    · simp [h1, h2]
  · simp [hs, h1]
end Go.Proofs.YtcbjfgjlhjjpiaaDoor
