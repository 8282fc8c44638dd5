/- The walks of the functions that punch texts: what each returns, and that memory has at most new blocks. -/
import Derived.Test.YtdjggbccdjbcoaaData
import Derived.Test.YtdjggbccdjbcoaaRanks
import Derived.Test.YtdjggbccdjbcoaaLay
import Derived.Deep.RegionWith
namespace Go.Proofs.Ytdjggbccdjbcoaa
open Go.RowKit
set_option maxRecDepth 100000
set_option linter.unusedVariables false
set_option linter.unusedSimpArgs false
set_option linter.unnecessarySimpa false

def charsB (s : ByteArray) : Bool := s.data.toList.all fun c => charB c.toNat
/-- the columns of a card whose first k letters are punched -/
def punchUp (s : ByteArray) (n k : Nat) : List Int := ((s.data.toList.take k).map fun c => code0 c.toNat) ++ List.replicate (n - k) 0
theorem punchUp_length (s : ByteArray) {n k : Nat} (h : k ≤ s.size) (h2 : s.size ≤ n) : (punchUp s n k).length = n := by
  have := len_bytes s
  simp [punchUp]; omega
theorem punchUp_zero (s : ByteArray) (n : Nat) : punchUp s n 0 = zerosL n := by simp [punchUp, zerosL]
theorem punchUp_set {s : ByteArray} {n k : Nat} {c : UInt8} (h : s.data.toList[k]? = some c) (hk : k < n) : ((punchUp s n k).map (Value.int .i64)).set k (.int .i64 (code0 c.toNat)) = (punchUp s n (k + 1)).map (Value.int .i64) := by
  have hlt := (List.getElem?_eq_some_iff.1 h).1
  have hlb := len_bytes s
  have h1 : ((s.data.toList.take k).map fun c => code0 c.toNat).length = k := by simp; omega
  rw [← List.map_set, punchUp, punchUp, List.set_append_right _ _ (by omega), h1, Nat.sub_self, List.take_add_one, h]
  obtain ⟨m, hm⟩ : ∃ m, n - k = m + 1 := ⟨n - k - 1, by omega⟩
  rw [hm, List.replicate_succ, List.set_cons_zero, show n - (k + 1) = m by omega]
  simp
theorem punchUp_at {s : ByteArray} {n k : Nat} (h : k < s.size) (h2 : s.size ≤ n) : ∃ v, ((punchUp s n k).map (Value.int .i64))[k]? = some v :=
  get_some (by rw [List.length_map, punchUp_length s (by omega) h2]; omega)
def punchTextCode (s : ByteArray) (wd : Int) : Int := if inB wd 1 20 then (if wd < (s.size : Int) then 5 else if charsB s then 0 else 7) else 2
def punchTextL (s : ByteArray) (wd : Int) : List Int := if punchTextCode s wd == 0 then punchUp s wd.toNat s.size else []
theorem pt_width {s : ByteArray} {wd : Int} (h : inB wd 1 20 = false) : punchTextCode s wd = 2 ∧ punchTextL s wd = [] := by
  have h1 : punchTextCode s wd = 2 := by unfold punchTextCode; rw [h]; rfl
  exact ⟨h1, by unfold punchTextL; rw [h1]; rfl⟩
theorem pt_full {s : ByteArray} {wd : Int} (h : inB wd 1 20 = true) (h2 : wd < (s.size : Int)) : punchTextCode s wd = 5 ∧ punchTextL s wd = [] := by
  have h1 : punchTextCode s wd = 5 := by unfold punchTextCode; rw [h]; simp [h2]
  exact ⟨h1, by unfold punchTextL; rw [h1]; rfl⟩
theorem pt_chars {s : ByteArray} {wd : Int} (h : inB wd 1 20 = true) (h2 : ¬ wd < (s.size : Int)) (h3 : charsB s = false) : punchTextCode s wd = 7 ∧ punchTextL s wd = [] := by
  have h1 : punchTextCode s wd = 7 := by unfold punchTextCode; rw [h]; simp [h2, h3]
  exact ⟨h1, by unfold punchTextL; rw [h1]; rfl⟩
theorem pt_ok {s : ByteArray} {n : Nat} (h : inB n 1 20 = true) (h2 : ¬ (n : Int) < (s.size : Int)) (h3 : charsB s = true) : punchTextCode s n = 0 ∧ punchTextL s n = punchUp s n s.size := by
  have h1 : punchTextCode s n = 0 := by unfold punchTextCode; rw [h]; simp [h3]; omega
  exact ⟨h1, by unfold punchTextL; rw [h1]; rfl⟩
theorem punchTextL_len (s : ByteArray) (wd : Int) : (punchTextL s wd).length ≤ 1048576 := by
  unfold punchTextL
  split
  · rename_i h
    unfold punchTextCode at h
    cases h1 : inB wd 1 20
    · rw [h1] at h; simp at h
    · have h2 := inB_true.1 h1
      rw [h1] at h
      by_cases h3 : wd < (s.size : Int)
      · simp [h3] at h
      · rw [punchUp_length s (Nat.le_refl _) (by omega)]; omega
  · simp
set_option maxHeartbeats 400000 in
theorem impl_areCharacters (s : ByteArray) (hs : s.size ≤ maxLen) (w : World) :
    Calls Try.prog 79 #[.string s] w fun e w' => e = .returned (.bool (charsB s)) ∧ w = w' := by
  unfold maxLen at hs
  have hl := Lib.hid (len_bytes s)
  go_enter Try.func79, Try.ntmps79
  go_wp2_with fail
  go_loop [3] (fun i => ∃ k : Nat, k ≤ s.size ∧ i = .int .i64 k ∧ Hid ((s.data.toList.take k).all (fun c => charB c.toNat) = true)) (fun i => s.size - (intOf i).toNat)
  case atStart => exact ⟨0, by omega, rfl, by simp [Hid]⟩
  case round =>
    obtain ⟨k, hk, rfl, hall⟩ := hrel
    by_cases hlt : k < s.size
    · have hget := Lib.hid (get_bytes s k hlt)
      go_wp2_with (first | (go_at_call 74; ((with_reducible refine (impl_isCharacter _ _).mono ?_); rintro e w' ⟨rfl, rfl⟩)))
      all_goals first
        | (go_round
           case rel => exact ⟨k + 1, by omega, by go_num, all_succ hget.out hall.out (by simp_all)⟩
           case measure => simp [intOf]; omega)
        | (go_ret; exact ⟨ret_bool (by unfold charsB; rw [all_not hget.out (by simp_all)]), rfl⟩)
    · go_wp2_with fail
      go_ret
      exact ⟨ret_bool (by unfold charsB; rw [all_take (by rw [hl.out]; omega) hall.out]), rfl⟩
set_option maxHeartbeats 1000000 in
theorem impl_punchText (s : ByteArray) (n : Nat) (w : World) (hn : n ≤ 1048576) (hs : s.size ≤ n) :
    Calls Try.prog 80 #[.string s, .int .i64 n] w fun e w' => ∃ a' c', e = .returned (.agg #[.slice a' n c']) ∧ w'.ownsRow w.heap.size 2 1 (.slice a' n c') n ((punchUp s n s.size).map (Value.int .i64)) ∧ Below w.heap.size w w' := by
  have hb1 := Lib.hid (below_alloc (w := w) (.cells #[.slice none 0 0] 48))
  go_enter Try.func80, Try.ntmps80
  go_wp2_with fail
  refine (impl_blank n _ hn).mono ?_
  rintro e w2 ⟨a2, c2, rfl, hown, hb⟩
  (have hc0 := keep (p := ⟨w.heap.size, 0, none⟩) (v := .slice none 0 0) hb (by simp [go_sem, *]); have hf0 := keepf (p := ⟨w.heap.size, 0, none⟩) (v := .slice none 0 0) hb (by simp [go_sem, *]) (by simp [go_sem, *]); have hl0 := World.block_lt_of_cell? _ _ hc0)
  have ho := Lib.hid (OV.of (own_mono (B := w.heap.size + 1) hown (by first | omega | simp)))
  have hb2 := Lib.hid (bthen hb1.out hb)
  have hl0' : w.heap.size < w2.heap.size := hl0
  clear hown hb
  have hbx : (w2.alloc (.cells #[.slice a2 n c2] 48)).cell? ⟨w2.heap.size, 0, none⟩ = some (.slice a2 n c2) := by simp [go_sem]
  have hbz := keep (below_alloc (w := w2) (.cells #[.slice a2 n c2] 48)) hc0
  have hbf := keepf (below_alloc (w := w2) (.cells #[.slice a2 n c2] 48)) hc0 hf0
  have hB := Lib.hid (bthen hb2.out (below_alloc (.cells #[.slice a2 n c2] 48)))
  have ho0 : OV (w.heap.size + 1) w2.heap.size (w2.alloc (.cells #[.slice a2 n c2] 48)) 2 1 a2 n c2 ((punchUp s n 0).map (Value.int .i64)) := by rw [punchUp_zero]; exact ho.out.kept (below_alloc _)
  go_wp2_with fail
  generalize hW : (w2.alloc (.cells #[.slice a2 n c2] 48)) = W at *
  clear hW
  go_loopw [6] (fun i wr => ∃ j : Nat, j ≤ s.size ∧ i = .int .i64 j ∧ OV (w.heap.size + 1) w2.heap.size wr 2 1 a2 n c2 ((punchUp s n j).map (Value.int .i64)) ∧ Within (w.heap.size + 1) w2.heap.size W wr) (fun i _ => s.size - (intOf i).toNat)
  case atStart => exact ⟨0, by omega, rfl, ho0, Within.refl _ _ _⟩
  case round =>
    obtain ⟨j, hj, rfl, hoj, hw⟩ := hrel
    have hbxr := hw.cell hbx (Or.inr (Nat.le_refl _))
    have hbzr := hw.cell hbz (Or.inl (by dsimp only; omega))
    by_cases hlt : j < s.size
    · obtain ⟨g, rfl, hg1, hg2⟩ := hoj.addr (by omega)
      have hget := get_bytes s j hlt
      obtain ⟨v, hv⟩ := punchUp_at hlt hs
      have hcg := (hoj.1.cellAt j (by omega)).trans hv
      have hfg := hoj.1.frozenAt j
      have hset := Lib.hid (punchUp_set hget (by omega : j < n))
      have hjn : j < n := by omega
      have hg3 : ¬ g = w2.heap.size := by omega
      have hg4 : ¬ w2.heap.size = g := by omega
      clear hv hget
      go_wp2_with fail
      first | go_region_with (go_at_call 111; refine (impl_codeOf _ _).mono ?_; rintro e w' ⟨rfl, rfl⟩) | fail
      all_goals go_wp2_with fail
      all_goals
        go_roundw
        case rel => exact ⟨j + 1, by omega, by go_num, by rw [← hset.out]; exact (hoj.store j _).kept (below_drewN (Below.refl _ _) 1), (hw.setCell (p := ⟨g, j, none⟩) hg1 hg2 _).trans (Within.of_below (below_drewN (Below.refl _ _) 1))⟩
        case measure => simp [intOf]; omega
    · obtain rfl : j = s.size := by omega
      have hfzr := hw.frozen hbz hbf (Or.inl (by dsimp only; omega))
      go_wp2_with fail
      refine bodyPost_ret (v := .agg #[.slice a2 n c2]) (by simp [results, Try.results80, go_sem, *]) rfl ⟨a2, c2, rfl, ?_, (hw.below hB.out (by omega) hB.out.size).setCell (by dsimp only; omega) _⟩
      exact own_mono (ownsRow_setCell_below hoj.1 (by dsimp only; omega) _) (by omega)
set_option maxHeartbeats 400000 in
theorem impl_PunchText (s : ByteArray) (wd : Int) (w : World) (hs : s.size ≤ 1048576) :
    Calls Try.prog 29 #[.string s, .int .i64 wd] w fun e w' => ∃ a' c', e = .returned (.tuple #[.agg #[.slice a' (punchTextL s wd).length c'], .int .i64 (punchTextCode s wd)]) ∧ w'.ownsRow w.heap.size 2 1 (.slice a' (punchTextL s wd).length c') (punchTextL s wd).length ((punchTextL s wd).map (Value.int .i64)) ∧ Below w.heap.size w w' := by
  have hb1 := Lib.hid (below_alloc (w := w) (.cells #[.slice none 0 0] 48))
  cases hi : inB wd 1 20
  · have hf := Lib.hid (pt_width (s := s) hi)
    go_enter Try.func29, Try.ntmps29
    go_wp2_with (go_at_call 78; ((with_reducible refine (impl_inside _ _ _ _).mono ?_); rintro e w' ⟨rfl, rfl⟩))
    refine bodyPost_ret (v := .tuple #[.agg #[.slice none 0 0], .int .i64 2]) (by simp [results, Try.results29, go_sem]) rfl ⟨none, 0, by rw [hf.out.1, hf.out.2]; rfl, by rw [hf.out.2]; exact World.ownsRow_nil _ _ _ _, hb1.out⟩
  · by_cases hfl : wd < (s.size : Int)
    · have hf := Lib.hid (pt_full hi hfl)
      go_enter Try.func29, Try.ntmps29
      go_wp2_with (go_at_call 78; ((with_reducible refine (impl_inside _ _ _ _).mono ?_); rintro e w' ⟨rfl, rfl⟩))
      refine bodyPost_ret (v := .tuple #[.agg #[.slice none 0 0], .int .i64 5]) (by simp [results, Try.results29, go_sem]) rfl ⟨none, 0, by rw [hf.out.1, hf.out.2]; rfl, by rw [hf.out.2]; exact World.ownsRow_nil _ _ _ _, hb1.out⟩
    · cases hc : charsB s
      · have hf := Lib.hid (pt_chars hi hfl hc)
        go_enter Try.func29, Try.ntmps29
        go_wp2_with (first | (go_at_call 78; ((with_reducible refine (impl_inside _ _ _ _).mono ?_); rintro e w' ⟨rfl, rfl⟩)) | (go_at_call 79; ((with_reducible refine (impl_areCharacters _ (small hs) _).mono ?_); rintro e w' ⟨rfl, rfl⟩)))
        refine bodyPost_ret (v := .tuple #[.agg #[.slice none 0 0], .int .i64 7]) (by simp [results, Try.results29, go_sem]) rfl ⟨none, 0, by rw [hf.out.1, hf.out.2]; rfl, by rw [hf.out.2]; exact World.ownsRow_nil _ _ _ _, hb1.out⟩
      · have hb := inB_true.1 hi
        obtain ⟨n, rfl⟩ := Int.eq_ofNat_of_zero_le (show 0 ≤ wd by omega)
        have hf := Lib.hid (pt_ok hi hfl hc)
        have hsn : s.size ≤ n := by omega
        have hln := Lib.hid (punchUp_length s (Nat.le_refl _) hsn)
        go_enter Try.func29, Try.ntmps29
        go_wp2_with (first | (go_at_call 78; ((with_reducible refine (impl_inside _ _ _ _).mono ?_); rintro e w' ⟨rfl, rfl⟩)) | (go_at_call 79; ((with_reducible refine (impl_areCharacters _ (small hs) _).mono ?_); rintro e w' ⟨rfl, rfl⟩)))
        refine (impl_punchText s n _ (by omega) hsn).mono ?_
        rintro e w1 ⟨a1, c1, rfl, hown, hb1⟩
        (have hc0 := keep (p := ⟨w.heap.size, 0, none⟩) (v := .slice none 0 0) hb1 (by simp [go_sem, *]); have hf0 := keepf (p := ⟨w.heap.size, 0, none⟩) (v := .slice none 0 0) hb1 (by simp [go_sem, *]) (by simp [go_sem, *]); have hl0 := World.block_lt_of_cell? _ _ hc0)
        have hown' := Lib.hid hown
        have hb1' := Lib.hid (bthen (below_alloc _) hb1)
        clear hown hb1
        go_wp2_with fail
        refine bodyPost_ret (v := .tuple #[.agg #[.slice a1 n c1], .int .i64 0]) (by simp [results, Try.results29, go_sem, hc0]) rfl ⟨a1, c1, by rw [hf.out.1, hf.out.2, hln.out], ?_, ?_⟩
        · rw [hf.out.2, hln.out]
          refine own_mono (B' := w.heap.size + 1) (ownsRow_setCell_below (by simpa using hown'.out) ?_ _) (by omega)
          simp
        · exact hb1'.out.setCell (by simp) _
theorem codes_upto {s : ByteArray} {k : Nat} {c : UInt8} (h : Hid ((s.data.toList.take k).all (fun c => charB c.toNat) = true)) (hx : s.data.toList[k]? = some c) (hk : charB c.toNat = true) : Hid ((s.data.toList.take (k + 1)).all (fun c => charB c.toNat) = true) := all_succ hx h.out hk
set_option maxHeartbeats 1000000 in
theorem spec_PunchText (s : ByteArray) (wd : Int) (w : World) (hs : s.size ≤ 1048576) :
    Calls Try.prog 32 #[.string s, .int .i64 wd] w fun e w' => ∃ a' c', e = .returned (.tuple #[.agg #[.slice a' (punchTextL s wd).length c'], .int .i64 (punchTextCode s wd)]) ∧ w'.ownsRow w.heap.size 2 1 (.slice a' (punchTextL s wd).length c') (punchTextL s wd).length ((punchTextL s wd).map (Value.int .i64)) ∧ Below w.heap.size w w' := by
  have hb1 := Lib.hid (below_alloc (w := w) (.cells #[.slice none 0 0] 48))
  cases hi : inB wd 1 20
  · have hf := Lib.hid (pt_width (s := s) hi)
    go_enter Try.func32, Try.ntmps32
    go_wp2_with (go_at_call 84; ((with_reducible refine (spec_l00In _ _ _ _).mono ?_); rintro e w' ⟨rfl, rfl⟩))
    refine bodyPost_ret (v := .tuple #[.agg #[.slice none 0 0], .int .i64 2]) (by simp [results, Try.results32, go_sem]) rfl ⟨none, 0, by rw [hf.out.1, hf.out.2]; rfl, by rw [hf.out.2]; exact World.ownsRow_nil _ _ _ _, hb1.out⟩
  · by_cases hfl : wd < (s.size : Int)
    · have hf := Lib.hid (pt_full hi hfl)
      go_enter Try.func32, Try.ntmps32
      go_wp2_with (go_at_call 84; ((with_reducible refine (spec_l00In _ _ _ _).mono ?_); rintro e w' ⟨rfl, rfl⟩))
      refine bodyPost_ret (v := .tuple #[.agg #[.slice none 0 0], .int .i64 5]) (by simp [results, Try.results32, go_sem]) rfl ⟨none, 0, by rw [hf.out.1, hf.out.2]; rfl, by rw [hf.out.2]; exact World.ownsRow_nil _ _ _ _, hb1.out⟩
    · have hb := inB_true.1 hi
      obtain ⟨n, rfl⟩ := Int.eq_ofNat_of_zero_le (show 0 ≤ wd by omega)
      have hno := Lib.hid (fun (h : charsB s = false) => pt_chars hi hfl h)
      have hyes := Lib.hid (fun (h : charsB s = true) => pt_ok hi hfl h)
      have hsn : s.size ≤ n := by omega
      have hln := Lib.hid (punchUp_length s (Nat.le_refl _) hsn)
      obtain ⟨i0, hi0, hz0, hz1, hz2⟩ := info_parts Try.info_int64
      have hm := Lib.hid (show n ≤ maxLen by simp [maxLen]; omega)
      go_enter Try.func32, Try.ntmps32
      go_wp2_with (first | (go_at_call 84; ((with_reducible refine (spec_l00In _ _ _ _).mono ?_); rintro e w' ⟨rfl, rfl⟩)) | (at_make; refine wpList_make_full _ rfl _ _ 46 rfl (w.heap.size + 1) 2 i0 (.int .i64 0) 1 Try.underlying46 hi0 hz0 hz1 _ _ _ _ n rfl rfl rfl rfl (by rw [hz2]; omega) hm.out (by simp) ?_; intro w2 hown hgrow; have hbg := below_grown hgrow; (have hc0 := keep (p := ⟨w.heap.size, 0, none⟩) (v := .slice none 0 0) hbg (by simp [go_sem, *]); have hf0 := keepf (p := ⟨w.heap.size, 0, none⟩) (v := .slice none 0 0) hbg (by simp [go_sem, *]) (by simp [go_sem, *]); have hl0 := World.block_lt_of_cell? _ _ hc0); have hownh := Lib.hid hown; have hbgh := Lib.hid hbg; clear hown hgrow hbg))
      have hl0' : w.heap.size < w2.heap.size := hl0
      have hgl := Lib.hid (own_at hownh.out rfl).2
      have hgl' : w.heap.size + 1 < w2.heap.size := by have := hgl.out; simpa using this
      have hbx : (w2.alloc (.cells #[.slice (some ⟨w.heap.size + 1, 0, none⟩) n n] 48)).cell? ⟨w2.heap.size, 0, none⟩ = some (.slice (some ⟨w.heap.size + 1, 0, none⟩) n n) := by simp [go_sem]
      have hbz := keep (below_alloc (w := w2) (.cells #[.slice (some ⟨w.heap.size + 1, 0, none⟩) n n] 48)) hc0
      have hbf := keepf (below_alloc (w := w2) (.cells #[.slice (some ⟨w.heap.size + 1, 0, none⟩) n n] 48)) hc0 hf0
      have hB := Lib.hid (bthen (bthen hb1.out hbgh.out) (below_alloc (.cells #[.slice (some ⟨w.heap.size + 1, 0, none⟩) n n] 48)))
      have ho0 : OV (w.heap.size + 1) w2.heap.size (w2.alloc (.cells #[.slice (some ⟨w.heap.size + 1, 0, none⟩) n n] 48)) 2 1 (some ⟨w.heap.size + 1, 0, none⟩) n n ((punchUp s n 0).map (Value.int .i64)) := by
        rw [punchUp_zero, zerosL_vals]
        refine (OV.of ?_).kept (below_alloc _)
        simpa [Value.cells, toList_madeCells_one] using hownh.out
      go_wp2_with fail
      generalize hW : (w2.alloc (.cells #[.slice (some ⟨w.heap.size + 1, 0, none⟩) n n] 48)) = W at *
      clear hW
      go_loopw [7] (fun i wr => ∃ j : Nat, j ≤ s.size ∧ i = .int .i64 j ∧ OV (w.heap.size + 1) w2.heap.size wr 2 1 (some ⟨w.heap.size + 1, 0, none⟩) n n ((punchUp s n j).map (Value.int .i64)) ∧ Within (w.heap.size + 1) w2.heap.size W wr ∧ Hid ((s.data.toList.take j).all (fun c => charB c.toNat) = true)) (fun i _ => s.size - (intOf i).toNat)
      case atStart => exact ⟨0, by omega, rfl, ho0, Within.refl _ _ _, Lib.hid rfl⟩
      case round =>
        obtain ⟨j, hj, rfl, hoj, hw, hall⟩ := hrel
        have hbxr := hw.cell hbx (Or.inr (Nat.le_refl _))
        have hbzr := hw.cell hbz (Or.inl (by dsimp only; omega))
        have hfzr := hw.frozen hbz hbf (Or.inl (by dsimp only; omega))
        by_cases hlt : j < s.size
        · have hget := get_bytes s j hlt
          cases hch : charB (s[j]'hlt).toNat
          · have hf := Lib.hid (hno.out (by unfold charsB; rw [all_not hget hch]))
            have hneg : codeI (s[j]'hlt).toNat < 0 := by unfold charB at hch; simpa using hch
            clear hget hch
            go_wp2_with (go_at_call 85; ((with_reducible refine (spec_l03Code _ _).mono ?_); rintro e w' ⟨rfl, rfl⟩))
            refine bodyPost_ret (v := .tuple #[.agg #[.slice none 0 0], .int .i64 7]) (by simp [results, Try.results32, go_sem, *]) rfl ⟨none, 0, by rw [hf.out.1, hf.out.2]; rfl, by rw [hf.out.2]; exact World.ownsRow_nil _ _ _ _, ?_⟩
            first | exact hw.below hB.out (by omega) hB.out.size | exact (hw.below hB.out (by omega) hB.out.size).setCell (by dsimp only; omega) _
          · have hpos : ¬ codeI (s[j]'hlt).toNat < 0 := by unfold charB at hch; simp only [decide_eq_true_eq] at hch; omega
            have hcd := Lib.hid (code0_yes hch)
            obtain ⟨v, hv⟩ := punchUp_at hlt hsn
            have hcg := (hoj.1.cellAt j (by omega)).trans hv
            have hfg := hoj.1.frozenAt j
            have hset := Lib.hid (punchUp_set hget (by omega : j < n))
            have hall' := codes_upto hall hget hch
            have hjn : j < n := by omega
            have hg3 : ¬ w.heap.size + 1 = w2.heap.size := by omega
            have hg4 : ¬ w2.heap.size = w.heap.size + 1 := by omega
            clear hv hget hch
            go_wp2_with (go_at_call 85; ((with_reducible refine (spec_l03Code _ _).mono ?_); rintro e w' ⟨rfl, rfl⟩))
            go_roundw
            case rel => exact ⟨j + 1, by omega, by go_num, by rw [← hset.out, hcd.out]; exact hoj.store j _, hw.setCell (p := ⟨w.heap.size + 1, j, none⟩) (Nat.le_refl _) hgl' _, hall'⟩
            case measure => simp [intOf]; omega
        · obtain rfl : j = s.size := by omega
          have hf := Lib.hid (hyes.out (by have := all_take (l := s.data.toList) (by rw [len_bytes]; exact Nat.le_refl _) hall.out; exact this))
          go_wp2_with fail
          refine bodyPost_ret (v := .tuple #[.agg #[.slice (some ⟨w.heap.size + 1, 0, none⟩) n n], .int .i64 0]) (by simp [results, Try.results32, go_sem, *]) rfl ⟨some ⟨w.heap.size + 1, 0, none⟩, n, by rw [hf.out.1, hf.out.2, hln.out], ?_, (hw.below hB.out (by omega) hB.out.size).setCell (by dsimp only; omega) _⟩
          rw [hf.out.2, hln.out]
          exact own_mono (ownsRow_setCell_below hoj.1 (by dsimp only; omega) _) (by omega)
end Go.Proofs.Ytdjggbccdjbcoaa
