/- The walks of the functions that punch texts: what each returns, and that memory has at most new blocks. -/
import Derived.Test.YtcbjfgjlhjjpiaaGreatDoorData
import Derived.Test.YtcbjfgjlhjjpiaaGreatDoorRanks
import Derived.Test.YtcbjfgjlhjjpiaaGreatDoorLay
import Derived.Deep.RegionWith
namespace Go.Proofs.YtcbjfgjlhjjpiaaGreatDoor
open Go.RowKit
set_option maxRecDepth 100000
set_option linter.unusedVariables false
set_option linter.unusedSimpArgs false
set_option linter.unnecessarySimpa false

def charsB (s : ByteArray) : Bool := s.data.toList.all fun c => charB c.toNat
/-- the columns of a card whose first k letters are punched -/
def punchUp (s : ByteArray) (n k : Nat) : List Int := ((s.data.toList.take k).map fun c => code0 c.toNat) ++ List.replicate (n - k) 0
theorem punchUp_length (s : ByteArray) {n k : Nat} (h : k ≤ s.size) (h2 : s.size ≤ n) : (punchUp s n k).length = n := by
  have := len_bytes s
  simp [punchUp]; omega
theorem punchUp_zero (s : ByteArray) (n : Nat) : punchUp s n 0 = zerosL n := by simp [punchUp, zerosL]
theorem punchUp_set {s : ByteArray} {n k : Nat} {c : UInt8} (h : s.data.toList[k]? = some c) (hk : k < n) : ((punchUp s n k).map (Value.int .i64)).set k (.int .i64 (code0 c.toNat)) = (punchUp s n (k + 1)).map (Value.int .i64) := by
  have hlt := (List.getElem?_eq_some_iff.1 h).1
  have hlb := len_bytes s
  have h1 : ((s.data.toList.take k).map fun c => code0 c.toNat).length = k := by simp; omega
  rw [← List.map_set, punchUp, punchUp, List.set_append_right _ _ (by omega), h1, Nat.sub_self, List.take_add_one, h]
  obtain ⟨m, hm⟩ : ∃ m, n - k = m + 1 := ⟨n - k - 1, by omega⟩
  rw [hm, List.replicate_succ, List.set_cons_zero, show n - (k + 1) = m by omega]
  simp
theorem punchUp_at {s : ByteArray} {n k : Nat} (h : k < s.size) (h2 : s.size ≤ n) : ∃ v, ((punchUp s n k).map (Value.int .i64))[k]? = some v :=
  get_some (by rw [List.length_map, punchUp_length s (by omega) h2]; omega)
def punchTextCode (s : ByteArray) (wd : Int) : Int := if inB wd 1 20 then (if wd < (s.size : Int) then 5 else if charsB s then 0 else 7) else 2
def punchTextL (s : ByteArray) (wd : Int) : List Int := if punchTextCode s wd == 0 then punchUp s wd.toNat s.size else []
theorem pt_width {s : ByteArray} {wd : Int} (h : inB wd 1 20 = false) : punchTextCode s wd = 2 ∧ punchTextL s wd = [] := by
  have h1 : punchTextCode s wd = 2 := by unfold punchTextCode; rw [h]; rfl
  exact ⟨h1, by unfold punchTextL; rw [h1]; rfl⟩
theorem pt_full {s : ByteArray} {wd : Int} (h : inB wd 1 20 = true) (h2 : wd < (s.size : Int)) : punchTextCode s wd = 5 ∧ punchTextL s wd = [] := by
  have h1 : punchTextCode s wd = 5 := by unfold punchTextCode; rw [h]; simp [h2]
  exact ⟨h1, by unfold punchTextL; rw [h1]; rfl⟩
theorem pt_chars {s : ByteArray} {wd : Int} (h : inB wd 1 20 = true) (h2 : ¬ wd < (s.size : Int)) (h3 : charsB s = false) : punchTextCode s wd = 7 ∧ punchTextL s wd = [] := by
  have h1 : punchTextCode s wd = 7 := by unfold punchTextCode; rw [h]; simp [h2, h3]
  exact ⟨h1, by unfold punchTextL; rw [h1]; rfl⟩
theorem pt_ok {s : ByteArray} {n : Nat} (h : inB n 1 20 = true) (h2 : ¬ (n : Int) < (s.size : Int)) (h3 : charsB s = true) : punchTextCode s n = 0 ∧ punchTextL s n = punchUp s n s.size := by
  have h1 : punchTextCode s n = 0 := by unfold punchTextCode; rw [h]; simp [h3]; omega
  exact ⟨h1, by unfold punchTextL; rw [h1]; rfl⟩
theorem punchTextL_len (s : ByteArray) (wd : Int) : (punchTextL s wd).length ≤ 1048576 := by
  unfold punchTextL
  split
  · rename_i h
    unfold punchTextCode at h
    cases h1 : inB wd 1 20
    · rw [h1] at h; simp at h
    · have h2 := inB_true.1 h1
      rw [h1] at h
      by_cases h3 : wd < (s.size : Int)
      · simp [h3] at h
      · rw [punchUp_length s (Nat.le_refl _) (by omega)]; omega
  · simp
set_option maxHeartbeats 400000 in
theorem impl_areCharacters (s : ByteArray) (hs : s.size ≤ maxLen) (w : World) :
    Calls Tryz.prog 137 #[.string s] w fun e w' => e = .returned (.bool (charsB s)) ∧ w = w' := by
  unfold maxLen at hs
  have hl := Lib.hid (len_bytes s)
  go_enter Tryz.func137, Tryz.ntmps137
  go_wp2_with fail
  go_loop [3] (fun i => ∃ k : Nat, k ≤ s.size ∧ i = .int .i64 k ∧ Hid ((s.data.toList.take k).all (fun c => charB c.toNat) = true)) (fun i => s.size - (intOf i).toNat)
  case atStart => exact ⟨0, by omega, rfl, by simp [Hid]⟩
  case round =>
    obtain ⟨k, hk, rfl, hall⟩ := hrel
    by_cases hlt : k < s.size
    · have hget := Lib.hid (get_bytes s k hlt)
      go_wp2_with (first | (go_at_call 175; ((with_reducible refine (impl_isCharacter _ _).mono ?_); rintro e w' ⟨rfl, rfl⟩)))
      all_goals first
        | (go_round
           case rel => exact ⟨k + 1, by omega, by go_num, all_succ hget.out hall.out (by simp_all)⟩
           case measure => simp [intOf]; omega)
        | (go_ret; exact ⟨ret_bool (by unfold charsB; rw [all_not hget.out (by simp_all)]), rfl⟩)
    · go_wp2_with fail
      go_ret
      exact ⟨ret_bool (by unfold charsB; rw [all_take (by rw [hl.out]; omega) hall.out]), rfl⟩
set_option maxHeartbeats 1000000 in
theorem impl_punchText (s : ByteArray) (n : Nat) (w : World) (hn : n ≤ 1048576) (hs : s.size ≤ n) :
    Calls Tryz.prog 140 #[.string s, .int .i64 n] w fun e w' => ∃ a' c', e = .returned (.agg #[.slice a' n c']) ∧ w'.ownsRow w.heap.size 2 1 (.slice a' n c') n ((punchUp s n s.size).map (Value.int .i64)) ∧ Below w.heap.size w w' := by
  have hb1 := Lib.hid (below_alloc (w := w) (.cells #[.slice none 0 0] 30))
  go_enter Tryz.func140, Tryz.ntmps140
  go_wp2_with fail
  refine (impl_blank n _ hn).mono ?_
  rintro e w2 ⟨a2, c2, rfl, hown, hb⟩
  (have hc0 := keep (p := ⟨w.heap.size, 0, none⟩) (v := .slice none 0 0) hb (by simp [go_sem, *]); have hf0 := keepf (p := ⟨w.heap.size, 0, none⟩) (v := .slice none 0 0) hb (by simp [go_sem, *]) (by simp [go_sem, *]); have hl0 := World.block_lt_of_cell? _ _ hc0)
  have ho := Lib.hid (OV.of (own_mono (B := w.heap.size + 1) hown (by first | omega | simp)))
  have hb2 := Lib.hid (bthen hb1.out hb)
  have hl0' : w.heap.size < w2.heap.size := hl0
  clear hown hb
  have hbx : (w2.alloc (.cells #[.slice a2 n c2] 30)).cell? ⟨w2.heap.size, 0, none⟩ = some (.slice a2 n c2) := by simp [go_sem]
  have hbz := keep (below_alloc (w := w2) (.cells #[.slice a2 n c2] 30)) hc0
  have hbf := keepf (below_alloc (w := w2) (.cells #[.slice a2 n c2] 30)) hc0 hf0
  have hB := Lib.hid (bthen hb2.out (below_alloc (.cells #[.slice a2 n c2] 30)))
  have ho0 : OV (w.heap.size + 1) w2.heap.size (w2.alloc (.cells #[.slice a2 n c2] 30)) 2 1 a2 n c2 ((punchUp s n 0).map (Value.int .i64)) := by rw [punchUp_zero]; exact ho.out.kept (below_alloc _)
  go_wp2_with fail
  generalize hW : (w2.alloc (.cells #[.slice a2 n c2] 30)) = W at *
  clear hW
  go_loopw [6] (fun i wr => ∃ j : Nat, j ≤ s.size ∧ i = .int .i64 j ∧ OV (w.heap.size + 1) w2.heap.size wr 2 1 a2 n c2 ((punchUp s n j).map (Value.int .i64)) ∧ Within (w.heap.size + 1) w2.heap.size W wr) (fun i _ => s.size - (intOf i).toNat)
  case atStart => exact ⟨0, by omega, rfl, ho0, Within.refl _ _ _⟩
  case round =>
    obtain ⟨j, hj, rfl, hoj, hw⟩ := hrel
    have hbxr := hw.cell hbx (Or.inr (Nat.le_refl _))
    have hbzr := hw.cell hbz (Or.inl (by dsimp only; omega))
    by_cases hlt : j < s.size
    · obtain ⟨g, rfl, hg1, hg2⟩ := hoj.addr (by omega)
      have hget := get_bytes s j hlt
      obtain ⟨v, hv⟩ := punchUp_at hlt hs
      have hcg := (hoj.1.cellAt j (by omega)).trans hv
      have hfg := hoj.1.frozenAt j
      have hset := Lib.hid (punchUp_set hget (by omega : j < n))
      have hjn : j < n := by omega
      have hg3 : ¬ g = w2.heap.size := by omega
      have hg4 : ¬ w2.heap.size = g := by omega
      clear hv hget
      go_wp2_with fail
      first | go_region_with (go_at_call 177; refine (impl_codeOf _ _).mono ?_; rintro e w' ⟨rfl, rfl⟩) | fail
      all_goals go_wp2_with fail
      all_goals
        go_roundw
        case rel => exact ⟨j + 1, by omega, by go_num, by rw [← hset.out]; exact (hoj.store j _).kept (below_drewN (Below.refl _ _) 1), (hw.setCell (p := ⟨g, j, none⟩) hg1 hg2 _).trans (Within.of_below (below_drewN (Below.refl _ _) 1))⟩
        case measure => simp [intOf]; omega
    · obtain rfl : j = s.size := by omega
      have hfzr := hw.frozen hbz hbf (Or.inl (by dsimp only; omega))
      go_wp2_with fail
      refine bodyPost_ret (v := .agg #[.slice a2 n c2]) (by simp [results, Tryz.results140, go_sem, *]) rfl ⟨a2, c2, rfl, ?_, (hw.below hB.out (by omega) hB.out.size).setCell (by dsimp only; omega) _⟩
      exact own_mono (ownsRow_setCell_below hoj.1 (by dsimp only; omega) _) (by omega)
end Go.Proofs.YtcbjfgjlhjjpiaaGreatDoor
