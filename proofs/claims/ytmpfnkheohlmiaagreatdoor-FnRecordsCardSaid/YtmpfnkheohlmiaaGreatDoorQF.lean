/- The walks of the functions that punch texts: what each returns, and that memory has at most new blocks. The walks of the functions that draw cards: each column that is drawn is one of a card; nothing but the source is written. A deck of the call's own: a card is appended to it; one of its cards is marked. No program in sight. The walks of the functions that draw parts of layouts: what a source gives out of a list. The walks of the functions that draw texts: each letter that is drawn is a character; nothing but the source is written. -/
import Derived.Test.YtmpfnkheohlmiaaGreatDoorQA
import Derived.Test.YtmpfnkheohlmiaaGreatDoorQD
import Derived.Test.YtmpfnkheohlmiaaGreatDoorQE
import Derived.Deep.RegionWith
import Derived.Laws.AppendOwn
import Derived.IntWalk
import Derived.Test.YtmpfnkheohlmiaaGreatDoorQC
namespace Go.Proofs.YtmpfnkheohlmiaaGreatDoor
open Go.RowKit
set_option maxRecDepth 100000
set_option linter.unusedVariables false
set_option linter.unusedSimpArgs false
set_option linter.unnecessarySimpa false

def charsB (s : ByteArray) : Bool := s.data.toList.all fun c => charB c.toNat
/-- the columns of a card whose first k letters are punched -/
def punchUp (s : ByteArray) (n k : Nat) : List Int := ((s.data.toList.take k).map fun c => code0 c.toNat) ++ List.replicate (n - k) 0
theorem punchUp_length (s : ByteArray) {n k : Nat} (h : k ≤ s.size) (h2 : s.size ≤ n) : (punchUp s n k).length = n := by
  have := len_bytes s
  simp [punchUp]; omega
theorem punchUp_zero (s : ByteArray) (n : Nat) : punchUp s n 0 = zerosL n := by simp [punchUp, zerosL]
theorem punchUp_set {s : ByteArray} {n k : Nat} {c : UInt8} (h : s.data.toList[k]? = some c) (hk : k < n) : ((punchUp s n k).map (Value.int .i64)).set k (.int .i64 (code0 c.toNat)) = (punchUp s n (k + 1)).map (Value.int .i64) := by
  have hlt := (List.getElem?_eq_some_iff.1 h).1
  have hlb := len_bytes s
  have h1 : ((s.data.toList.take k).map fun c => code0 c.toNat).length = k := by simp; omega
  rw [← List.map_set, punchUp, punchUp, List.set_append_right _ _ (by omega), h1, Nat.sub_self, List.take_add_one, h]
  obtain ⟨m, hm⟩ : ∃ m, n - k = m + 1 := ⟨n - k - 1, by omega⟩
  rw [hm, List.replicate_succ, List.set_cons_zero, show n - (k + 1) = m by omega]
  simp
theorem punchUp_at {s : ByteArray} {n k : Nat} (h : k < s.size) (h2 : s.size ≤ n) : ∃ v, ((punchUp s n k).map (Value.int .i64))[k]? = some v :=
  get_some (by rw [List.length_map, punchUp_length s (by omega) h2]; omega)
def punchTextCode (s : ByteArray) (wd : Int) : Int := if inB wd 1 20 then (if wd < (s.size : Int) then 5 else if charsB s then 0 else 7) else 2
def punchTextL (s : ByteArray) (wd : Int) : List Int := if punchTextCode s wd == 0 then punchUp s wd.toNat s.size else []
theorem pt_width {s : ByteArray} {wd : Int} (h : inB wd 1 20 = false) : punchTextCode s wd = 2 ∧ punchTextL s wd = [] := by
  have h1 : punchTextCode s wd = 2 := by unfold punchTextCode; rw [h]; rfl
  exact ⟨h1, by unfold punchTextL; rw [h1]; rfl⟩
theorem pt_full {s : ByteArray} {wd : Int} (h : inB wd 1 20 = true) (h2 : wd < (s.size : Int)) : punchTextCode s wd = 5 ∧ punchTextL s wd = [] := by
  have h1 : punchTextCode s wd = 5 := by unfold punchTextCode; rw [h]; simp [h2]
  exact ⟨h1, by unfold punchTextL; rw [h1]; rfl⟩
theorem pt_chars {s : ByteArray} {wd : Int} (h : inB wd 1 20 = true) (h2 : ¬ wd < (s.size : Int)) (h3 : charsB s = false) : punchTextCode s wd = 7 ∧ punchTextL s wd = [] := by
  have h1 : punchTextCode s wd = 7 := by unfold punchTextCode; rw [h]; simp [h2, h3]
  exact ⟨h1, by unfold punchTextL; rw [h1]; rfl⟩
theorem pt_ok {s : ByteArray} {n : Nat} (h : inB n 1 20 = true) (h2 : ¬ (n : Int) < (s.size : Int)) (h3 : charsB s = true) : punchTextCode s n = 0 ∧ punchTextL s n = punchUp s n s.size := by
  have h1 : punchTextCode s n = 0 := by unfold punchTextCode; rw [h]; simp [h3]; omega
  exact ⟨h1, by unfold punchTextL; rw [h1]; rfl⟩
theorem punchTextL_len (s : ByteArray) (wd : Int) : (punchTextL s wd).length ≤ 1048576 := by
  unfold punchTextL
  split
  · rename_i h
    unfold punchTextCode at h
    cases h1 : inB wd 1 20
    · rw [h1] at h; simp at h
    · have h2 := inB_true.1 h1
      rw [h1] at h
      by_cases h3 : wd < (s.size : Int)
      · simp [h3] at h
      · rw [punchUp_length s (Nat.le_refl _) (by omega)]; omega
  · simp
set_option maxHeartbeats 400000 in
theorem impl_areCharacters (s : ByteArray) (hs : s.size ≤ maxLen) (w : World) :
    Calls Tryz.prog 78 #[.string s] w fun e w' => e = .returned (.bool (charsB s)) ∧ w = w' := by
  unfold maxLen at hs
  have hl := Lib.hid (len_bytes s)
  go_enter Tryz.func78, Tryz.ntmps78
  go_wp2_with fail
  go_loop [3] (fun i => ∃ k : Nat, k ≤ s.size ∧ i = .int .i64 k ∧ Hid ((s.data.toList.take k).all (fun c => charB c.toNat) = true)) (fun i => s.size - (intOf i).toNat)
  case atStart => exact ⟨0, by omega, rfl, by simp [Hid]⟩
  case round =>
    obtain ⟨k, hk, rfl, hall⟩ := hrel
    by_cases hlt : k < s.size
    · have hget := Lib.hid (get_bytes s k hlt)
      go_wp2_with (first | (go_at_call 114; ((with_reducible refine (impl_isCharacter _ _).mono ?_); rintro e w' ⟨rfl, rfl⟩)))
      all_goals first
        | (go_round
           case rel => exact ⟨k + 1, by omega, by go_num, all_succ hget.out hall.out (by simp_all)⟩
           case measure => simp [intOf]; omega)
        | (go_ret; exact ⟨ret_bool (by unfold charsB; rw [all_not hget.out (by simp_all)]), rfl⟩)
    · go_wp2_with fail
      go_ret
      exact ⟨ret_bool (by unfold charsB; rw [all_take (by rw [hl.out]; omega) hall.out]), rfl⟩
set_option maxHeartbeats 1000000 in
theorem impl_punchText (s : ByteArray) (n : Nat) (w : World) (hn : n ≤ 1048576) (hs : s.size ≤ n) :
    Calls Tryz.prog 81 #[.string s, .int .i64 n] w fun e w' => ∃ a' c', e = .returned (.agg #[.slice a' n c']) ∧ w'.ownsRow w.heap.size 2 1 (.slice a' n c') n ((punchUp s n s.size).map (Value.int .i64)) ∧ Below w.heap.size w w' := by
  have hb1 := Lib.hid (below_alloc (w := w) (.cells #[.slice none 0 0] 32))
  go_enter Tryz.func81, Tryz.ntmps81
  go_wp2_with fail
  refine (impl_blank n _ hn).mono ?_
  rintro e w2 ⟨a2, c2, rfl, hown, hb⟩
  (have hc0 := keep (p := ⟨w.heap.size, 0, none⟩) (v := .slice none 0 0) hb (by simp [go_sem, *]); have hf0 := keepf (p := ⟨w.heap.size, 0, none⟩) (v := .slice none 0 0) hb (by simp [go_sem, *]) (by simp [go_sem, *]); have hl0 := World.block_lt_of_cell? _ _ hc0)
  have ho := Lib.hid (OV.of (own_mono (B := w.heap.size + 1) hown (by first | omega | simp)))
  have hb2 := Lib.hid (bthen hb1.out hb)
  have hl0' : w.heap.size < w2.heap.size := hl0
  clear hown hb
  have hbx : (w2.alloc (.cells #[.slice a2 n c2] 32)).cell? ⟨w2.heap.size, 0, none⟩ = some (.slice a2 n c2) := by simp [go_sem]
  have hbz := keep (below_alloc (w := w2) (.cells #[.slice a2 n c2] 32)) hc0
  have hbf := keepf (below_alloc (w := w2) (.cells #[.slice a2 n c2] 32)) hc0 hf0
  have hB := Lib.hid (bthen hb2.out (below_alloc (.cells #[.slice a2 n c2] 32)))
  have ho0 : OV (w.heap.size + 1) w2.heap.size (w2.alloc (.cells #[.slice a2 n c2] 32)) 2 1 a2 n c2 ((punchUp s n 0).map (Value.int .i64)) := by rw [punchUp_zero]; exact ho.out.kept (below_alloc _)
  go_wp2_with fail
  generalize hW : (w2.alloc (.cells #[.slice a2 n c2] 32)) = W at *
  clear hW
  go_loopw [6] (fun i wr => ∃ j : Nat, j ≤ s.size ∧ i = .int .i64 j ∧ OV (w.heap.size + 1) w2.heap.size wr 2 1 a2 n c2 ((punchUp s n j).map (Value.int .i64)) ∧ Within (w.heap.size + 1) w2.heap.size W wr) (fun i _ => s.size - (intOf i).toNat)
  case atStart => exact ⟨0, by omega, rfl, ho0, Within.refl _ _ _⟩
  case round =>
    obtain ⟨j, hj, rfl, hoj, hw⟩ := hrel
    have hbxr := hw.cell hbx (Or.inr (Nat.le_refl _))
    have hbzr := hw.cell hbz (Or.inl (by dsimp only; omega))
    by_cases hlt : j < s.size
    · obtain ⟨g, rfl, hg1, hg2⟩ := hoj.addr (by omega)
      have hget := get_bytes s j hlt
      obtain ⟨v, hv⟩ := punchUp_at hlt hs
      have hcg := (hoj.1.cellAt j (by omega)).trans hv
      have hfg := hoj.1.frozenAt j
      have hset := Lib.hid (punchUp_set hget (by omega : j < n))
      have hjn : j < n := by omega
      have hg3 : ¬ g = w2.heap.size := by omega
      have hg4 : ¬ w2.heap.size = g := by omega
      clear hv hget
      go_wp2_with fail
      first | go_region_with (go_at_call 117; refine (impl_codeOf _ _).mono ?_; rintro e w' ⟨rfl, rfl⟩) | fail
      all_goals go_wp2_with fail
      all_goals
        go_roundw
        case rel => exact ⟨j + 1, by omega, by go_num, by rw [← hset.out]; exact (hoj.store j _).kept (below_drewN (Below.refl _ _) 1), (hw.setCell (p := ⟨g, j, none⟩) hg1 hg2 _).trans (Within.of_below (below_drewN (Below.refl _ _) 1))⟩
        case measure => simp [intOf]; omega
    · obtain rfl : j = s.size := by omega
      have hfzr := hw.frozen hbz hbf (Or.inl (by dsimp only; omega))
      go_wp2_with fail
      refine bodyPost_ret (v := .agg #[.slice a2 n c2]) (by simp [results, Tryz.results81, go_sem, *]) rfl ⟨a2, c2, rfl, ?_, (hw.below hB.out (by omega) hB.out.size).setCell (by dsimp only; omega) _⟩
      exact own_mono (ownsRow_setCell_below hoj.1 (by dsimp only; omega) _) (by omega)
end Go.Proofs.YtmpfnkheohlmiaaGreatDoor
namespace Go.Proofs.YtmpfnkheohlmiaaGreatDoor
open Go.RowKit
set_option maxRecDepth 100000
set_option linter.unusedVariables false
set_option linter.unusedSimpArgs false
set_option linter.unnecessarySimpa false

def MaskP (x : Int) : Prop := 0 ≤ x ∧ x ≤ 4095
theorem shl4 {r : Int} (h0 : 0 ≤ r) (h1 : r ≤ 9) : ∃ m, wrap64 (4 * 2 ^ r.toNat) = m ∧ 0 ≤ m ∧ m ≤ 2048 := by
  have h : ∀ n : Fin 10, 0 ≤ wrap64 (4 * 2 ^ n.val) ∧ wrap64 (4 * 2 ^ n.val) ≤ 2048 := by decide +kernel
  exact ⟨_, rfl, h ⟨r.toNat, by omega⟩⟩
theorem shl1 {r : Int} (h0 : 0 ≤ r) (h1 : r ≤ 2) : ∃ m, wrap64 (2 ^ r.toNat) = m ∧ 0 ≤ m ∧ m ≤ 4 := by
  have h : ∀ n : Fin 3, 0 ≤ wrap64 (2 ^ n.val) ∧ wrap64 (2 ^ n.val) ≤ 4 := by decide +kernel
  exact ⟨_, rfl, h ⟨r.toNat, by omega⟩⟩
theorem shl8 {r : Int} (h0 : 0 ≤ r) (h1 : r ≤ 8) : ∃ m, wrap64 (8 * 2 ^ r.toNat) = m ∧ 0 ≤ m ∧ m ≤ 2048 := by
  have h : ∀ n : Fin 9, 0 ≤ wrap64 (8 * 2 ^ n.val) ∧ wrap64 (8 * 2 ^ n.val) ≤ 2048 := by decide +kernel
  exact ⟨_, rfl, h ⟨r.toNat, by omega⟩⟩
theorem or_mask {x y : Int} (hx : MaskP x) (hy : MaskP y) : MaskP (bits BinOp.or IntKind.i64 x y) := by
  obtain ⟨a, rfl⟩ := Int.eq_ofNat_of_zero_le hx.1
  obtain ⟨b, rfl⟩ := Int.eq_ofNat_of_zero_le hy.1
  have h1 := hx.2
  have h2 := hy.2
  have h : (BitVec.ofInt 64 (a : Int) ||| BitVec.ofInt 64 (b : Int)).toNat < 4096 := by
    rw [BitVec.toNat_or]
    refine Nat.or_lt_two_pow (n := 12) ?_ ?_ <;> (simp only [BitVec.ofInt_natCast, BitVec.toNat_ofNat]; omega)
  have h3 : ∀ n : Nat, n < 4096 → MaskP (IntKind.i64.wrap (n : Int)) := by
    intro n hn
    have := IntWalk.i64_in (n : Int) (by omega)
    rw [this]; unfold MaskP; omega
  exact h3 _ h
theorem card_valid {xs : List Int} (h1 : 1 ≤ xs.length) (h2 : xs.length ≤ 20) (hP : ∀ x ∈ xs, MaskP x) : validCardL xs = true := by
  unfold validCardL
  rw [inB_true.2 ⟨by omega, by omega⟩, Bool.true_and, List.all_eq_true]
  exact fun x hx => inB_true.2 (hP x hx)
theorem masks_snoc {xs : List Int} {m : Int} (h : ∀ x ∈ xs, MaskP x) (hm : MaskP m) : ∀ x ∈ xs ++ [m], MaskP x := by
  intro x hx; simp only [List.mem_append, List.mem_singleton] at hx; rcases hx with hx | rfl
  · exact h x hx
  · exact hm
/-- a card of the call's own has been drawn -/
def DrawnC (w : World) (B : Nat) (a : Option Addr) (c : Nat) (l : List UInt8) (k n : Nat) (P : Int → Prop) (e : Ending) (w' : World) : Prop :=
  ∃ (a' : Option Addr) (c' : Nat) (xs : List Int), e = .returned (.agg #[.slice a' xs.length c']) ∧ xs.length = n ∧ (∀ x ∈ xs, P x) ∧ w'.ownsRow w.heap.size 2 1 (.slice a' xs.length c') xs.length (xs.map (Value.int .i64)) ∧ SrcIs w' B a c l k ∧ Within B (B + 1) w w'
set_option maxHeartbeats 4000000 in
theorem spec_l02Draw (B : Nat) (a : Option Addr) (c : Nat) (l : List UInt8) (k0 n : Nat) (w : World) (h : SrcIs w B a c l k0) (hk0 : k0 ≤ 536870912) (hl : l.length ≤ 1073741824) (hn : n ≤ 1048576) :
    Calls Tryz.prog 121 #[.pointer (some ⟨B, 0, none⟩), .int .i64 n] w (DrawnC w B a c l (k0 + 8 * n) n MaskP) := by
  have hBl := h.lt
  have h' := Lib.hid h
  clear h
  obtain ⟨i0, hi, hz0, hz1, hz2⟩ := info_parts Tryz.info_int64
  have hb2 := Lib.hid (below_alloc2 w (.cells #[.slice none 0 0] 32) (.cells #[.slice none 0 0] 32))
  have hs0 := Lib.hid (h'.out.kept hb2.out)
  have hW0 := Lib.hid (Within.of_below (lo := B) (hi := B + 1) hb2.out)
  go_enter Tryz.func121, Tryz.ntmps121
  go_wp2_with fail
  go_loopw [6] (fun i wr => ∃ (k : Nat) (a' : Option Addr) (c' : Nat) (xs : List Int), k ≤ n ∧ i = .int .i64 k ∧ xs.length = k ∧ (∀ x ∈ xs, MaskP x) ∧ wr.cell? ⟨w.heap.size + 1, 0, none⟩ = some (.slice a' xs.length c') ∧ wr.frozen? ⟨w.heap.size + 1, 0, none⟩ = false ∧ wr.cell? ⟨w.heap.size, 0, none⟩ = some (.slice none 0 0) ∧ wr.frozen? ⟨w.heap.size, 0, none⟩ = false ∧ OV (w.heap.size + 2) wr.heap.size wr 2 1 a' xs.length c' (xs.map (Value.int .i64)) ∧ SrcIs wr B a c l (k0 + 8 * k) ∧ Within B (B + 1) w wr ∧ w.heap.size + 2 ≤ wr.heap.size) (fun i _ => n - (intOf i).toNat)
  case atStart => exact ⟨0, none, 0, [], by omega, rfl, rfl, by simp, by simp [go_sem], by simp [go_sem], by simp [go_sem], by simp [go_sem], OV.of (World.ownsRow_nil _ _ _ _), hs0.out, hW0.out, by simp⟩
  case round =>
    obtain ⟨k, a3, c3, xs, hk, rfl, hxk, hP0, hcr, hfr, hcz, hfz, hown, hsr, hW, hsz⟩ := hrel
    have hP := Lib.hid hP0
    have hxk' := Lib.hid hxk
    have hxn : xs.length ≤ 1048576 := by omega
    have hsr' := Lib.hid hsr
    replace hW := Lib.hid hW
    replace hown := Lib.hid hown
    have hm63 := Lib.hid (show xs.length + 1 ≤ maxLen by unfold maxLen; omega)
    clear hP0 hxk hsr
    by_cases hlt : k < n
    · have hlt' : (k : Int) < (n : Int) := by omega
      go_wp2_with fail
      refine (spec_pick B a c l _ 10 _ hsr'.out (by omega) hl (by omega) (by omega)).mono ?_
      rintro e w1 ⟨r1_, rfl, ⟨r1_0, r1_1, _⟩, hsw1, hww1⟩
      replace r1_1 := r1_1 (by omega)
      have hcrw1 := hww1.cell hcr (Or.inr (by dsimp only; omega))
      have hfrw1 := hww1.frozen hcr hfr (Or.inr (by dsimp only; omega))
      replace hcr := hcrw1
      replace hfr := hfrw1
      replace hcz0 := hww1.frozen hcz hfz (Or.inr (by dsimp only; omega))
      replace hcz := hww1.cell hcz (Or.inr (by dsimp only; omega))
      replace hfz := hcz0
      replace hown := Lib.hid (hown.out.within hww1 (Or.inr (by omega)))
      replace hW := Lib.hid (hW.out.trans hww1)
      replace hsz := Nat.le_trans hsz hww1.size
      have hsw1' := Lib.hid hsw1
      clear hsw1 hww1 hcrw1 hfrw1
      obtain ⟨m0, hm0, hm00, hm01⟩ := shl4 r1_0 (by omega)
      go_wp2_with fail
      refine (spec_pick B a c l _ 6 _ hsw1'.out (by omega) hl (by omega) (by omega)).mono ?_
      rintro e w2 ⟨r2_, rfl, ⟨r2_0, r2_1, _⟩, hsw2, hww2⟩
      replace r2_1 := r2_1 (by omega)
      have hcrw2 := hww2.cell hcr (Or.inr (by dsimp only; omega))
      have hfrw2 := hww2.frozen hcr hfr (Or.inr (by dsimp only; omega))
      replace hcr := hcrw2
      replace hfr := hfrw2
      replace hcz0 := hww2.frozen hcz hfz (Or.inr (by dsimp only; omega))
      replace hcz := hww2.cell hcz (Or.inr (by dsimp only; omega))
      replace hfz := hcz0
      replace hown := Lib.hid (hown.out.within hww2 (Or.inr (by omega)))
      replace hW := Lib.hid (hW.out.trans hww2)
      replace hsz := Nat.le_trans hsz hww2.size
      have hsw2' := Lib.hid hsw2
      clear hsw2 hww2 hcrw2 hfrw2
      by_cases q0 : r2_ = 0
      · have e0 : (r2_ == 0) = true := by simp [q0]
        clear q0
        have hown0 := hown.out.1
        go_wp2_with (at_builtin; refine wpList_append_own _ rfl _ _ 30 rfl (w.heap.size + 2) 2 i0 (.int .i64 0) 1 8 Tryz.underlying30 hi hz0 hz1 hz2 rfl (by decide) _ xs.length (xs.map (Value.int .i64)) rfl (hown0.alloc _) ⟨_, 0, none⟩ 1 1 [.int .i64 0] rfl rfl (news_one _ _ _) (one_one rfl) hm63.out (by omega) (by simp only [World.size_alloc]; omega) ?_; intro v5 w5 hown5 hg5 _; have hb5 := (((Below.refl (w.heap.size + 2) _).alloc hsz _).grown hg5 (by simp only [World.size_alloc]; omega) (fun k hk => (hown0.lt k hk).1)); have hcr5 := heldB hb5 (by omega) hcr; have hfr5 := (hb5.frozen (p := ⟨w.heap.size + 1, 0, none⟩) (by dsimp only; omega)).trans hfr; have hcz5 := heldB hb5 (by omega) hcz; have hfz5 := (hb5.frozen (p := ⟨w.heap.size, 0, none⟩) (by dsimp only; omega)).trans hfz; have hs5 := Lib.hid (hsw2'.out.below hb5 (by omega)); have hW5 := Lib.hid (hW.out.then_below hb5 (by omega)); have hsz5 := hb5.size; obtain ⟨a5, c5, hv5, _, _⟩ := own_slice hown5; subst hv5; have hown5' := Lib.hid hown5; clear hown5 hg5 hb5 hown0 hcr hfr hcz hfz)
        go_roundw
        case rel =>
          refine ⟨k + 1, a5, c5, xs ++ [0], by omega, by go_num, by rw [List.length_append, hxk'.out]; rfl, masks_snoc hP.out ⟨by decide, by decide⟩, by simp [go_sem, *], by simp [go_sem, *], by simp [go_sem, *], by simp [go_sem, *], ?_, ?_, ?_, by simp only [World.size_setCell]; omega⟩
          · have h9 := ownsRow_setCell_below hown5'.out (a := ⟨w.heap.size + 1, 0, none⟩) (by dsimp only; omega) (.slice a5 (xs.length + 1) c5)
            rw [List.length_append, List.map_append]
            exact OV.of h9
          · exact (hs5.out.within ((Within.refl (w.heap.size + 1) (w.heap.size + 2) _).setCell (p := ⟨w.heap.size + 1, 0, none⟩) (Nat.le_refl _) (Nat.lt_succ_self _) _) (by omega)).more (by omega)
          · exact hW5.out.then_below ((Below.refl (w.heap.size + 1) _).setCell (p := ⟨w.heap.size + 1, 0, none⟩) (Nat.le_refl _) _) (by omega)
        case measure => simp [intOf]; omega
      · have e0 : (r2_ == 0) = false := by simp [q0]
        by_cases q1 : r2_ = 1
        · have e1 : (r2_ == 1) = true := by simp [q1]
          clear q0 q1
          go_wp2_with fail
          refine (spec_pick B a c l _ 3 _ hsw2'.out (by omega) hl (by omega) (by omega)).mono ?_
          rintro e w3 ⟨r3_, rfl, ⟨r3_0, r3_1, _⟩, hsw3, hww3⟩
          replace r3_1 := r3_1 (by omega)
          have hcrw3 := hww3.cell hcr (Or.inr (by dsimp only; omega))
          have hfrw3 := hww3.frozen hcr hfr (Or.inr (by dsimp only; omega))
          replace hcr := hcrw3
          replace hfr := hfrw3
          replace hcz0 := hww3.frozen hcz hfz (Or.inr (by dsimp only; omega))
          replace hcz := hww3.cell hcz (Or.inr (by dsimp only; omega))
          replace hfz := hcz0
          replace hown := Lib.hid (hown.out.within hww3 (Or.inr (by omega)))
          replace hW := Lib.hid (hW.out.trans hww3)
          replace hsz := Nat.le_trans hsz hww3.size
          have hsw3' := Lib.hid hsw3
          clear hsw3 hww3 hcrw3 hfrw3
          obtain ⟨m1, hm1, hm10, hm11⟩ := shl1 r3_0 (by omega)
          go_wp2_with fail
          refine (spec_pick B a c l _ 9 _ hsw3'.out (by omega) hl (by omega) (by omega)).mono ?_
          rintro e w4 ⟨r4_, rfl, ⟨r4_0, r4_1, _⟩, hsw4, hww4⟩
          replace r4_1 := r4_1 (by omega)
          have hcrw4 := hww4.cell hcr (Or.inr (by dsimp only; omega))
          have hfrw4 := hww4.frozen hcr hfr (Or.inr (by dsimp only; omega))
          replace hcr := hcrw4
          replace hfr := hfrw4
          replace hcz0 := hww4.frozen hcz hfz (Or.inr (by dsimp only; omega))
          replace hcz := hww4.cell hcz (Or.inr (by dsimp only; omega))
          replace hfz := hcz0
          replace hown := Lib.hid (hown.out.within hww4 (Or.inr (by omega)))
          replace hW := Lib.hid (hW.out.trans hww4)
          replace hsz := Nat.le_trans hsz hww4.size
          have hsw4' := Lib.hid hsw4
          clear hsw4 hww4 hcrw4 hfrw4
          obtain ⟨m2, hm2, hm20, hm21⟩ := shl8 r4_0 (by omega)
          have hor := Lib.hid (or_mask (x := m1) (y := m2) ⟨hm10, by omega⟩ ⟨hm20, by omega⟩)
          have hown0 := hown.out.1
          go_wp2_with (at_builtin; refine wpList_append_own _ rfl _ _ 30 rfl (w.heap.size + 2) 2 i0 (.int .i64 0) 1 8 Tryz.underlying30 hi hz0 hz1 hz2 rfl (by decide) _ xs.length (xs.map (Value.int .i64)) rfl (hown0.alloc _) ⟨_, 0, none⟩ 1 1 [.int .i64 (bits BinOp.or IntKind.i64 m1 m2)] rfl rfl (news_one _ _ _) (one_one rfl) hm63.out (by omega) (by simp only [World.size_alloc]; omega) ?_; intro v5 w5 hown5 hg5 _; have hb5 := (((Below.refl (w.heap.size + 2) _).alloc hsz _).grown hg5 (by simp only [World.size_alloc]; omega) (fun k hk => (hown0.lt k hk).1)); have hcr5 := heldB hb5 (by omega) hcr; have hfr5 := (hb5.frozen (p := ⟨w.heap.size + 1, 0, none⟩) (by dsimp only; omega)).trans hfr; have hcz5 := heldB hb5 (by omega) hcz; have hfz5 := (hb5.frozen (p := ⟨w.heap.size, 0, none⟩) (by dsimp only; omega)).trans hfz; have hs5 := Lib.hid (hsw4'.out.below hb5 (by omega)); have hW5 := Lib.hid (hW.out.then_below hb5 (by omega)); have hsz5 := hb5.size; obtain ⟨a5, c5, hv5, _, _⟩ := own_slice hown5; subst hv5; have hown5' := Lib.hid hown5; clear hown5 hg5 hb5 hown0 hcr hfr hcz hfz)
          go_roundw
          case rel =>
            refine ⟨k + 1, a5, c5, xs ++ [(bits BinOp.or IntKind.i64 m1 m2)], by omega, by go_num, by rw [List.length_append, hxk'.out]; rfl, masks_snoc hP.out hor.out, by simp [go_sem, *], by simp [go_sem, *], by simp [go_sem, *], by simp [go_sem, *], ?_, ?_, ?_, by simp only [World.size_setCell]; omega⟩
            · have h9 := ownsRow_setCell_below hown5'.out (a := ⟨w.heap.size + 1, 0, none⟩) (by dsimp only; omega) (.slice a5 (xs.length + 1) c5)
              rw [List.length_append, List.map_append]
              exact OV.of h9
            · exact (hs5.out.within ((Within.refl (w.heap.size + 1) (w.heap.size + 2) _).setCell (p := ⟨w.heap.size + 1, 0, none⟩) (Nat.le_refl _) (Nat.lt_succ_self _) _) (by omega)).more (by omega)
            · exact hW5.out.then_below ((Below.refl (w.heap.size + 1) _).setCell (p := ⟨w.heap.size + 1, 0, none⟩) (Nat.le_refl _) _) (by omega)
          case measure => simp [intOf]; omega
        · have e1 : (r2_ == 1) = false := by simp [q1]
          by_cases q2 : r2_ = 2
          · have e2 : (r2_ == 2) = true := by simp [q2]
            clear q0 q1 q2
            go_wp2_with fail
            refine (spec_pick B a c l _ 4096 _ hsw2'.out (by omega) hl (by omega) (by omega)).mono ?_
            rintro e w3 ⟨r3_, rfl, ⟨r3_0, r3_1, _⟩, hsw3, hww3⟩
            replace r3_1 := r3_1 (by omega)
            have hcrw3 := hww3.cell hcr (Or.inr (by dsimp only; omega))
            have hfrw3 := hww3.frozen hcr hfr (Or.inr (by dsimp only; omega))
            replace hcr := hcrw3
            replace hfr := hfrw3
            replace hcz0 := hww3.frozen hcz hfz (Or.inr (by dsimp only; omega))
            replace hcz := hww3.cell hcz (Or.inr (by dsimp only; omega))
            replace hfz := hcz0
            replace hown := Lib.hid (hown.out.within hww3 (Or.inr (by omega)))
            replace hW := Lib.hid (hW.out.trans hww3)
            replace hsz := Nat.le_trans hsz hww3.size
            have hsw3' := Lib.hid hsw3
            clear hsw3 hww3 hcrw3 hfrw3
            have hown0 := hown.out.1
            go_wp2_with (at_builtin; refine wpList_append_own _ rfl _ _ 30 rfl (w.heap.size + 2) 2 i0 (.int .i64 0) 1 8 Tryz.underlying30 hi hz0 hz1 hz2 rfl (by decide) _ xs.length (xs.map (Value.int .i64)) rfl (hown0.alloc _) ⟨_, 0, none⟩ 1 1 [.int .i64 r3_] rfl rfl (news_one _ _ _) (one_one rfl) hm63.out (by omega) (by simp only [World.size_alloc]; omega) ?_; intro v5 w5 hown5 hg5 _; have hb5 := (((Below.refl (w.heap.size + 2) _).alloc hsz _).grown hg5 (by simp only [World.size_alloc]; omega) (fun k hk => (hown0.lt k hk).1)); have hcr5 := heldB hb5 (by omega) hcr; have hfr5 := (hb5.frozen (p := ⟨w.heap.size + 1, 0, none⟩) (by dsimp only; omega)).trans hfr; have hcz5 := heldB hb5 (by omega) hcz; have hfz5 := (hb5.frozen (p := ⟨w.heap.size, 0, none⟩) (by dsimp only; omega)).trans hfz; have hs5 := Lib.hid (hsw3'.out.below hb5 (by omega)); have hW5 := Lib.hid (hW.out.then_below hb5 (by omega)); have hsz5 := hb5.size; obtain ⟨a5, c5, hv5, _, _⟩ := own_slice hown5; subst hv5; have hown5' := Lib.hid hown5; clear hown5 hg5 hb5 hown0 hcr hfr hcz hfz)
            go_roundw
            case rel =>
              refine ⟨k + 1, a5, c5, xs ++ [r3_], by omega, by go_num, by rw [List.length_append, hxk'.out]; rfl, masks_snoc hP.out ⟨r3_0, by omega⟩, by simp [go_sem, *], by simp [go_sem, *], by simp [go_sem, *], by simp [go_sem, *], ?_, ?_, ?_, by simp only [World.size_setCell]; omega⟩
              · have h9 := ownsRow_setCell_below hown5'.out (a := ⟨w.heap.size + 1, 0, none⟩) (by dsimp only; omega) (.slice a5 (xs.length + 1) c5)
                rw [List.length_append, List.map_append]
                exact OV.of h9
              · exact (hs5.out.within ((Within.refl (w.heap.size + 1) (w.heap.size + 2) _).setCell (p := ⟨w.heap.size + 1, 0, none⟩) (Nat.le_refl _) (Nat.lt_succ_self _) _) (by omega)).more (by omega)
              · exact hW5.out.then_below ((Below.refl (w.heap.size + 1) _).setCell (p := ⟨w.heap.size + 1, 0, none⟩) (Nat.le_refl _) _) (by omega)
            case measure => simp [intOf]; omega
          · have e2 : (r2_ == 2) = false := by simp [q2]
            clear q0 q1 q2
            have hown0 := hown.out.1
            go_wp2_with (at_builtin; refine wpList_append_own _ rfl _ _ 30 rfl (w.heap.size + 2) 2 i0 (.int .i64 0) 1 8 Tryz.underlying30 hi hz0 hz1 hz2 rfl (by decide) _ xs.length (xs.map (Value.int .i64)) rfl (hown0.alloc _) ⟨_, 0, none⟩ 1 1 [.int .i64 m0] rfl rfl (news_one _ _ _) (one_one rfl) hm63.out (by omega) (by simp only [World.size_alloc]; omega) ?_; intro v5 w5 hown5 hg5 _; have hb5 := (((Below.refl (w.heap.size + 2) _).alloc hsz _).grown hg5 (by simp only [World.size_alloc]; omega) (fun k hk => (hown0.lt k hk).1)); have hcr5 := heldB hb5 (by omega) hcr; have hfr5 := (hb5.frozen (p := ⟨w.heap.size + 1, 0, none⟩) (by dsimp only; omega)).trans hfr; have hcz5 := heldB hb5 (by omega) hcz; have hfz5 := (hb5.frozen (p := ⟨w.heap.size, 0, none⟩) (by dsimp only; omega)).trans hfz; have hs5 := Lib.hid (hsw2'.out.below hb5 (by omega)); have hW5 := Lib.hid (hW.out.then_below hb5 (by omega)); have hsz5 := hb5.size; obtain ⟨a5, c5, hv5, _, _⟩ := own_slice hown5; subst hv5; have hown5' := Lib.hid hown5; clear hown5 hg5 hb5 hown0 hcr hfr hcz hfz)
            go_roundw
            case rel =>
              refine ⟨k + 1, a5, c5, xs ++ [m0], by omega, by go_num, by rw [List.length_append, hxk'.out]; rfl, masks_snoc hP.out ⟨hm00, by omega⟩, by simp [go_sem, *], by simp [go_sem, *], by simp [go_sem, *], by simp [go_sem, *], ?_, ?_, ?_, by simp only [World.size_setCell]; omega⟩
              · have h9 := ownsRow_setCell_below hown5'.out (a := ⟨w.heap.size + 1, 0, none⟩) (by dsimp only; omega) (.slice a5 (xs.length + 1) c5)
                rw [List.length_append, List.map_append]
                exact OV.of h9
              · exact (hs5.out.within ((Within.refl (w.heap.size + 1) (w.heap.size + 2) _).setCell (p := ⟨w.heap.size + 1, 0, none⟩) (Nat.le_refl _) (Nat.lt_succ_self _) _) (by omega)).more (by omega)
              · exact hW5.out.then_below ((Below.refl (w.heap.size + 1) _).setCell (p := ⟨w.heap.size + 1, 0, none⟩) (Nat.le_refl _) _) (by omega)
            case measure => simp [intOf]; omega
    · obtain rfl : k = n := by omega
      go_wp2_with fail
      refine bodyPost_ret (v := .agg #[.slice a3 xs.length c3]) (by simp [results, Tryz.results121, go_sem, *]) rfl ⟨a3, c3, xs, rfl, hxk'.out, hP.out, ?_, ?_, ?_⟩
      · exact own_mono (ownsRow_setCell_below (a := ⟨w.heap.size, 0, none⟩) hown.out.1 (by dsimp only; omega) _) (by omega)
      · exact hsr'.out.within ((Within.refl (w.heap.size) (w.heap.size + 1) _).setCell (p := ⟨w.heap.size, 0, none⟩) (Nat.le_refl _) (Nat.lt_succ_self _) _) (by omega)
      · exact hW.out.then_below ((Below.refl w.heap.size _).setCell (p := ⟨w.heap.size, 0, none⟩) (Nat.le_refl _) _) (by omega)
end Go.Proofs.YtmpfnkheohlmiaaGreatDoor
namespace Go.Proofs.YtmpfnkheohlmiaaGreatDoor
open Go.RowKit
set_option linter.unusedVariables false
set_option linter.unusedSimpArgs false
set_option linter.unnecessarySimpa false

theorem RD.RDx {w : World} {a : Option Addr} {xss : List (List Int)} (h : RD w a xss) : RDx w a xss := fun k x hk => by
  obtain ⟨b, o, a', c', e, hc, hr, _⟩ := h.at hk
  exact ⟨b, o, a', c', e, hc, hr⟩
theorem OV.blockAt {w : World} {lo hi e size n c : Nat} {a : Option Addr} {vs : List Value} (h : OV lo hi w e size a n c vs) {p : Addr} (hp : a = some p) : p = ⟨p.block, 0, none⟩ ∧ ∃ cs, w.heap[p.block]? = some (.cells cs e (0, 0)) := by
  obtain ⟨_, ⟨h2, _⟩ | ⟨q, cap, cur, hv, hq, hc, r⟩⟩ := h.1
  · subst hp; cases h2
  · simp only [Value.slice.injEq] at hv
    rw [hp] at hv
    obtain ⟨hv, _⟩ := hv
    simp only [Option.some.injEq] at hv
    subst hv
    exact ⟨rfl, _, hc⟩
/-- rows of different elements lie in different blocks -/
theorem OV.apart {w : World} {lo hi lo' hi' e e' size size' n n' c c' : Nat} {a a' : Option Addr} {vs vs' : List Value} (h : OV lo hi w e size a n c vs) (h' : OV lo' hi' w e' size' a' n' c' vs') (hne : e' ≠ e) {p q : Addr} (hp : a = some p) (hq : a' = some q) : q.block ≠ p.block := fun he => by
  obtain ⟨_, cs, hc⟩ := h.blockAt hp
  obtain ⟨_, cs', hc'⟩ := h'.blockAt hq
  rw [he, hc] at hc'
  simp only [Option.some.injEq, Obj.cells.injEq] at hc'
  exact hne hc'.2.1.symm
theorem OV.grown {w w' : World} {lo hi e size n c : Nat} {a : Option Addr} {vs : List Value} {row : Option Nat} (h : OV lo hi w e size a n c vs) (hg : w.grownBy w' row) (hne : ∀ p, a = some p → some p.block ≠ row) : OV lo hi w' e size a n c vs := by
  refine ⟨?_, h.2⟩
  obtain ⟨h1, h2 | ⟨g, cap, cur, hv, hq, hc, r⟩⟩ := h.1
  · exact ⟨h1, .inl h2⟩
  · have ha : a = some ⟨g, 0, none⟩ := by simp only [Value.slice.injEq] at hv; exact hv.1
    exact ⟨h1, .inr ⟨g, cap, cur, hv, hq, blk_far hc hg (hne _ ha), r⟩⟩
/-- the parts of a deck of the call's own -/
def ODh (hs : List (Option Addr × Nat)) (lo hi : Nat) (w : World) (e e' : Nat) (a : Option Addr) (c : Nat) (xss : List (List Int)) : Prop :=
  hs.length = xss.length ∧ OV lo hi w e 1 a xss.length c (headsV hs xss) ∧
    (∀ (k : Nat) (h : Option Addr × Nat) (xs : List Int), hs[k]? = some h → xss[k]? = some xs → OI lo hi w e' h.1 h.2 xs) ∧
    (∀ (i j : Nat) (h k : Option Addr × Nat) (p q : Addr), i < j → hs[i]? = some h → hs[j]? = some k → h.1 = some p → k.1 = some q → p.block < q.block)
theorem ODh.od {hs : List (Option Addr × Nat)} {lo hi : Nat} {w : World} {e e' c : Nat} {a : Option Addr} {xss : List (List Int)} (h : ODh hs lo hi w e e' a c xss) : OD lo hi w e e' a c xss := ⟨hs, h⟩
theorem OD.parts {lo hi : Nat} {w : World} {e e' c : Nat} {a : Option Addr} {xss : List (List Int)} (h : OD lo hi w e e' a c xss) : ∃ hs, ODh hs lo hi w e e' a c xss := h
theorem OD.nil (lo : Nat) (w : World) (e e' : Nat) {a : Option Addr} {c : Nat} (h : w.ownsRow lo e 1 (.slice a 0 c) 0 []) : OD lo w.heap.size w e e' a c [] :=
  ⟨[], rfl, OV.of h, fun k p xs e1 e2 => by simp at e1, fun i j p q u v _ e1 => by simp at e1⟩
theorem ODh.kept {hs : List (Option Addr × Nat)} {w w' : World} {lo hi e e' c : Nat} {a : Option Addr} {xss : List (List Int)} (h : ODh hs lo hi w e e' a c xss) (hb : Below w.heap.size w w') : ODh hs lo hi w' e e' a c xss := by
  obtain ⟨h1, h2, h3, h4⟩ := h
  exact ⟨h1, h2.kept hb, fun k p xs e1 e2 => (h3 k p xs e1 e2).kept hb, h4⟩
/-- a card of the call's own is appended -/
theorem ODh.push {hs : List (Option Addr × Nat)} {lo M : Nat} {w w3 : World} {e e' c c' c3 : Nat} {a a' a3 : Option Addr} {xss : List (List Int)} {x : List Int} (hne : e' ≠ e) (h : ODh hs lo M w e e' a c xss) (hlM : lo ≤ M) (hMw : M ≤ w.heap.size)
    (ho : w.ownsRow M e' 1 (.slice a' x.length c') x.length (x.map (Value.int .i64))) (hg : w.grownBy w3 (Value.slice a xss.length c).ownBlock)
    (h5 : w3.ownsRow lo e 1 (.slice a3 (xss.length + 1) c3) (xss.length + 1) (headsV hs xss ++ [.slice a' x.length c'])) : OD lo w3.heap.size w3 e e' a3 c3 (xss ++ [x]) := by
  obtain ⟨h1, h2, h3, h4⟩ := h
  have hsz : w.heap.size ≤ w3.heap.size := hg.size
  have far : ∀ {lo' hi' n' d : Nat} {b : Option Addr} {vs : List Value}, OV lo' hi' w e' 1 b n' d vs → OV lo' hi' w3 e' 1 b n' d vs := by
    intro lo' hi' n' d b vs hv
    refine hv.grown hg fun p hp => ?_
    cases a with
    | none => simp [Value.ownBlock]
    | some q =>
      have := h2.apart hv hne rfl hp
      simp only [Value.ownBlock, ne_eq, Option.some.injEq]
      exact this
  refine ⟨hs ++ [(a', c')], by simp [h1], ?_, ?_, ?_⟩
  · rw [headsV_snoc h1, List.length_append]; exact OV.of h5
  · intro k p xs e1 e2
    rcases Nat.lt_trichotomy k xss.length with hk | hk | hk
    · rw [List.getElem?_append_left (by omega)] at e1
      rw [List.getElem?_append_left hk] at e2
      exact OV.wider (far (h3 k p xs e1 e2)) (Nat.le_refl _) (by omega)
    · subst hk
      rw [List.getElem?_append_right (by omega), h1, Nat.sub_self] at e1
      rw [List.getElem?_append_right (Nat.le_refl _), Nat.sub_self] at e2
      simp only [List.getElem?_cons_zero, Option.some.injEq] at e1 e2
      subst e1 e2
      exact OV.wider (far (OV.of ho)) hlM hsz
    · rw [List.getElem?_eq_none (by simp; omega)] at e2; cases e2
  · intro i j p q u v hij e1 e2 hu hv
    by_cases hj : j < xss.length
    · rw [List.getElem?_append_left (by omega)] at e1 e2
      exact h4 i j p q u v hij e1 e2 hu hv
    · have hj' : j = xss.length := by
        have := (List.getElem?_eq_some_iff.1 e2).1
        simp at this; omega
      subst hj'
      rw [List.getElem?_append_left (by omega)] at e1
      rw [List.getElem?_append_right (by omega), h1, Nat.sub_self] at e2
      simp only [List.getElem?_cons_zero, Option.some.injEq] at e2
      subst e2
      obtain ⟨xs, hxs⟩ := get_some (l := xss) (k := i) (by omega)
      have := (h3 i p xs e1 hxs).2 u hu
      have h7 := own_at ho hv
      omega
theorem ODh.pushn {hs : List (Option Addr × Nat)} {lo M n : Nat} {w w3 : World} {e e' c c' c3 : Nat} {a a' a3 : Option Addr} {xss : List (List Int)} {x : List Int} (hne : e' ≠ e) (h : ODh hs lo M w e e' a c xss) (hlM : lo ≤ M) (hMw : M ≤ w.heap.size) (hx : x.length = n)
    (ho : w.ownsRow M e' 1 (.slice a' n c') n (x.map (Value.int .i64))) (hg : w.grownBy w3 (Value.slice a xss.length c).ownBlock)
    (h5 : w3.ownsRow lo e 1 (.slice a3 (xss.length + 1) c3) (xss.length + 1) (headsV hs xss ++ [.slice a' n c'])) : OD lo w3.heap.size w3 e e' a3 c3 (xss ++ [x]) := by
  subst hx; exact h.push hne hlM hMw ho hg h5
theorem ODh.pushN {hs : List (Option Addr × Nat)} {lo M n N : Nat} {w w3 : World} {e e' c c' c3 : Nat} {a a' a3 : Option Addr} {xss : List (List Int)} {x : List Int} (hne : e' ≠ e) (h : ODh hs lo M w e e' a c xss) (hlM : lo ≤ M) (hMw : M ≤ w.heap.size) (hx : x.length = n) (hN : xss.length = N)
    (ho : w.ownsRow M e' 1 (.slice a' n c') n (x.map (Value.int .i64))) (hg : w.grownBy w3 (Value.slice a N c).ownBlock)
    (h5 : w3.ownsRow lo e 1 (.slice a3 (N + 1) c3) (N + 1) (headsV hs xss ++ [.slice a' n c'])) : OD lo w3.heap.size w3 e e' a3 c3 (xss ++ [x]) := by
  subst hx; subst hN; exact h.push hne hlM hMw ho hg h5
theorem ODh.row {hs : List (Option Addr × Nat)} {lo hi N : Nat} {w : World} {e e' c : Nat} {a : Option Addr} {xss : List (List Int)} (h : ODh hs lo hi w e e' a c xss) (hN : xss.length = N) : w.ownsRow lo e 1 (.slice a N c) N (headsV hs xss) := by
  subst hN; exact h.2.1.1
theorem ne_moved {a a6 : Option Addr} {k k6 c c6 B W : Nat} (hat : (Value.slice a6 k6 c6).ownBlock = (Value.slice a k c).ownBlock ∨ (Value.slice a6 k6 c6).ownBlock = some W) (hne : ∀ q, a = some q → ¬ q.block = B) (hW : ¬ W = B) : ∀ q, a6 = some q → ¬ q.block = B := by
  rintro q rfl rfl
  rcases hat with h | h
  · exact own_ne hne h
  · simp only [Value.ownBlock, Option.some.injEq] at h; exact hW h.symm
/-- the deck behind marks: card by card -/
def marksD : Int → List (List Int) → List (List Int)
  | _, [] => []
  | k, x :: r => marksL k x.length :: marksD (k + (x.length : Int)) r
theorem marksD_length : ∀ (k : Int) (xss : List (List Int)), (marksD k xss).length = xss.length
  | _, [] => rfl
  | k, x :: r => by simp [marksD, marksD_length]
theorem marksD_at : ∀ (k : Int) (xss : List (List Int)) (j : Nat) (x : List Int), xss[j]? = some x → (marksD k xss)[j]? = some (marksL (k + (lensUp xss j : Int)) x.length)
  | _, [], j, x, h => by simp at h
  | k, y :: r, 0, x, h => by simp only [List.getElem?_cons_zero, Option.some.injEq] at h; subst h; simp [marksD, lensUp]
  | k, y :: r, j + 1, x, h => by
    simp only [List.getElem?_cons_succ] at h
    simp only [marksD, List.getElem?_cons_succ]
    rw [marksD_at _ r j x h]
    congr 2
    simp [lensUp]; omega
theorem headsV_lens {hs : List (Option Addr × Nat)} : ∀ {xss yss : List (List Int)}, xss.map List.length = yss.map List.length → headsV hs xss = headsV hs yss := by
  induction hs with
  | nil => intro xss yss _; simp [headsV]
  | cons h r ih =>
    intro xss yss he
    cases xss with
    | nil => cases yss with
      | nil => rfl
      | cons y s => simp at he
    | cons x q => cases yss with
      | nil => simp at he
      | cons y s =>
        simp only [List.map_cons, List.cons.injEq] at he
        have := ih he.2
        simp only [headsV, List.zipWith_cons_cons] at *
        rw [he.1, this]
/-- the deck with its first j cards marked -/
def markedD (k : Int) (xss : List (List Int)) (j : Nat) : List (List Int) := (marksD k xss).take j ++ xss.drop j
theorem markedD_zero (k : Int) (xss : List (List Int)) : markedD k xss 0 = xss := by simp [markedD]
theorem markedD_all {k : Int} {xss : List (List Int)} {j : Nat} (h : xss.length ≤ j) : markedD k xss j = marksD k xss := by
  unfold markedD; rw [List.drop_of_length_le h, List.take_of_length_le (by rw [marksD_length]; exact h), List.append_nil]
theorem markedD_len {k : Int} {xss : List (List Int)} {j : Nat} (h : j ≤ xss.length) : (markedD k xss j).length = xss.length := by
  unfold markedD; simp [marksD_length]; omega
theorem markedD_set {k : Int} {xss : List (List Int)} {j : Nat} {x : List Int} (h : xss[j]? = some x) : (markedD k xss j).set j (marksL (k + (lensUp xss j : Int)) x.length) = markedD k xss (j + 1) := by
  obtain ⟨hj, hv⟩ := List.getElem?_eq_some_iff.1 h
  have hl : ((marksD k xss).take j).length = j := by rw [List.length_take, marksD_length]; omega
  unfold markedD
  rw [List.set_append_right _ _ (by omega), hl, Nat.sub_self, List.take_add_one, marksD_at k xss j x h, List.drop_eq_getElem_cons hj, List.set_cons_zero]
  simp
theorem markedD_at {k : Int} {xss : List (List Int)} {j : Nat} {x : List Int} (h : xss[j]? = some x) : (markedD k xss j)[j]? = some x := by
  obtain ⟨hj, hv⟩ := List.getElem?_eq_some_iff.1 h
  have hl : ((marksD k xss).take j).length = j := by rw [List.length_take, marksD_length]; omega
  unfold markedD
  rw [List.getElem?_append_right (by omega), hl, Nat.sub_self, List.getElem?_drop, Nat.add_zero, h]
theorem marksD_sum : ∀ (k : Int) (xss : List (List Int)), deckSz (marksD k xss) = deckSz xss := by
  intro k xss
  have h : ∀ (k : Int) (xss : List (List Int)), ((marksD k xss).map List.length) = xss.map List.length := by
    intro k xss
    induction xss generalizing k with
    | nil => rfl
    | cons x r ih => simp [marksD, ih, marksL_length]
  unfold deckSz; rw [marksD_length, h]
/-- one card of the deck is written, within its own block -/
theorem ODh.put {hs : List (Option Addr × Nat)} {lo hi : Nat} {w w' : World} {e e' c j : Nat} {a : Option Addr} {xss : List (List Int)} {x y : List Int} {p : Option Addr × Nat} (hne : e' ≠ e) (h : ODh hs lo hi w e e' a c xss) (hj : xss[j]? = some x) (hp : hs[j]? = some p) (hl : y.length = x.length)
    {L H : Nat} (hw : Within L H w w') (hL : ∀ q, p.1 = some q → L = q.block ∧ H = q.block + 1) (hN : p.1 = none → L = 0 ∧ H = 0) (ho : OI lo hi w' e' p.1 p.2 y) : ODh hs lo hi w' e e' a c (xss.set j y) := by
  obtain ⟨h1, h2, h3, h4⟩ := h
  have hx := h3 j p x hp hj
  have out : ∀ (q : Addr), (∀ u, p.1 = some u → q.block ≠ u.block) → q.block < L ∨ H ≤ q.block := by
    intro q hq
    cases hpp : p.1 with
    | none => obtain ⟨rfl, rfl⟩ := hN hpp; exact .inr (Nat.zero_le _)
    | some u => obtain ⟨rfl, rfl⟩ := hL u hpp; have := hq u hpp; omega
  have keepV : ∀ {lo' hi' e0 n' d : Nat} {b : Option Addr} {vs : List Value}, OV lo' hi' w e0 1 b n' d vs → (∀ q, b = some q → q.block < L ∨ H ≤ q.block) → OV lo' hi' w' e0 1 b n' d vs := by
    intro lo' hi' e0 n' d b vs hv hq
    refine ⟨?_, hv.2⟩
    obtain ⟨g1, g2 | ⟨g, cap, cur, hvv, hqq, hc, r⟩⟩ := hv.1
    · exact ⟨g1, .inl g2⟩
    · have hb : b = some ⟨g, 0, none⟩ := by simp only [Value.slice.injEq] at hvv; exact hvv.1
      refine ⟨g1, .inr ⟨g, cap, cur, hvv, hqq, ?_, r⟩⟩
      have hlt : g < w.heap.size := by
        rcases Nat.lt_or_ge g w.heap.size with hh | hh
        · exact hh
        · rw [Array.getElem?_eq_none hh] at hc; cases hc
      have := hq _ hb
      exact (hw.block g hlt (fun e => by simp only at this; omega)).trans hc
  have hmap : (xss.set j y).map List.length = xss.map List.length := by
    apply List.ext_getElem?
    intro i
    rw [List.getElem?_map, List.getElem?_map, List.getElem?_set]
    by_cases hij : j = i
    · subst hij
      rw [if_pos rfl]
      have := (List.getElem?_eq_some_iff.1 hj).1
      rw [if_pos this, hj]; simp [hl]
    · rw [if_neg hij]
  refine ⟨by simp [h1], ?_, ?_, h4⟩
  · rw [headsV_lens hmap, List.length_set]
    refine keepV h2 fun q hq => out q fun u hu => ?_
    exact (h2.apart hx hne hq hu).symm
  · intro i q xs e1 e2
    rw [List.getElem?_set] at e2
    by_cases hij : j = i
    · subst hij
      rw [hp] at e1
      simp only [Option.some.injEq] at e1
      subst e1
      have := (List.getElem?_eq_some_iff.1 hj).1
      rw [if_pos rfl, if_pos this] at e2
      simp only [Option.some.injEq] at e2
      subst e2
      exact ho
    · rw [if_neg hij] at e2
      refine keepV (h3 i q xs e1 e2) fun u hu => out u fun v hv => ?_
      rcases Nat.lt_or_gt_of_ne hij with hlt | hgt
      · have := h4 j i p q v u hlt hp e1 hv hu; omega
      · have := h4 i j q p u v hgt e1 hp hu hv; omega
end Go.Proofs.YtmpfnkheohlmiaaGreatDoor
namespace Go.Proofs.YtmpfnkheohlmiaaGreatDoor
open Go.RowKit
set_option maxRecDepth 100000
set_option linter.unusedVariables false
set_option linter.unusedSimpArgs false
set_option linter.unnecessarySimpa false

theorem spec_among (B : Nat) (a : Option Addr) (c : Nat) (l : List UInt8) (k : Nat) (b1 o1 cc : Nat) (xs : List Int) (w : World) (h : SrcIs w B a c l k) (hk : k + 2 ≤ 1073741824) (hl : l.length ≤ 1073741824) (hx : RI w (some ⟨b1, o1, none⟩) xs) (h1 : 1 ≤ xs.length) (h2 : xs.length ≤ 65536) (hne : ¬ b1 = B) :
    Calls Tryz.prog 67 #[.pointer (some ⟨B, 0, none⟩), .slice (some ⟨b1, o1, none⟩) xs.length cc] w (Drawn w B a c l (k + 2) fun r => r ∈ xs) := by
  have hp := Lib.hid (spec_pick B a c l k xs.length w h hk hl (by omega) (by omega))
  have hx' := Lib.hid hx
  clear h hx
  go_enter Tryz.func67, Tryz.ntmps67
  go_wp2_with fail
  refine hp.out.mono ?_
  rintro e w1 ⟨r, rfl, ⟨r0, r1, _⟩, hs, hw⟩
  have r2 := r1 (by omega)
  obtain ⟨j, rfl⟩ := Int.eq_ofNat_of_zero_le r0
  have hj : j < xs.length := by omega
  obtain ⟨x, hxj⟩ := get_some (l := xs) (k := j) hj
  obtain ⟨b2, o2, hab, hc⟩ := hx'.out.at hxj
  simp only [Option.some.injEq, Addr.mk.injEq, and_true] at hab
  obtain ⟨rfl, rfl⟩ := hab
  have hc2 := hw.cell hc (show b1 < B ∨ B + 1 ≤ b1 by omega)
  have hj' : (j : Int) < (xs.length : Int) := by omega
  have hs' := Lib.hid hs
  have hw' := Lib.hid hw
  have hm := Lib.hid (List.mem_of_getElem? hxj)
  clear hs hw hxj hc
  go_wp2_with fail
  go_ret
  exact ⟨_, rfl, hm.out, hs'.out, hw'.out⟩
theorem spec_srcText (B : Nat) (a : Option Addr) (c : Nat) (l : List UInt8) (k : Nat) (b1 o1 cc : Nat) (xs : List ByteArray) (w : World) (h : SrcIs w B a c l k) (hk : k + 2 ≤ 1073741824) (hl : l.length ≤ 1073741824) (hx : RS w (some ⟨b1, o1, none⟩) xs) (h1 : 1 ≤ xs.length) (h2 : xs.length ≤ 65536) (hne : ¬ b1 = B) :
    Calls Tryz.prog 68 #[.pointer (some ⟨B, 0, none⟩), .slice (some ⟨b1, o1, none⟩) xs.length cc] w fun e w' => ∃ t, e = .returned (.string t) ∧ t ∈ xs ∧ SrcIs w' B a c l (k + 2) ∧ Within B (B + 1) w w' := by
  have hp := Lib.hid (spec_pick B a c l k xs.length w h hk hl (by omega) (by omega))
  have hx' := Lib.hid hx
  clear h hx
  go_enter Tryz.func68, Tryz.ntmps68
  go_wp2_with fail
  refine hp.out.mono ?_
  rintro e w1 ⟨r, rfl, ⟨r0, r1, _⟩, hs, hw⟩
  have r2 := r1 (by omega)
  obtain ⟨j, rfl⟩ := Int.eq_ofNat_of_zero_le r0
  have hj : j < xs.length := by omega
  obtain ⟨x, hxj⟩ := get_some (l := xs) (k := j) hj
  obtain ⟨b2, o2, hab, hc⟩ := hx'.out.at hxj
  simp only [Option.some.injEq, Addr.mk.injEq, and_true] at hab
  obtain ⟨rfl, rfl⟩ := hab
  have hc2 := hw.cell hc (show b1 < B ∨ B + 1 ≤ b1 by omega)
  have hj' : (j : Int) < (xs.length : Int) := by omega
  have hs' := Lib.hid hs
  have hw' := Lib.hid hw
  have hm := Lib.hid (List.mem_of_getElem? hxj)
  clear hs hw hxj hc
  go_wp2_with fail
  go_ret
  exact ⟨_, rfl, hm.out, hs'.out, hw'.out⟩
/-- a field has been drawn -/
def DrawnF (w : World) (B : Nat) (a : Option Addr) (c : Nat) (l : List UInt8) (k : Nat) (e : Ending) (w' : World) : Prop :=
  ∃ f t : Int, e = .returned (.agg #[.int .i64 f, .int .i64 t]) ∧ SrcIs w' B a c l k ∧ Within B (B + 1) w w'
theorem spec_l00Max (x y : Int) (w : World) :
    Calls Tryz.prog 72 #[.int .i64 x, .int .i64 y] w fun e w' => e = .returned (.int .i64 (max x y)) ∧ w' = w := by
  by_cases h : y < x
  · go_enter Tryz.func72, Tryz.ntmps72
    go_wp2_with fail
    go_ret
    exact ⟨by rw [Int.max_def, if_neg (by omega)]; rfl, rfl⟩
  · go_enter Tryz.func72, Tryz.ntmps72
    go_wp2_with fail
    go_ret
    exact ⟨by rw [Int.max_def, if_pos (by omega)]; rfl, rfl⟩
set_option maxHeartbeats 4000000 in
theorem spec_l02DrawField (B : Nat) (a : Option Addr) (c : Nat) (l : List UInt8) (k0 : Nat) (wd : Int) (w : World) (h : SrcIs w B a c l k0) (hk0 : k0 ≤ 536870912) (hl : l.length ≤ 1073741824) (hw0 : -16 ≤ wd) (hw1 : wd ≤ 1024) :
    Calls Tryz.prog 69 #[.pointer (some ⟨B, 0, none⟩), .int .i64 wd] w (DrawnF w B a c l (k0 + 6)) := by
  have hBl := h.lt
  have hb1 := Lib.hid (below_alloc (w := w) (.cells #[.int .i64 0, .int .i64 0] 61))
  have hone := Lib.hid (spec_one B a c l k0 12 _ (h.kept hb1.out) (by omega) hl (by omega) (by omega))
  clear h
  go_enter Tryz.func69, Tryz.ntmps69
  go_wp2_with fail
  refine hone.out.mono ?_
  rintro e w1 ⟨b, rfl, hs, hW⟩
  obtain ⟨⟨hz0, hz1⟩, hy0, hy1⟩ : ((w.alloc (.cells #[.int .i64 0, .int .i64 0] 61)).cell? ⟨w.heap.size, 0, none⟩ = some (.int .i64 0) ∧ (w.alloc (.cells #[.int .i64 0, .int .i64 0] 61)).cell? ⟨w.heap.size, 1, none⟩ = some (.int .i64 0)) ∧ (w.alloc (.cells #[.int .i64 0, .int .i64 0] 61)).frozen? ⟨w.heap.size, 0, none⟩ = false ∧ (w.alloc (.cells #[.int .i64 0, .int .i64 0] 61)).frozen? ⟨w.heap.size, 1, none⟩ = false := ⟨⟨by simp [go_sem], by simp [go_sem]⟩, by simp [go_sem], by simp [go_sem]⟩
  have hc0 := hW.cell hz0 (show w.heap.size < B ∨ B + 1 ≤ w.heap.size by omega)
  have hd0 := hW.cell hz1 (show w.heap.size < B ∨ B + 1 ≤ w.heap.size by omega)
  have hf0 := hW.frozen hz0 hy0 (show w.heap.size < B ∨ B + 1 ≤ w.heap.size by omega)
  have hg0 := hW.frozen hz1 hy1 (show w.heap.size < B ∨ B + 1 ≤ w.heap.size by omega)
  have hs' := Lib.hid hs
  have hW' := Lib.hid ((Within.of_below (lo := B) (hi := B + 1) hb1.out).trans hW)
  clear hs hW hone
  cases b
  · go_wp2_with fail
    refine (spec_l00Max 1 wd w1).mono ?_
    rintro e w2 ⟨rfl, rfl⟩
    go_wp2_with fail
    refine (spec_pick B a c l _ (max 1 wd) w2 hs'.out (by omega) hl (by omega) (by omega)).mono ?_
    rintro e w3 ⟨r, rfl, ⟨r0, r1, _⟩, hs, hW⟩
    have r2 := r1 (by omega)
    have hc1 := hW.cell hc0 (show w.heap.size < B ∨ B + 1 ≤ w.heap.size by omega)
    have hd1 := hW.cell hd0 (show w.heap.size < B ∨ B + 1 ≤ w.heap.size by omega)
    have hf1 := hW.frozen hc0 hf0 (show w.heap.size < B ∨ B + 1 ≤ w.heap.size by omega)
    have hg1 := hW.frozen hd0 hg0 (show w.heap.size < B ∨ B + 1 ≤ w.heap.size by omega)
    replace hW' := Lib.hid (hW'.out.trans hW)
    replace hs' := Lib.hid hs
    clear hs hW r1
    have r3 : r ≤ 1024 := by omega
    go_wp2_with fail
    refine (spec_l00Max 1 (wd - r) w3).mono ?_
    rintro e w4 ⟨rfl, rfl⟩
    go_wp2_with fail
    refine (spec_pick B a c l _ (max 1 (wd - r)) w4 hs'.out (by omega) hl (by omega) (by omega)).mono ?_
    rintro e w5 ⟨r', rfl, ⟨s0, s1, _⟩, hs, hW⟩
    have s2 := s1 (by omega)
    have s3 : r' ≤ 2048 := by omega
    have hc2 := hW.cell hc1 (show w.heap.size < B ∨ B + 1 ≤ w.heap.size by omega)
    have hd2 := hW.cell hd1 (show w.heap.size < B ∨ B + 1 ≤ w.heap.size by omega)
    have hf2 := hW.frozen hc1 hf1 (show w.heap.size < B ∨ B + 1 ≤ w.heap.size by omega)
    have hg2 := hW.frozen hd1 hg1 (show w.heap.size < B ∨ B + 1 ≤ w.heap.size by omega)
    replace hW' := Lib.hid (hW'.out.trans hW)
    replace hs' := Lib.hid hs
    clear hs hW s1
    have hsz := hs'.out.lt
    go_wp2_with fail
    refine bodyPost_ret (v := .agg #[.int .i64 r, .int .i64 (r + 1 + r')]) (by simp [results, Tryz.results69, go_sem, *]) rfl ⟨r, r + 1 + r', rfl, ?_⟩
    have hbw := Lib.hid (((Below.refl w.heap.size w5).setCell (p := ⟨w.heap.size, 0, none⟩) (Nat.le_refl _) (.int .i64 (r))).setCell (p := ⟨w.heap.size, 1, none⟩) (Nat.le_refl _) (.int .i64 (r + 1 + r')))
    exact ⟨(hs'.out.below hbw.out hBl).more (by omega), hW'.out.then_below hbw.out (Nat.le_refl _)⟩
  · go_wp2_with fail
    have hrow := Lib.hid (show RI (w1.alloc (.cells #[.int .i64 (-1), .int .i64 (0), .int .i64 (1), .int .i64 (wd), .int .i64 (9223372036854775807), .int .i64 (-9223372036854775808)] 2)) (some ⟨w1.heap.size, 0, none⟩) [-1, 0, 1, wd, 9223372036854775807, -9223372036854775808] from row_block (heap_alloc_new w1 (.cells #[.int .i64 (-1), .int .i64 (0), .int .i64 (1), .int .i64 (wd), .int .i64 (9223372036854775807), .int .i64 (-9223372036854775808)] 2)))
    refine (spec_among B a c l _ w1.heap.size 0 6 [-1, 0, 1, wd, 9223372036854775807, -9223372036854775808] _ (hs'.out.kept (below_alloc _)) (by omega) hl hrow.out (by simp) (by simp) (by have := hs'.out.lt; omega)).mono ?_
    rintro e w2 ⟨x, rfl, _, hs, hW0⟩
    have hW := (Within.of_below (lo := B) (hi := B + 1) (below_alloc (w := w1) _)).trans hW0
    have hc1 := hW.cell hc0 (show w.heap.size < B ∨ B + 1 ≤ w.heap.size by omega)
    have hd1 := hW.cell hd0 (show w.heap.size < B ∨ B + 1 ≤ w.heap.size by omega)
    have hf1 := hW.frozen hc0 hf0 (show w.heap.size < B ∨ B + 1 ≤ w.heap.size by omega)
    have hg1 := hW.frozen hd0 hg0 (show w.heap.size < B ∨ B + 1 ≤ w.heap.size by omega)
    replace hW' := Lib.hid (hW'.out.trans hW)
    replace hs' := Lib.hid hs
    clear hs hW hW0 hrow
    have hws : w.heap.size < w2.heap.size := World.block_lt_of_cell? _ _ hc1
    go_wp2_with fail
    have hrow := Lib.hid (show RI (w2.alloc (.cells #[.int .i64 (0), .int .i64 (1), .int .i64 (wd), .int .i64 (wd + 1), .int .i64 (9223372036854775807)] 2)) (some ⟨w2.heap.size, 0, none⟩) [0, 1, wd, wd + 1, 9223372036854775807] from row_block (heap_alloc_new w2 (.cells #[.int .i64 (0), .int .i64 (1), .int .i64 (wd), .int .i64 (wd + 1), .int .i64 (9223372036854775807)] 2)))
    refine (spec_among B a c l _ w2.heap.size 0 5 [0, 1, wd, wd + 1, 9223372036854775807] _ (hs'.out.kept (below_alloc _)) (by omega) hl hrow.out (by simp) (by simp) (by have := hs'.out.lt; omega)).mono ?_
    rintro e w3 ⟨y, rfl, _, hs, hW0⟩
    have hW := (Within.of_below (lo := B) (hi := B + 1) (below_alloc (w := w2) _)).trans hW0
    have hc2 := hW.cell hc1 (show w.heap.size < B ∨ B + 1 ≤ w.heap.size by omega)
    have hd2 := hW.cell hd1 (show w.heap.size < B ∨ B + 1 ≤ w.heap.size by omega)
    have hf2 := hW.frozen hc1 hf1 (show w.heap.size < B ∨ B + 1 ≤ w.heap.size by omega)
    have hg2 := hW.frozen hd1 hg1 (show w.heap.size < B ∨ B + 1 ≤ w.heap.size by omega)
    replace hW' := Lib.hid (hW'.out.trans hW)
    replace hs' := Lib.hid hs
    clear hs hW hW0 hrow
    go_wp2_with fail
    refine bodyPost_ret (v := .agg #[.int .i64 x, .int .i64 y]) (by simp [results, Tryz.results69, go_sem, *]) rfl ⟨x, y, rfl, ?_⟩
    have hbw := Lib.hid (((Below.refl w.heap.size w3).setCell (p := ⟨w.heap.size, 0, none⟩) (Nat.le_refl _) (.int .i64 (x))).setCell (p := ⟨w.heap.size, 1, none⟩) (Nat.le_refl _) (.int .i64 (y)))
    exact ⟨(hs'.out.below hbw.out hBl).more (by omega), hW'.out.then_below hbw.out (Nat.le_refl _)⟩
end Go.Proofs.YtmpfnkheohlmiaaGreatDoor
namespace Go.Proofs.YtmpfnkheohlmiaaGreatDoor
open Go.RowKit
set_option maxRecDepth 100000
set_option linter.unusedVariables false
set_option linter.unusedSimpArgs false
set_option linter.unnecessarySimpa false

def short7 : ByteArray := ⟨#[65, 66, 48, 49, 32, 74, 90]⟩
theorem short7_are : ∀ c ∈ short7.data.toList, charB c.toNat = true := by decide +kernel
theorem chars_snoc {l : List UInt8} {u : UInt8} (h : ∀ c ∈ l, charB c.toNat = true) (hu : charB u.toNat = true) : ∀ c ∈ l ++ [u], charB c.toNat = true := by
  intro c hc; simp only [List.mem_append, List.mem_singleton] at hc; rcases hc with hc | rfl
  · exact h c hc
  · exact hu
theorem char_all {q : Nat} (h : q < 40) : charB ((⟨#[32, 38, 65, 66, 67, 68, 69, 70, 71, 72, 73, 45, 74, 75, 76, 77, 78, 79, 80, 81, 82, 47, 83, 84, 85, 86, 87, 88, 89, 90, 48, 49, 50, 51, 52, 53, 54, 55, 56, 57]⟩ : ByteArray)[q]'h).toNat = true := chars_are _ (List.mem_of_getElem? (chars_get h))
theorem char_7 {q : Nat} (h : q < 7) : charB ((⟨#[65, 66, 48, 49, 32, 74, 90]⟩ : ByteArray)[q]'h).toNat = true := short7_are _ (List.mem_of_getElem? (get_bytes short7 q h))
set_option maxHeartbeats 4000000 in
theorem spec_l03DrawText (B : Nat) (a : Option Addr) (c : Nat) (l : List UInt8) (k0 n : Nat) (w : World) (h : SrcIs w B a c l k0) (hk0 : k0 ≤ 536870912) (hl : l.length ≤ 1073741824) (hn : n ≤ 1048576) :
    Calls Tryz.prog 71 #[.pointer (some ⟨B, 0, none⟩), .int .i64 n] w fun e w' => (∃ t : ByteArray, e = .returned (.string t) ∧ t.size = n ∧ charsB t = true) ∧ SrcIs w' B a c l (k0 + 4 * n) ∧ Within B (B + 1) w w' := by
  have hBl := h.lt
  have h' := Lib.hid h
  clear h
  obtain ⟨i0, hi, hz0, hz1, hz2⟩ := info_parts Tryz.info_byte
  have hown0 := World.ownsRow_lit (base := w.heap.size) (e := 5) (size := 1) w #[] 0 (Nat.le_refl _) (by simp [maxLen]) rfl
  have hba := Lib.hid (below_alloc (w := w) (.cells #[] 5))
  go_enter Tryz.func71, Tryz.ntmps71
  go_wp2_with (first | (go_at_call 112; ((with_reducible refine (spec_l03Order _).mono ?_); rintro e w' ⟨rfl, rfl⟩)))
  go_loopw [6, 7] (fun v i wr => ∃ (k : Nat) (a' : Option Addr) (c' : Nat) (t : List UInt8), k ≤ n ∧ i = .int .i64 k ∧ t.length = k ∧ v = .slice a' t.length c' ∧ a' ≠ none ∧ (∀ u ∈ t, charB u.toNat = true) ∧ OV w.heap.size wr.heap.size wr 5 1 a' t.length c' (t.map byteV) ∧ SrcIs wr B a c l (k0 + 4 * k) ∧ Within B (B + 1) w wr ∧ w.heap.size ≤ wr.heap.size) (fun _ i _ => n - (intOf i).toNat)
  case atStart => exact ⟨0, _, _, [], by omega, rfl, rfl, rfl, by simp, by simp, OV.of hown0, h'.out.kept hba.out, Within.of_below hba.out, hba.out.size⟩
  case round =>
    obtain ⟨k, a3, c3, t, hk, rfl, htk, rfl, hne3, hP0, hown, hsr, hW, hsz⟩ := hrel
    have hP := Lib.hid hP0
    have htk' := Lib.hid htk
    have htn : t.length ≤ 1048576 := by omega
    replace hsr := Lib.hid hsr
    replace hW := Lib.hid hW
    replace hown := Lib.hid hown
    have hm63 := Lib.hid (show t.length + 1 ≤ maxLen by unfold maxLen; omega)
    clear hP0 htk
    by_cases hlt : k < n
    · have hlt' : (k : Int) < (n : Int) := by omega
      go_wp2_with fail
      refine (spec_one B a c l _ 3 _ hsr.out (by omega) hl (by omega) (by omega)).mono ?_
      rintro e w1 ⟨b, rfl, hs, hw⟩
      replace hown := Lib.hid (hown.out.within hw (Or.inr (by omega)))
      replace hW := Lib.hid (hW.out.trans hw)
      replace hsz := Nat.le_trans hsz hw.size
      replace hsr := Lib.hid hs
      clear hs hw
      cases b
      · go_wp2_with fail
        refine (spec_pick B a c l _ 7 _ hsr.out (by omega) hl (by omega) (by omega)).mono ?_
        rintro e w2 ⟨r, rfl, ⟨r0, r1, _⟩, hs, hw⟩
        replace r1 := r1 (by omega)
        obtain ⟨q, rfl⟩ := Int.eq_ofNat_of_zero_le r0
        have hq : q < 7 := by omega
        replace hown := Lib.hid (hown.out.within hw (Or.inr (by omega)))
        replace hW := Lib.hid (hW.out.trans hw)
        replace hsz := Nat.le_trans hsz hw.size
        replace hsr := Lib.hid hs
        clear hs hw
        have hown0 := hown.out.1
        go_wp2_with (at_builtin; refine wpList_append_own _ rfl _ _ 22 rfl w.heap.size 5 i0 (.int .u8 0) 1 1 Tryz.underlying22 hi hz0 hz1 hz2 rfl (by decide) _ t.length (t.map byteV) rfl (hown0.alloc _) ⟨_, 0, none⟩ 1 1 [.int .u8 (((⟨#[65, 66, 48, 49, 32, 74, 90]⟩ : ByteArray)[q]'hq).toNat : Int)] rfl rfl (news_one _ _ _) (one_one rfl) hm63.out (by omega) (by simp only [World.size_alloc]; omega) ?_; intro v5 w5 hown5 hg5 _; have hb5 := (((Below.refl w.heap.size _).alloc hsz _).grown hg5 (by simp only [World.size_alloc]; omega) (fun k hk => (hown0.lt k hk).1)); have hs5 := Lib.hid (hsr.out.below hb5 (by omega)); have hW5 := Lib.hid (hW.out.then_below hb5 (Nat.le_refl _)); have hsz5 := hb5.size; obtain ⟨a5, c5, hv5, _, _⟩ := own_slice hown5; subst hv5; have hown5' := Lib.hid hown5; clear hown5 hg5 hb5 hown0)
        go_roundw
        case rel =>
          refine ⟨k + 1, a5, c5, t ++ [((⟨#[65, 66, 48, 49, 32, 74, 90]⟩ : ByteArray)[q]'hq)], by omega, by go_num, by rw [List.length_append, htk'.out]; rfl, by rw [List.length_append]; rfl, own_some hown5'.out (by omega), chars_snoc hP.out (char_7 hq), ?_, hs5.out.more (by omega), hW5.out, by omega⟩
          have h9 := hown5'.out
          rw [List.length_append, List.map_append]
          exact OV.of h9
        case measure => simp [intOf]; omega
      · go_wp2_with fail
        refine (spec_pick B a c l _ 40 _ hsr.out (by omega) hl (by omega) (by omega)).mono ?_
        rintro e w2 ⟨r, rfl, ⟨r0, r1, _⟩, hs, hw⟩
        replace r1 := r1 (by omega)
        obtain ⟨q, rfl⟩ := Int.eq_ofNat_of_zero_le r0
        have hq : q < 40 := by omega
        replace hown := Lib.hid (hown.out.within hw (Or.inr (by omega)))
        replace hW := Lib.hid (hW.out.trans hw)
        replace hsz := Nat.le_trans hsz hw.size
        replace hsr := Lib.hid hs
        clear hs hw
        have hown0 := hown.out.1
        go_wp2_with (at_builtin; refine wpList_append_own _ rfl _ _ 22 rfl w.heap.size 5 i0 (.int .u8 0) 1 1 Tryz.underlying22 hi hz0 hz1 hz2 rfl (by decide) _ t.length (t.map byteV) rfl (hown0.alloc _) ⟨_, 0, none⟩ 1 1 [.int .u8 (((⟨#[32, 38, 65, 66, 67, 68, 69, 70, 71, 72, 73, 45, 74, 75, 76, 77, 78, 79, 80, 81, 82, 47, 83, 84, 85, 86, 87, 88, 89, 90, 48, 49, 50, 51, 52, 53, 54, 55, 56, 57]⟩ : ByteArray)[q]'hq).toNat : Int)] rfl rfl (news_one _ _ _) (one_one rfl) hm63.out (by omega) (by simp only [World.size_alloc]; omega) ?_; intro v5 w5 hown5 hg5 _; have hb5 := (((Below.refl w.heap.size _).alloc hsz _).grown hg5 (by simp only [World.size_alloc]; omega) (fun k hk => (hown0.lt k hk).1)); have hs5 := Lib.hid (hsr.out.below hb5 (by omega)); have hW5 := Lib.hid (hW.out.then_below hb5 (Nat.le_refl _)); have hsz5 := hb5.size; obtain ⟨a5, c5, hv5, _, _⟩ := own_slice hown5; subst hv5; have hown5' := Lib.hid hown5; clear hown5 hg5 hb5 hown0)
        go_roundw
        case rel =>
          refine ⟨k + 1, a5, c5, t ++ [((⟨#[32, 38, 65, 66, 67, 68, 69, 70, 71, 72, 73, 45, 74, 75, 76, 77, 78, 79, 80, 81, 82, 47, 83, 84, 85, 86, 87, 88, 89, 90, 48, 49, 50, 51, 52, 53, 54, 55, 56, 57]⟩ : ByteArray)[q]'hq)], by omega, by go_num, by rw [List.length_append, htk'.out]; rfl, by rw [List.length_append]; rfl, own_some hown5'.out (by omega), chars_snoc hP.out (char_all hq), ?_, hs5.out.more (by omega), hW5.out, by omega⟩
          have h9 := hown5'.out
          rw [List.length_append, List.map_append]
          exact OV.of h9
        case measure => simp [intOf]; omega
    · obtain rfl : k = n := by omega
      have hrow : RB wr a3 t := hown.out.row
      have hcv := run_text (P := Tryz.prog) wr 22 9 5 a3 c3 t Tryz.underlying22 Tryz.underlying5 Tryz.underlying9 hne3 hrow
      have hrow' := Lib.hid hrow
      clear hrow
      go_wp2_with fail
      go_ret
      exact ⟨⟨⟨t.toArray⟩, rfl, by rw [← htk'.out]; rfl, by unfold charsB; rw [List.all_eq_true]; exact fun u hu => hP.out u (by simpa using hu)⟩, hsr.out, hW.out⟩
end Go.Proofs.YtmpfnkheohlmiaaGreatDoor
