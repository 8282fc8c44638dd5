/- The walks of the functions that draw cards: each column that is drawn is one of a card; nothing but the source is written. -/
import Derived.Test.YtcbjfgjlhjjpiaaDoorSrc
import Derived.Test.YtcbjfgjlhjjpiaaDoorCrd
import Derived.Test.YtcbjfgjlhjjpiaaDoorLay
import Derived.Test.YtcbjfgjlhjjpiaaDoorApp
import Derived.Laws.AppendOwn
import Derived.IntWalk
namespace Go.Proofs.YtcbjfgjlhjjpiaaDoor
open Go.RowKit
set_option maxRecDepth 100000
set_option linter.unusedVariables false
set_option linter.unusedSimpArgs false
set_option linter.unnecessarySimpa false

def MaskP (x : Int) : Prop := 0 ≤ x ∧ x ≤ 4095
theorem shl4 {r : Int} (h0 : 0 ≤ r) (h1 : r ≤ 9) : ∃ m, wrap64 (4 * 2 ^ r.toNat) = m ∧ 0 ≤ m ∧ m ≤ 2048 := by
  have h : ∀ n : Fin 10, 0 ≤ wrap64 (4 * 2 ^ n.val) ∧ wrap64 (4 * 2 ^ n.val) ≤ 2048 := by decide +kernel
  exact ⟨_, rfl, h ⟨r.toNat, by omega⟩⟩
theorem shl1 {r : Int} (h0 : 0 ≤ r) (h1 : r ≤ 2) : ∃ m, wrap64 (2 ^ r.toNat) = m ∧ 0 ≤ m ∧ m ≤ 4 := by
  have h : ∀ n : Fin 3, 0 ≤ wrap64 (2 ^ n.val) ∧ wrap64 (2 ^ n.val) ≤ 4 := by decide +kernel
  exact ⟨_, rfl, h ⟨r.toNat, by omega⟩⟩
theorem shl8 {r : Int} (h0 : 0 ≤ r) (h1 : r ≤ 8) : ∃ m, wrap64 (8 * 2 ^ r.toNat) = m ∧ 0 ≤ m ∧ m ≤ 2048 := by
  have h : ∀ n : Fin 9, 0 ≤ wrap64 (8 * 2 ^ n.val) ∧ wrap64 (8 * 2 ^ n.val) ≤ 2048 := by decide +kernel
  exact ⟨_, rfl, h ⟨r.toNat, by omega⟩⟩
theorem or_mask {x y : Int} (hx : MaskP x) (hy : MaskP y) : MaskP (bits BinOp.or IntKind.i64 x y) := by
  obtain ⟨a, rfl⟩ := Int.eq_ofNat_of_zero_le hx.1
  obtain ⟨b, rfl⟩ := Int.eq_ofNat_of_zero_le hy.1
  have h1 := hx.2
  have h2 := hy.2
  have h : (BitVec.ofInt 64 (a : Int) ||| BitVec.ofInt 64 (b : Int)).toNat < 4096 := by
    rw [BitVec.toNat_or]
    refine Nat.or_lt_two_pow (n := 12) ?_ ?_ <;> (simp only [BitVec.ofInt_natCast, BitVec.toNat_ofNat]; omega)
  have h3 : ∀ n : Nat, n < 4096 → MaskP (IntKind.i64.wrap (n : Int)) := by
    intro n hn
    have := IntWalk.i64_in (n : Int) (by omega)
    rw [this]; unfold MaskP; omega
  exact h3 _ h
theorem card_valid {xs : List Int} (h1 : 1 ≤ xs.length) (h2 : xs.length ≤ 20) (hP : ∀ x ∈ xs, MaskP x) : validCardL xs = true := by
  unfold validCardL
  rw [inB_true.2 ⟨by omega, by omega⟩, Bool.true_and, List.all_eq_true]
  exact fun x hx => inB_true.2 (hP x hx)
theorem masks_snoc {xs : List Int} {m : Int} (h : ∀ x ∈ xs, MaskP x) (hm : MaskP m) : ∀ x ∈ xs ++ [m], MaskP x := by
  intro x hx; simp only [List.mem_append, List.mem_singleton] at hx; rcases hx with hx | rfl
  · exact h x hx
  · exact hm
/-- a card of the call's own has been drawn -/
def DrawnC (w : World) (B : Nat) (a : Option Addr) (c : Nat) (l : List UInt8) (k n : Nat) (P : Int → Prop) (e : Ending) (w' : World) : Prop :=
  ∃ (a' : Option Addr) (c' : Nat) (xs : List Int), e = .returned (.agg #[.slice a' xs.length c']) ∧ xs.length = n ∧ (∀ x ∈ xs, P x) ∧ w'.ownsRow w.heap.size 2 1 (.slice a' xs.length c') xs.length (xs.map (Value.int .i64)) ∧ SrcIs w' B a c l k ∧ Within B (B + 1) w w'
set_option maxHeartbeats 4000000 in
theorem spec_l02Draw (B : Nat) (a : Option Addr) (c : Nat) (l : List UInt8) (k0 n : Nat) (w : World) (h : SrcIs w B a c l k0) (hk0 : k0 ≤ 536870912) (hl : l.length ≤ 1073741824) (hn : n ≤ 1048576) :
    Calls Tryd.prog 34 #[.pointer (some ⟨B, 0, none⟩), .int .i64 n] w (DrawnC w B a c l (k0 + 8 * n) n MaskP) := by
  have hBl := h.lt
  have h' := Lib.hid h
  clear h
  obtain ⟨i0, hi, hz0, hz1, hz2⟩ := info_parts Tryd.info_int64
  have hb2 := Lib.hid (below_alloc2 w (.cells #[.slice none 0 0] 28) (.cells #[.slice none 0 0] 28))
  have hs0 := Lib.hid (h'.out.kept hb2.out)
  have hW0 := Lib.hid (Within.of_below (lo := B) (hi := B + 1) hb2.out)
  go_enter Tryd.func34, Tryd.ntmps34
  go_wp2_with fail
  go_loopw [6] (fun i wr => ∃ (k : Nat) (a' : Option Addr) (c' : Nat) (xs : List Int), k ≤ n ∧ i = .int .i64 k ∧ xs.length = k ∧ (∀ x ∈ xs, MaskP x) ∧ wr.cell? ⟨w.heap.size + 1, 0, none⟩ = some (.slice a' xs.length c') ∧ wr.frozen? ⟨w.heap.size + 1, 0, none⟩ = false ∧ wr.cell? ⟨w.heap.size, 0, none⟩ = some (.slice none 0 0) ∧ wr.frozen? ⟨w.heap.size, 0, none⟩ = false ∧ OV (w.heap.size + 2) wr.heap.size wr 2 1 a' xs.length c' (xs.map (Value.int .i64)) ∧ SrcIs wr B a c l (k0 + 8 * k) ∧ Within B (B + 1) w wr ∧ w.heap.size + 2 ≤ wr.heap.size) (fun i _ => n - (intOf i).toNat)
  case atStart => exact ⟨0, none, 0, [], by omega, rfl, rfl, by simp, by simp [go_sem], by simp [go_sem], by simp [go_sem], by simp [go_sem], OV.of (World.ownsRow_nil _ _ _ _), hs0.out, hW0.out, by simp⟩
  case round =>
    obtain ⟨k, a3, c3, xs, hk, rfl, hxk, hP0, hcr, hfr, hcz, hfz, hown, hsr, hW, hsz⟩ := hrel
    have hP := Lib.hid hP0
    have hxk' := Lib.hid hxk
    have hxn : xs.length ≤ 1048576 := by omega
    have hsr' := Lib.hid hsr
    replace hW := Lib.hid hW
    replace hown := Lib.hid hown
    have hm63 := Lib.hid (show xs.length + 1 ≤ maxLen by unfold maxLen; omega)
    clear hP0 hxk hsr
    by_cases hlt : k < n
    · have hlt' : (k : Int) < (n : Int) := by omega
      go_wp2_with fail
      refine (spec_pick B a c l _ 10 _ hsr'.out (by omega) hl (by omega) (by omega)).mono ?_
      rintro e w1 ⟨r1_, rfl, ⟨r1_0, r1_1, _⟩, hsw1, hww1⟩
      replace r1_1 := r1_1 (by omega)
      have hcrw1 := hww1.cell hcr (Or.inr (by dsimp only; omega))
      have hfrw1 := hww1.frozen hcr hfr (Or.inr (by dsimp only; omega))
      replace hcr := hcrw1
      replace hfr := hfrw1
      replace hcz0 := hww1.frozen hcz hfz (Or.inr (by dsimp only; omega))
      replace hcz := hww1.cell hcz (Or.inr (by dsimp only; omega))
      replace hfz := hcz0
      replace hown := Lib.hid (hown.out.within hww1 (Or.inr (by omega)))
      replace hW := Lib.hid (hW.out.trans hww1)
      replace hsz := Nat.le_trans hsz hww1.size
      have hsw1' := Lib.hid hsw1
      clear hsw1 hww1 hcrw1 hfrw1
      obtain ⟨m0, hm0, hm00, hm01⟩ := shl4 r1_0 (by omega)
      go_wp2_with fail
      refine (spec_pick B a c l _ 6 _ hsw1'.out (by omega) hl (by omega) (by omega)).mono ?_
      rintro e w2 ⟨r2_, rfl, ⟨r2_0, r2_1, _⟩, hsw2, hww2⟩
      replace r2_1 := r2_1 (by omega)
      have hcrw2 := hww2.cell hcr (Or.inr (by dsimp only; omega))
      have hfrw2 := hww2.frozen hcr hfr (Or.inr (by dsimp only; omega))
      replace hcr := hcrw2
      replace hfr := hfrw2
      replace hcz0 := hww2.frozen hcz hfz (Or.inr (by dsimp only; omega))
      replace hcz := hww2.cell hcz (Or.inr (by dsimp only; omega))
      replace hfz := hcz0
      replace hown := Lib.hid (hown.out.within hww2 (Or.inr (by omega)))
      replace hW := Lib.hid (hW.out.trans hww2)
      replace hsz := Nat.le_trans hsz hww2.size
      have hsw2' := Lib.hid hsw2
      clear hsw2 hww2 hcrw2 hfrw2
      by_cases q0 : r2_ = 0
      · have e0 : (r2_ == 0) = true := by simp [q0]
        clear q0
        have hown0 := hown.out.1
        go_wp2_with (at_builtin; refine wpList_append_own _ rfl _ _ 26 rfl (w.heap.size + 2) 2 i0 (.int .i64 0) 1 8 Tryd.underlying26 hi hz0 hz1 hz2 rfl (by decide) _ xs.length (xs.map (Value.int .i64)) rfl (hown0.alloc _) ⟨_, 0, none⟩ 1 1 [.int .i64 0] rfl rfl (news_one _ _ _) (one_one rfl) hm63.out (by omega) (by simp only [World.size_alloc]; omega) ?_; intro v5 w5 hown5 hg5 _; have hb5 := (((Below.refl (w.heap.size + 2) _).alloc hsz _).grown hg5 (by simp only [World.size_alloc]; omega) (fun k hk => (hown0.lt k hk).1)); have hcr5 := heldB hb5 (by omega) hcr; have hfr5 := (hb5.frozen (p := ⟨w.heap.size + 1, 0, none⟩) (by dsimp only; omega)).trans hfr; have hcz5 := heldB hb5 (by omega) hcz; have hfz5 := (hb5.frozen (p := ⟨w.heap.size, 0, none⟩) (by dsimp only; omega)).trans hfz; have hs5 := Lib.hid (hsw2'.out.below hb5 (by omega)); have hW5 := Lib.hid (hW.out.then_below hb5 (by omega)); have hsz5 := hb5.size; obtain ⟨a5, c5, hv5, _, _⟩ := own_slice hown5; subst hv5; have hown5' := Lib.hid hown5; clear hown5 hg5 hb5 hown0 hcr hfr hcz hfz)
        go_roundw
        case rel =>
          refine ⟨k + 1, a5, c5, xs ++ [0], by omega, by go_num, by rw [List.length_append, hxk'.out]; rfl, masks_snoc hP.out ⟨by decide, by decide⟩, by simp [go_sem, *], by simp [go_sem, *], by simp [go_sem, *], by simp [go_sem, *], ?_, ?_, ?_, by simp only [World.size_setCell]; omega⟩
          · have h9 := ownsRow_setCell_below hown5'.out (a := ⟨w.heap.size + 1, 0, none⟩) (by dsimp only; omega) (.slice a5 (xs.length + 1) c5)
            rw [List.length_append, List.map_append]
            exact OV.of h9
          · exact (hs5.out.within ((Within.refl (w.heap.size + 1) (w.heap.size + 2) _).setCell (p := ⟨w.heap.size + 1, 0, none⟩) (Nat.le_refl _) (Nat.lt_succ_self _) _) (by omega)).more (by omega)
          · exact hW5.out.then_below ((Below.refl (w.heap.size + 1) _).setCell (p := ⟨w.heap.size + 1, 0, none⟩) (Nat.le_refl _) _) (by omega)
        case measure => simp [intOf]; omega
      · have e0 : (r2_ == 0) = false := by simp [q0]
        by_cases q1 : r2_ = 1
        · have e1 : (r2_ == 1) = true := by simp [q1]
          clear q0 q1
          go_wp2_with fail
          refine (spec_pick B a c l _ 3 _ hsw2'.out (by omega) hl (by omega) (by omega)).mono ?_
          rintro e w3 ⟨r3_, rfl, ⟨r3_0, r3_1, _⟩, hsw3, hww3⟩
          replace r3_1 := r3_1 (by omega)
          have hcrw3 := hww3.cell hcr (Or.inr (by dsimp only; omega))
          have hfrw3 := hww3.frozen hcr hfr (Or.inr (by dsimp only; omega))
          replace hcr := hcrw3
          replace hfr := hfrw3
          replace hcz0 := hww3.frozen hcz hfz (Or.inr (by dsimp only; omega))
          replace hcz := hww3.cell hcz (Or.inr (by dsimp only; omega))
          replace hfz := hcz0
          replace hown := Lib.hid (hown.out.within hww3 (Or.inr (by omega)))
          replace hW := Lib.hid (hW.out.trans hww3)
          replace hsz := Nat.le_trans hsz hww3.size
          have hsw3' := Lib.hid hsw3
          clear hsw3 hww3 hcrw3 hfrw3
          obtain ⟨m1, hm1, hm10, hm11⟩ := shl1 r3_0 (by omega)
          go_wp2_with fail
          refine (spec_pick B a c l _ 9 _ hsw3'.out (by omega) hl (by omega) (by omega)).mono ?_
          rintro e w4 ⟨r4_, rfl, ⟨r4_0, r4_1, _⟩, hsw4, hww4⟩
          replace r4_1 := r4_1 (by omega)
          have hcrw4 := hww4.cell hcr (Or.inr (by dsimp only; omega))
          have hfrw4 := hww4.frozen hcr hfr (Or.inr (by dsimp only; omega))
          replace hcr := hcrw4
          replace hfr := hfrw4
          replace hcz0 := hww4.frozen hcz hfz (Or.inr (by dsimp only; omega))
          replace hcz := hww4.cell hcz (Or.inr (by dsimp only; omega))
          replace hfz := hcz0
          replace hown := Lib.hid (hown.out.within hww4 (Or.inr (by omega)))
          replace hW := Lib.hid (hW.out.trans hww4)
          replace hsz := Nat.le_trans hsz hww4.size
          have hsw4' := Lib.hid hsw4
          clear hsw4 hww4 hcrw4 hfrw4
          obtain ⟨m2, hm2, hm20, hm21⟩ := shl8 r4_0 (by omega)
          have hor := Lib.hid (or_mask (x := m1) (y := m2) ⟨hm10, by omega⟩ ⟨hm20, by omega⟩)
          have hown0 := hown.out.1
          go_wp2_with (at_builtin; refine wpList_append_own _ rfl _ _ 26 rfl (w.heap.size + 2) 2 i0 (.int .i64 0) 1 8 Tryd.underlying26 hi hz0 hz1 hz2 rfl (by decide) _ xs.length (xs.map (Value.int .i64)) rfl (hown0.alloc _) ⟨_, 0, none⟩ 1 1 [.int .i64 (bits BinOp.or IntKind.i64 m1 m2)] rfl rfl (news_one _ _ _) (one_one rfl) hm63.out (by omega) (by simp only [World.size_alloc]; omega) ?_; intro v5 w5 hown5 hg5 _; have hb5 := (((Below.refl (w.heap.size + 2) _).alloc hsz _).grown hg5 (by simp only [World.size_alloc]; omega) (fun k hk => (hown0.lt k hk).1)); have hcr5 := heldB hb5 (by omega) hcr; have hfr5 := (hb5.frozen (p := ⟨w.heap.size + 1, 0, none⟩) (by dsimp only; omega)).trans hfr; have hcz5 := heldB hb5 (by omega) hcz; have hfz5 := (hb5.frozen (p := ⟨w.heap.size, 0, none⟩) (by dsimp only; omega)).trans hfz; have hs5 := Lib.hid (hsw4'.out.below hb5 (by omega)); have hW5 := Lib.hid (hW.out.then_below hb5 (by omega)); have hsz5 := hb5.size; obtain ⟨a5, c5, hv5, _, _⟩ := own_slice hown5; subst hv5; have hown5' := Lib.hid hown5; clear hown5 hg5 hb5 hown0 hcr hfr hcz hfz)
          go_roundw
          case rel =>
            refine ⟨k + 1, a5, c5, xs ++ [(bits BinOp.or IntKind.i64 m1 m2)], by omega, by go_num, by rw [List.length_append, hxk'.out]; rfl, masks_snoc hP.out hor.out, by simp [go_sem, *], by simp [go_sem, *], by simp [go_sem, *], by simp [go_sem, *], ?_, ?_, ?_, by simp only [World.size_setCell]; omega⟩
            · have h9 := ownsRow_setCell_below hown5'.out (a := ⟨w.heap.size + 1, 0, none⟩) (by dsimp only; omega) (.slice a5 (xs.length + 1) c5)
              rw [List.length_append, List.map_append]
              exact OV.of h9
            · exact (hs5.out.within ((Within.refl (w.heap.size + 1) (w.heap.size + 2) _).setCell (p := ⟨w.heap.size + 1, 0, none⟩) (Nat.le_refl _) (Nat.lt_succ_self _) _) (by omega)).more (by omega)
            · exact hW5.out.then_below ((Below.refl (w.heap.size + 1) _).setCell (p := ⟨w.heap.size + 1, 0, none⟩) (Nat.le_refl _) _) (by omega)
          case measure => simp [intOf]; omega
        · have e1 : (r2_ == 1) = false := by simp [q1]
          by_cases q2 : r2_ = 2
          · have e2 : (r2_ == 2) = true := by simp [q2]
            clear q0 q1 q2
            go_wp2_with fail
            refine (spec_pick B a c l _ 4096 _ hsw2'.out (by omega) hl (by omega) (by omega)).mono ?_
            rintro e w3 ⟨r3_, rfl, ⟨r3_0, r3_1, _⟩, hsw3, hww3⟩
            replace r3_1 := r3_1 (by omega)
            have hcrw3 := hww3.cell hcr (Or.inr (by dsimp only; omega))
            have hfrw3 := hww3.frozen hcr hfr (Or.inr (by dsimp only; omega))
            replace hcr := hcrw3
            replace hfr := hfrw3
            replace hcz0 := hww3.frozen hcz hfz (Or.inr (by dsimp only; omega))
            replace hcz := hww3.cell hcz (Or.inr (by dsimp only; omega))
            replace hfz := hcz0
            replace hown := Lib.hid (hown.out.within hww3 (Or.inr (by omega)))
            replace hW := Lib.hid (hW.out.trans hww3)
            replace hsz := Nat.le_trans hsz hww3.size
            have hsw3' := Lib.hid hsw3
            clear hsw3 hww3 hcrw3 hfrw3
            have hown0 := hown.out.1
            go_wp2_with (at_builtin; refine wpList_append_own _ rfl _ _ 26 rfl (w.heap.size + 2) 2 i0 (.int .i64 0) 1 8 Tryd.underlying26 hi hz0 hz1 hz2 rfl (by decide) _ xs.length (xs.map (Value.int .i64)) rfl (hown0.alloc _) ⟨_, 0, none⟩ 1 1 [.int .i64 r3_] rfl rfl (news_one _ _ _) (one_one rfl) hm63.out (by omega) (by simp only [World.size_alloc]; omega) ?_; intro v5 w5 hown5 hg5 _; have hb5 := (((Below.refl (w.heap.size + 2) _).alloc hsz _).grown hg5 (by simp only [World.size_alloc]; omega) (fun k hk => (hown0.lt k hk).1)); have hcr5 := heldB hb5 (by omega) hcr; have hfr5 := (hb5.frozen (p := ⟨w.heap.size + 1, 0, none⟩) (by dsimp only; omega)).trans hfr; have hcz5 := heldB hb5 (by omega) hcz; have hfz5 := (hb5.frozen (p := ⟨w.heap.size, 0, none⟩) (by dsimp only; omega)).trans hfz; have hs5 := Lib.hid (hsw3'.out.below hb5 (by omega)); have hW5 := Lib.hid (hW.out.then_below hb5 (by omega)); have hsz5 := hb5.size; obtain ⟨a5, c5, hv5, _, _⟩ := own_slice hown5; subst hv5; have hown5' := Lib.hid hown5; clear hown5 hg5 hb5 hown0 hcr hfr hcz hfz)
            go_roundw
            case rel =>
              refine ⟨k + 1, a5, c5, xs ++ [r3_], by omega, by go_num, by rw [List.length_append, hxk'.out]; rfl, masks_snoc hP.out ⟨r3_0, by omega⟩, by simp [go_sem, *], by simp [go_sem, *], by simp [go_sem, *], by simp [go_sem, *], ?_, ?_, ?_, by simp only [World.size_setCell]; omega⟩
              · have h9 := ownsRow_setCell_below hown5'.out (a := ⟨w.heap.size + 1, 0, none⟩) (by dsimp only; omega) (.slice a5 (xs.length + 1) c5)
                rw [List.length_append, List.map_append]
                exact OV.of h9
              · exact (hs5.out.within ((Within.refl (w.heap.size + 1) (w.heap.size + 2) _).setCell (p := ⟨w.heap.size + 1, 0, none⟩) (Nat.le_refl _) (Nat.lt_succ_self _) _) (by omega)).more (by omega)
              · exact hW5.out.then_below ((Below.refl (w.heap.size + 1) _).setCell (p := ⟨w.heap.size + 1, 0, none⟩) (Nat.le_refl _) _) (by omega)
            case measure => simp [intOf]; omega
          · have e2 : (r2_ == 2) = false := by simp [q2]
            clear q0 q1 q2
            have hown0 := hown.out.1
            go_wp2_with (at_builtin; refine wpList_append_own _ rfl _ _ 26 rfl (w.heap.size + 2) 2 i0 (.int .i64 0) 1 8 Tryd.underlying26 hi hz0 hz1 hz2 rfl (by decide) _ xs.length (xs.map (Value.int .i64)) rfl (hown0.alloc _) ⟨_, 0, none⟩ 1 1 [.int .i64 m0] rfl rfl (news_one _ _ _) (one_one rfl) hm63.out (by omega) (by simp only [World.size_alloc]; omega) ?_; intro v5 w5 hown5 hg5 _; have hb5 := (((Below.refl (w.heap.size + 2) _).alloc hsz _).grown hg5 (by simp only [World.size_alloc]; omega) (fun k hk => (hown0.lt k hk).1)); have hcr5 := heldB hb5 (by omega) hcr; have hfr5 := (hb5.frozen (p := ⟨w.heap.size + 1, 0, none⟩) (by dsimp only; omega)).trans hfr; have hcz5 := heldB hb5 (by omega) hcz; have hfz5 := (hb5.frozen (p := ⟨w.heap.size, 0, none⟩) (by dsimp only; omega)).trans hfz; have hs5 := Lib.hid (hsw2'.out.below hb5 (by omega)); have hW5 := Lib.hid (hW.out.then_below hb5 (by omega)); have hsz5 := hb5.size; obtain ⟨a5, c5, hv5, _, _⟩ := own_slice hown5; subst hv5; have hown5' := Lib.hid hown5; clear hown5 hg5 hb5 hown0 hcr hfr hcz hfz)
            go_roundw
            case rel =>
              refine ⟨k + 1, a5, c5, xs ++ [m0], by omega, by go_num, by rw [List.length_append, hxk'.out]; rfl, masks_snoc hP.out ⟨hm00, by omega⟩, by simp [go_sem, *], by simp [go_sem, *], by simp [go_sem, *], by simp [go_sem, *], ?_, ?_, ?_, by simp only [World.size_setCell]; omega⟩
              · have h9 := ownsRow_setCell_below hown5'.out (a := ⟨w.heap.size + 1, 0, none⟩) (by dsimp only; omega) (.slice a5 (xs.length + 1) c5)
                rw [List.length_append, List.map_append]
                exact OV.of h9
              · exact (hs5.out.within ((Within.refl (w.heap.size + 1) (w.heap.size + 2) _).setCell (p := ⟨w.heap.size + 1, 0, none⟩) (Nat.le_refl _) (Nat.lt_succ_self _) _) (by omega)).more (by omega)
              · exact hW5.out.then_below ((Below.refl (w.heap.size + 1) _).setCell (p := ⟨w.heap.size + 1, 0, none⟩) (Nat.le_refl _) _) (by omega)
            case measure => simp [intOf]; omega
    · obtain rfl : k = n := by omega
      go_wp2_with fail
      refine bodyPost_ret (v := .agg #[.slice a3 xs.length c3]) (by simp [results, Tryd.results34, go_sem, *]) rfl ⟨a3, c3, xs, rfl, hxk'.out, hP.out, ?_, ?_, ?_⟩
      · exact own_mono (ownsRow_setCell_below (a := ⟨w.heap.size, 0, none⟩) hown.out.1 (by dsimp only; omega) _) (by omega)
      · exact hsr'.out.within ((Within.refl (w.heap.size) (w.heap.size + 1) _).setCell (p := ⟨w.heap.size, 0, none⟩) (Nat.le_refl _) (Nat.lt_succ_self _) _) (by omega)
      · exact hW.out.then_below ((Below.refl w.heap.size _).setCell (p := ⟨w.heap.size, 0, none⟩) (Nat.le_refl _) _) (by omega)
theorem spec_A2Card (a : Option Addr) (c : Nat) (l : List UInt8) (w : World) (hx : RB w a l) (hl : l.length ≤ 1073741824) :
    Calls Tryd.prog 11 #[.slice a l.length c] w fun e w' => ∃ (a' : Option Addr) (c' : Nat) (xs : List Int), e = .returned (.agg #[.slice a' xs.length c']) ∧ (1 ≤ xs.length ∧ xs.length ≤ 6) ∧ (∀ x ∈ xs, MaskP x) ∧ w'.ownsRow w.heap.size 2 1 (.slice a' xs.length c') xs.length (xs.map (Value.int .i64)) ∧ Below w.heap.size w w' := by
  have hb1 := Lib.hid (below_alloc (w := w) (.cells #[.slice none 0 0] 28))
  go_enter Tryd.func11, Tryd.ntmps11
  go_wp2_with fail
  refine (spec_l00From a c l _ (hx.kept hb1.out)).mono ?_
  rintro e w1 ⟨rfl, hs, hb⟩
  rw [show (w.alloc (.cells #[.slice none 0 0] 28)).heap.size = w.heap.size + 1 by simp] at hs
  (have hc0 := keep (p := ⟨w.heap.size, 0, none⟩) (v := .slice none 0 0) hb (by simp [go_sem, *]); have hf0 := keepf (p := ⟨w.heap.size, 0, none⟩) (v := .slice none 0 0) hb (by simp [go_sem, *]) (by simp [go_sem, *]); have hl0 := World.block_lt_of_cell? _ _ hc0)
  have hB1 := Lib.hid (bthen hb1.out hb)
  have hs' := Lib.hid hs
  clear hs
  simp only [World.size_alloc]
  go_wp2_with fail
  refine (spec_pick (w.heap.size + 1) a c l _ 6 _ hs'.out (by omega) hl (by omega) (by omega)).mono ?_
  rintro e w2 ⟨r, rfl, ⟨r0, r1, _⟩, hs2, hw2⟩
  replace r1 := r1 (by omega)
  obtain ⟨q, rfl⟩ := Int.eq_ofNat_of_zero_le r0
  have hfz2 := hw2.frozen hc0 hf0 (Or.inl (by dsimp only; omega))
  have hcz2 := hw2.cell hc0 (Or.inl (by dsimp only; omega))
  have hs2' := Lib.hid hs2
  have hw2' := Lib.hid hw2
  have hd1 := Lib.hid (spec_l02Draw (w.heap.size + 1) a c l _ (q + 1) w2 hs2 (by omega) hl (by omega))
  clear hs2 hw2
  have hcast := Lib.hid (show (1 : Int) + (q : Int) = ((q + 1 : Nat) : Int) by omega)
  go_wp2_with fail
  rw [hcast.out]
  refine hd1.out.mono ?_
  rintro e w3 ⟨a3, c3, xs, rfl, hxl, hP, hown, hs3, hw3⟩
  have hfz3 := hw3.frozen hcz2 hfz2 (Or.inl (by dsimp only; omega))
  have hcz3 := hw3.cell hcz2 (Or.inl (by dsimp only; omega))
  have hown' := Lib.hid hown
  have hP' := Lib.hid hP
  have hxl' := Lib.hid hxl
  have hw23 := Lib.hid (hw2'.out.trans hw3)
  have hsz1 := hB1.out.size
  have hsz2 := hw2'.out.size
  clear hown hP hxl hw3 hs3
  go_wp2_with fail
  refine bodyPost_ret (v := .agg #[.slice a3 xs.length c3]) (by simp [results, Tryd.results11, go_sem, *]) rfl ⟨a3, c3, xs, rfl, by rw [hxl'.out]; omega, hP'.out, ?_, ?_⟩
  · have hlq : w.heap.size < w1.heap.size := hl0
    exact own_mono (ownsRow_setCell_below (a := ⟨w.heap.size, 0, none⟩) hown'.out (by dsimp only; omega) _) (by omega)
  · exact ((hw23.out.below (B := w.heap.size) hB1.out (by omega) hB1.out.size)).setCell (by dsimp only; omega) _
end Go.Proofs.YtcbjfgjlhjjpiaaDoor
