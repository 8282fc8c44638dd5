/- The walks of the functions that draw numbers from bytes: in which bounds the numbers lie, and that nothing but the source is written. -/
import Derived.Test.YtcbjfgjlhjjpiaaDoorData
import Derived.Test.YtcbjfgjlhjjpiaaDoorRanks
import Derived.Deep.QuietTactic
import Derived.BigQuiet
import Derived.Laws.Bits64
namespace Go.Proofs.YtcbjfgjlhjjpiaaDoor
open Go.RowKit
set_option maxRecDepth 100000
set_option linter.unusedVariables false
set_option linter.unusedSimpArgs false
set_option linter.unnecessarySimpa false

/-- a block is a source of numbers over the bytes l, of which at most k have been read -/
def SrcIs (w : World) (B : Nat) (a : Option Addr) (c : Nat) (l : List UInt8) (k : Nat) : Prop :=
  ∃ (i : Nat) (seed : Int), i ≤ k ∧ w.heap[B]? = some (.cells #[.slice a l.length c, .int .i64 i, .int .u64 seed] 105 (0, 0)) ∧ RB w a l ∧ (0 < l.length → ∀ p, a = some p → p.block < B)
theorem SrcIs.more {w : World} {B c k k' : Nat} {a : Option Addr} {l : List UInt8} (h : SrcIs w B a c l k) (hk : k ≤ k') : SrcIs w B a c l k' := by
  obtain ⟨i, seed, h1, h2⟩ := h
  exact ⟨i, seed, Nat.le_trans h1 hk, h2⟩
theorem SrcIs.lt {w : World} {B c k : Nat} {a : Option Addr} {l : List UInt8} (h : SrcIs w B a c l k) : B < w.heap.size := by
  obtain ⟨i, seed, h1, h2, _⟩ := h
  exact (Array.getElem?_eq_some_iff.1 h2).1
/-- the bytes a source reads are not written where nothing below it is -/
theorem pos_of_map {l : List UInt8} {j : Nat} {v : Value} (h : (l.map byteV)[j]? = some v) : 0 < l.length := by
  have := (List.getElem?_eq_some_iff.1 h).1
  rw [List.length_map] at this; omega
theorem RB.lt {w : World} {a : Option Addr} {l : List UInt8} (h : RB w a l) (hl : 0 < l.length) : ∀ p, a = some p → p.block < w.heap.size := by
  intro p hp
  obtain ⟨u, hu⟩ := get_some (l := l) (k := 0) hl
  obtain ⟨b, o, e, hc⟩ := h.at hu
  rw [hp] at e
  simp only [Option.some.injEq] at e
  subst e
  exact World.block_lt_of_cell? _ _ hc
theorem RB.within {w w' : World} {lo hi : Nat} {a : Option Addr} {l : List UInt8} (h : RB w a l) (hw : Within lo hi w w') (hd : 0 < l.length → ∀ p, a = some p → p.block < lo) : RB w' a l := fun j v hj => by
  obtain ⟨b, o, rfl, hc⟩ := h j v hj
  exact ⟨b, o, rfl, hw.cell hc (Or.inl (show b < lo from hd (pos_of_map hj) ⟨b, o, none⟩ rfl))⟩
theorem SrcIs.within {w w' : World} {lo hi B c k : Nat} {a : Option Addr} {l : List UInt8} (h : SrcIs w B a c l k) (hw : Within lo hi w w') (hd : B < lo) : SrcIs w' B a c l k := by
  obtain ⟨i, seed, h1, h2, h3, h4⟩ := h
  exact ⟨i, seed, h1, (hw.block B (Array.getElem?_eq_some_iff.1 h2).1 (fun e => by omega)).trans h2, h3.within hw (fun hl p hp => by have := h4 hl p hp; omega), h4⟩
theorem SrcIs.kept {w w' : World} {B c k : Nat} {a : Option Addr} {l : List UInt8} (h : SrcIs w B a c l k) (hb : Below w.heap.size w w') : SrcIs w' B a c l k :=
  h.within (Within.of_below (lo := B + 1) (hi := B + 1) hb) (Nat.lt_succ_self B)
theorem and255 (x : Int) : 0 ≤ bits .and .u64 x 255 ∧ bits .and .u64 x 255 ≤ 255 := by
  have h : (BitVec.ofInt 64 x &&& BitVec.ofInt 64 255).toNat ≤ 255 := by
    rw [BitVec.toNat_and]
    exact Nat.le_trans Nat.and_le_right (by decide)
  have h2 : ∀ n : Nat, n ≤ 255 → 0 ≤ (n : Int) % 18446744073709551616 ∧ (n : Int) % 18446744073709551616 ≤ 255 := by omega
  unfold bits
  rw [IntKind.wrap_u64]
  exact h2 _ h
/-- a number has been drawn, of which P holds -/
def Drawn (w : World) (B : Nat) (a : Option Addr) (c : Nat) (l : List UInt8) (k : Nat) (P : Int → Prop) (e : Ending) (w' : World) : Prop :=
  ∃ r : Int, e = .returned (.int .i64 r) ∧ P r ∧ SrcIs w' B a c l k ∧ Within B (B + 1) w w'
theorem src_cells {w : World} {B t : Nat} {u v x : Value} (h : w.heap[B]? = some (.cells #[u, v, x] t (0, 0))) : (w.cell? ⟨B, 0, none⟩ = some u ∧ w.cell? ⟨B, 1, none⟩ = some v ∧ w.cell? ⟨B, 2, none⟩ = some x) ∧ w.frozen? ⟨B, 0, none⟩ = false ∧ w.frozen? ⟨B, 1, none⟩ = false ∧ w.frozen? ⟨B, 2, none⟩ = false := by
  refine ⟨⟨by rw [cell_of_row w B 0 _ t (0, 0) h]; rfl, by rw [cell_of_row w B 1 _ t (0, 0) h]; rfl, by rw [cell_of_row w B 2 _ t (0, 0) h]; rfl⟩, ?_, ?_, ?_⟩ <;> simp [World.frozen?, h]
theorem src_set {w : World} {B t : Nat} {u v x v' x' : Value} (h : w.heap[B]? = some (.cells #[u, v, x] t (0, 0))) : ((w.setCell ⟨B, 1, none⟩ v').setCell ⟨B, 2, none⟩ x').heap[B]? = some (.cells #[u, v', x'] t (0, 0)) := by
  simp [World.setCell, Array.getElem?_modify, h]
theorem spec_l00From (a : Option Addr) (c : Nat) (l : List UInt8) (w : World) (hx : RB w a l) :
    Calls Tryd.prog 33 #[.slice a l.length c] w fun e w' => e = .returned (.pointer (some ⟨w.heap.size, 0, none⟩)) ∧ SrcIs w' w.heap.size a c l 0 ∧ Below w.heap.size w w' := by
  go_enter Tryd.func33, Tryd.ntmps33
  go_wp2_with fail
  go_ret
  exact ⟨rfl, ⟨0, 0, Nat.le_refl _, heap_alloc_new _ _, hx.kept (below_alloc _), fun hl => hx.lt hl⟩, below_alloc _⟩
theorem src_within (w : World) (B m n : Nat) (v' x' : Value) : Within B (B + 1) w ((((w.drewN m).setCell ⟨B, 1, none⟩ v').setCell ⟨B, 2, none⟩ x').drewN n) :=
  (((Within.of_below (lo := B) (hi := B + 1) (below_drewN (Below.refl w.heap.size w) m)).setCell (p := ⟨B, 1, none⟩) (Nat.le_refl B) (Nat.lt_succ_self B) v').setCell (p := ⟨B, 2, none⟩) (Nat.le_refl B) (Nat.lt_succ_self B) x').trans (Within.of_below (below_drewN (Below.refl _ _) n))
set_option maxHeartbeats 1000000 in
theorem spec_next (B : Nat) (a : Option Addr) (c : Nat) (l : List UInt8) (k : Nat) (w : World) (h : SrcIs w B a c l k) (hk : k ≤ 1073741824) (hl : l.length ≤ 1073741824) :
    Calls Tryd.prog 69 #[.pointer (some ⟨B, 0, none⟩)] w (Drawn w B a c l (k + 1) fun r => 0 ≤ r ∧ r ≤ 255) := by
  obtain ⟨i, seed, hik, hbk, hrb, hd⟩ := h
  obtain ⟨⟨hc0, hc1, hc2⟩, hf0, hf1, hf2⟩ := src_cells hbk
  have hbk' := Lib.hid hbk
  have hd' := Lib.hid hd
  clear hbk hd
  by_cases hlt : i < l.length
  · obtain ⟨u, hu⟩ := get_some (l := l) (k := i) hlt
    obtain ⟨b1, o1, rfl, hcu⟩ := hrb.at hu
    have hne : b1 < B := hd'.out (by omega) _ rfl
    have hne1 : ¬ b1 = B := by omega
    have hne2 : ¬ B = b1 := by omega
    obtain ⟨hub0, hub1⟩ := byte_bd u
    have hlt' : (i : Int) < (l.length : Int) := by omega
    have hi1 : (i : Int) + 1 ≤ (l.length : Int) := by omega
    have hrb' := Lib.hid hrb
    clear hu
    go_enter Tryd.func69, Tryd.ntmps69
    go_wp2_with fail
    first | go_quiet (fail) | fail
    go_wp2_with fail
    first | go_quiet (fail) | fail
    go_wp2_with fail
    first | go_quiet (fail) | fail
    go_wp2_with fail
    go_ret
    exact ⟨_, rfl, ⟨hub0, hub1⟩, ⟨i + 1, _, by omega, src_set hbk'.out, hrb'.out.within (src_within w B _ _ _ _) hd'.out, hd'.out⟩, src_within w B _ _ _ _⟩
  · have hlt' : ¬ (i : Int) < (l.length : Int) := by omega
    have hi1 : ¬ (i : Int) + 1 ≤ (l.length : Int) := by omega
    have hrb' := Lib.hid hrb
    have hand := Lib.hid and255
    have hand2 := Lib.hid (fun (x : Int) => (show wrap64 (bits .and .u64 x 255) = bits .and .u64 x 255 by have := and255 x; unfold wrap64; omega))
    go_enter Tryd.func69, Tryd.ntmps69
    go_wp2_with fail
    first | go_quiet (fail) | fail
    go_wp2_with fail
    first | go_quiet (fail) | fail
    go_wp2_with fail
    go_ret
    refine ⟨_, rfl, ?_, ⟨i + 1, _, by omega, src_set hbk'.out, hrb'.out.within (src_within w B _ _ _ _) hd'.out, hd'.out⟩, src_within w B _ _ _ _⟩
    rw [hand2.out]
    exact hand.out _
/-- what pick n gives -/
def PickP (n r : Int) : Prop := 0 ≤ r ∧ (1 ≤ n → r < n) ∧ (n ≤ 1 → r = 0)
set_option maxHeartbeats 1000000 in
theorem spec_pick (B : Nat) (a : Option Addr) (c : Nat) (l : List UInt8) (k : Nat) (n : Int) (w : World) (h : SrcIs w B a c l k) (hk : k + 2 ≤ 1073741824) (hl : l.length ≤ 1073741824) (hn0 : -65536 ≤ n) (hn : n ≤ 65536) :
    Calls Tryd.prog 35 #[.pointer (some ⟨B, 0, none⟩), .int .i64 n] w (Drawn w B a c l (k + 2) (PickP n)) := by
  have h' := Lib.hid h
  clear h
  by_cases h1 : n ≤ 1
  · go_enter Tryd.func35, Tryd.ntmps35
    go_wp2_with fail
    go_ret
    exact ⟨0, rfl, ⟨Int.le_refl _, fun h => by omega, fun _ => rfl⟩, h'.out.more (by omega), Within.refl _ _ _⟩
  · have hnx := Lib.hid (spec_next B a c l k w h'.out (by omega) hl)
    have hnp : 0 < n := by omega
    go_enter Tryd.func35, Tryd.ntmps35
    go_wp2_with fail
    all_goals
      refine hnx.out.mono ?_
      rintro e w1 ⟨r, rfl, ⟨hr0, hr1⟩, hs, hw⟩
      have hs' := Lib.hid hs
      have hw' := Lib.hid hw
      clear hs hw
      by_cases h2 : 200 < n
      · have hny := Lib.hid (spec_next B a c l (k + 1) w1 hs'.out (by omega) hl)
        go_wp2_with fail
        refine hny.out.mono ?_
        rintro e w2 ⟨q, rfl, ⟨hq0, hq1⟩, hs2, hw2⟩
        have hs2' := Lib.hid hs2
        have hw2' := Lib.hid hw2
        clear hs2 hw2
        have hsum : 0 ≤ r * 256 + q := by omega
        go_wp2_with fail
        go_ret
        have hm1 := Int.emod_nonneg (r * 256 + q) (show n ≠ 0 by omega)
        have hm2 := Int.emod_lt_of_pos (r * 256 + q) hnp
        exact ⟨_, rfl, ⟨hm1, fun _ => hm2, fun h => by omega⟩, hs2'.out, hw'.out.trans hw2'.out⟩
      · go_wp2_with fail
        go_ret
        have hm1 := Int.emod_nonneg r (show n ≠ 0 by omega)
        have hm2 := Int.emod_lt_of_pos r hnp
        exact ⟨_, rfl, ⟨hm1, fun _ => hm2, fun h => by omega⟩, hs'.out.more (by omega), hw'.out⟩
/-- a yes or a no has been drawn -/
def DrawnB (w : World) (B : Nat) (a : Option Addr) (c : Nat) (l : List UInt8) (k : Nat) (e : Ending) (w' : World) : Prop :=
  ∃ b : Bool, e = .returned (.bool b) ∧ SrcIs w' B a c l k ∧ Within B (B + 1) w w'
theorem Within.then_below {lo hi M : Nat} {w w' w'' : World} (h : Within lo hi w w') (hb : Below M w' w'') (hM : w.heap.size ≤ M) : Within lo hi w w'' :=
  ⟨hb.os.trans h.os, hb.tape.trans h.tape, hb.output.trans h.output, Nat.le_trans h.size hb.size, fun k hk hn => (hb.block k (by omega)).trans (h.block k hk hn)⟩
theorem SrcIs.below {w w' : World} {M B c k : Nat} {a : Option Addr} {l : List UInt8} (h : SrcIs w B a c l k) (hb : Below M w w') (hd : B < M) : SrcIs w' B a c l k := by
  obtain ⟨i, seed, h1, h2, h3, h4⟩ := h
  refine ⟨i, seed, h1, (hb.block B hd).trans h2, fun j v hj => ?_, h4⟩
  obtain ⟨b, o, rfl, hc⟩ := h3 j v hj
  have hbb : b < B := h4 (pos_of_map hj) ⟨b, o, none⟩ rfl
  exact ⟨b, o, rfl, (hb.cell (p := ⟨b, o + j, none⟩) (show b < M by omega)).trans hc⟩
end Go.Proofs.YtcbjfgjlhjjpiaaDoor
