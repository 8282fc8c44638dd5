/- The walks of the functions that mark the items of layouts and ask for their marks: what each returns and which rows it writes. -/
import Derived.Test.YtcbjfgjlhjjpiaaDoorItems
import Derived.Test.YtcbjfgjlhjjpiaaDoorTexts
import Derived.Deep.RegionHeld3
namespace Go.Proofs.YtcbjfgjlhjjpiaaDoor
open Go.RowKit
set_option maxRecDepth 100000
set_option linter.unusedVariables false
set_option linter.unusedSimpArgs false
set_option linter.unnecessarySimpa false

def markT (k : Int) : Itm := ⟨markS k, k + 1, k + 2, k + 3⟩
def marksT (k : Int) (n : Nat) : List Itm := (List.range n).map fun (j : Nat) => markT (k + (j : Int) * 4)
theorem marksT_length (k : Int) (n : Nat) : (marksT k n).length = n := by simp [marksT]
theorem marksT_at (k : Int) {n j : Nat} (h : j < n) : (marksT k n)[j]? = some (markT (k + (j : Int) * 4)) := by simp [marksT, h]
theorem marksT_succ (k : Int) (j : Nat) : marksT k (j + 1) = marksT k j ++ [markT (k + (j : Int) * 4)] := by simp [marksT, List.range_succ]
set_option maxHeartbeats 1000000 in
theorem laws_markItemS (lo hi : Nat) (a : Option Addr) (c : Nat) (xs : List Itm) (k : Int) (w : World) (h : OT lo hi w 77 a c xs) (h0 : 1 ≤ k) (h1 : k ≤ 16777216) (hn : xs.length ≤ 1048576) (hhi : hi ≤ w.heap.size) :
    Calls Tryd.prog 58 #[.slice a xs.length c, .int .i64 k] w fun e w' => e = .returned (.int .i64 (k + (xs.length : Int) * 4)) ∧ Within lo hi w w' ∧ OT lo hi w' 77 a c (marksT k xs.length) := by
  have hM : (itemsV xs).length = xs.length * 4 := itemsV_length xs
  generalize hN : xs.length = n at *
  have hN' := Lib.hid hN
  have h' : OV lo hi w 77 4 a n c (itemsV (marksT k 0) ++ (itemsV xs).drop (0 * 4)) := by
    unfold OT at h; rw [hN] at h; simpa [marksT, itemsV] using h
  generalize hMM : itemsV xs = M at *
  have hM' := Lib.hid hM
  clear hN hM hMM h
  go_enter Tryd.func58, Tryd.ntmps58
  go_wp2_with fail
  go_loopw [1, 5] (fun q i wr => ∃ j : Nat, j ≤ n ∧ i = .int .i64 j ∧ q = .int .i64 (k + (j : Int) * 4) ∧ OV lo hi wr 77 4 a n c (itemsV (marksT k j) ++ M.drop (j * 4)) ∧ Within lo hi w wr ∧ hi ≤ wr.heap.size) (fun _ i _ => n - (intOf i).toNat)
  case atStart => exact ⟨0, by omega, rfl, by simp, h', Within.refl _ _ _, hhi⟩
  case round =>
    obtain ⟨j, hj, rfl, rfl, ho, hw, hh⟩ := hrel
    by_cases hlt : j < n
    · obtain ⟨g, rfl, hg1, hg2⟩ := ho.addr (by omega)
      have hP : (itemsV (marksT k j)).length = j * 4 := by rw [itemsV_length, marksT_length]
      have hs4 := Lib.hid (fun (p q r s : Value) => set4 (M := M) (a := p) (b := q) (c := r) (d := s) hP (by rw [hM'.out]; omega))
      have hsu := Lib.hid (marksT_succ k j)
      obtain ⟨v0, hv0⟩ := cell4 (M := M) (j := 0) hP (by omega) (by rw [hM'.out]; omega)
      obtain ⟨v1, hv1⟩ := cell4 (M := M) (j := 1) hP (by omega) (by rw [hM'.out]; omega)
      obtain ⟨v2, hv2⟩ := cell4 (M := M) (j := 2) hP (by omega) (by rw [hM'.out]; omega)
      obtain ⟨v3, hv3⟩ := cell4 (M := M) (j := 3) hP (by omega) (by rw [hM'.out]; omega)
      have hm := Lib.hid (laws_markText (k + (j : Int) * 4) wr (by omega) (by omega))
      clear hP
      go_wp2_with fail
      refine hm.out.mono ?_
      rintro e w2 ⟨rfl, hb2⟩
      have hown2 := ho.kept hb2
      have hd0 := (hown2.1.cellAt (j * 4 + 0) (by omega)).trans hv0
      have hd1 := (hown2.1.cellAt (j * 4 + 1) (by omega)).trans hv1
      have hd2 := (hown2.1.cellAt (j * 4 + 2) (by omega)).trans hv2
      have hd3 := (hown2.1.cellAt (j * 4 + 3) (by omega)).trans hv3
      rw [Nat.add_zero] at hd0
      have he0 := hown2.1.frozenAt (j * 4)
      have he1 := hown2.1.frozenAt (j * 4 + 1)
      have he2 := hown2.1.frozenAt (j * 4 + 2)
      have he3 := hown2.1.frozenAt (j * 4 + 3)
      have hw2 := Lib.hid (hw.trans (Within.of_below hb2))
      have hh2 := hb2.size
      have hown3 := Lib.hid hown2
      clear hv0 hv1 hv2 hv3 hb2 hown2 ho
      go_wp2_with fail
      go_roundw
      case rel =>
        refine ⟨j + 1, by omega, by go_num, by first | go_num | (congr 1; omega) | (simp; omega), ?_, (((hw2.out.setCell hg1 hg2 _).setCell hg1 hg2 _).setCell hg1 hg2 _).setCell hg1 hg2 _, by simp only [World.size_setCell]; omega⟩
        have h9 := (((hown3.out.store (j * 4) (.string (markS (k + (j : Int) * 4)))).store (j * 4 + 1) (.int .i64 (k + (j : Int) * 4 + 1))).store (j * 4 + 2) (.int .i64 (k + (j : Int) * 4 + 1 + 1))).store (j * 4 + 3) (.int .i64 (k + (j : Int) * 4 + 1 + 1 + 1))
        rw [hs4.out] at h9
        have hce : (markT (k + (j : Int) * 4)).cells = [.string (markS (k + (j : Int) * 4)), .int .i64 (k + (j : Int) * 4 + 1), .int .i64 (k + (j : Int) * 4 + 1 + 1), .int .i64 (k + (j : Int) * 4 + 1 + 1 + 1)] := by
          rw [show k + (j : Int) * 4 + 1 + 1 + 1 = k + (j : Int) * 4 + 3 by omega, show k + (j : Int) * 4 + 1 + 1 = k + (j : Int) * 4 + 2 by omega]; rfl
        rw [hsu.out, itemsV_append, itemsV_one, show (j + 1) * 4 = j * 4 + 4 by omega, hce]
        first | exact h9 | simpa [Int.add_assoc, Nat.add_assoc] using h9
      case measure => simp [intOf]; omega
    · go_wp2_with fail
      go_ret
      have e : j = n := by omega
      subst e
      refine ⟨rfl, hw, ?_⟩
      rw [List.drop_of_length_le (by rw [hM'.out]; exact Nat.le_refl _), List.append_nil] at ho
      unfold OT; rw [marksT_length]; exact ho
theorem laws_markLayout (lo hi : Nat) (wd : Int) (a : Option Addr) (c : Nat) (xs : List Itm) (k : Int) (w : World) (h : OT lo hi w 77 a c xs) (h0 : 1 ≤ k) (h1 : k ≤ 16777216) (hn : itemsSz xs ≤ 1048576) (hhi : hi ≤ w.heap.size) :
    Calls Tryd.prog 26 #[.agg #[.int .i64 wd, .slice a xs.length c], .int .i64 k] w fun e w' => e = .returned (.int .i64 (k + (xs.length : Int) * 4)) ∧ Within lo hi w w' ∧ OT lo hi w' 77 a c (marksT k xs.length) := by
  have hb1 := Lib.hid (below_alloc (w := w) (.cells #[.int .i64 wd, .slice a xs.length c] 47))
  have hdl := itemsSz_len xs
  go_enter Tryd.func26, Tryd.ntmps26
  go_wp2_with (go_at_call 58; ((with_reducible refine (laws_markItemS lo hi _ _ _ _ _ (h.kept hb1.out) h0 h1 (by omega) (by simp only [World.size_alloc]; omega)).mono ?_); rintro e w' ⟨rfl, hw, ho⟩))
  go_ret
  exact ⟨rfl, (Within.of_below hb1.out).trans hw, ho⟩
set_option maxHeartbeats 1000000 in
theorem laws_heldItemS (a : Option Addr) (c n : Nat) (k : Int) (w : World) (hx : RT w a (marksT k n)) (h0 : 1 ≤ k) (h1 : k ≤ 16777216) (hn : n ≤ 1048576) :
    Calls Tryd.prog 59 #[.slice a n c, .int .i64 k] w fun e w' => e = .returned (.int .i64 (k + (n : Int) * 4)) ∧ Below w.heap.size w w' := by
  go_enter Tryd.func59, Tryd.ntmps59
  go_wp2_with fail
  go_loopw [1, 5] (fun q i wr => ∃ j : Nat, j ≤ n ∧ i = .int .i64 j ∧ q = .int .i64 (k + (j : Int) * 4) ∧ Below w.heap.size w wr) (fun _ i _ => n - (intOf i).toNat)
  case atStart => exact ⟨0, by omega, rfl, by simp, Below.refl _ _⟩
  case round =>
    obtain ⟨j, hj, rfl, rfl, hb⟩ := hrel
    by_cases hlt : j < n
    · obtain ⟨b1, o1, rfl, hc0, hc1, hc2, hc3⟩ := (hx.kept hb).at (marksT_at k hlt)
      simp only [markT] at hc0 hc1 hc2 hc3
      have hk1 : 1 ≤ k + (j : Int) * 4 := by omega
      have hk2 : k + (j : Int) * 4 ≤ 33554432 := by omega
      rw [show k + (j : Int) * 4 + 3 = k + (j : Int) * 4 + 1 + 1 + 1 by omega] at hc3
      rw [show k + (j : Int) * 4 + 2 = k + (j : Int) * 4 + 1 + 1 by omega] at hc2
      generalize hK : k + (j : Int) * 4 = K at *
      have hK' := Lib.hid hK
      clear hK
      go_wp2_with fail
      (first | go_region_held3 (fun W => Below wr.heap.size wr W ∧ W.cell? ⟨b1, o1 + j * 4, none⟩ = some (.string (markS K))) (first | exact held1 (below_drewN (Below.refl _ _) 1) hc0 | (rename Below wr.heap.size wr _ ∧ _ => hH; refine held1 ?_ hc0; (refine bthen hH.1 ?_; assumption))) (first | (go_at_call 94; ((with_reducible refine (laws_markText _ _ hk1 hk2).mono ?_); rintro e wq0 ⟨rfl, hbq⟩))) | fail)
      all_goals
        have hHb := And.left ‹Below wr.heap.size wr _ ∧ _›
        have hd1 := keep hHb hc1
        have hd2 := keep hHb hc2
        have hd3 := keep hHb hc3
        go_wp2_with fail
        go_roundw
        case rel => exact ⟨j + 1, by omega, by go_num, by (have := hK'.out; congr 1; omega), bthen hb hHb⟩
        case measure => simp [intOf] <;> omega
    · go_wp2_with fail
      go_ret
      have e : j = n := by omega
      subst e
      exact ⟨rfl, hb⟩
theorem laws_heldLayout (wd : Int) (a : Option Addr) (c n : Nat) (k : Int) (w : World) (hx : RT w a (marksT k n)) (h0 : 1 ≤ k) (h1 : k ≤ 16777216) (hn : n ≤ 1048576) :
    Calls Tryd.prog 27 #[.agg #[.int .i64 wd, .slice a n c], .int .i64 k] w fun e w' => e = .returned (.int .i64 (k + (n : Int) * 4)) ∧ Below w.heap.size w w' := by
  have hb1 := Lib.hid (below_alloc (w := w) (.cells #[.int .i64 wd, .slice a n c] 47))
  go_enter Tryd.func27, Tryd.ntmps27
  go_wp2_with (go_at_call 59; ((with_reducible refine (laws_heldItemS _ _ _ _ _ (hx.kept hb1.out) h0 h1 hn).mono ?_); rintro e w' ⟨rfl, hb⟩))
  go_ret
  exact ⟨rfl, bthen hb1.out hb⟩
end Go.Proofs.YtcbjfgjlhjjpiaaDoor
