/- The walk of the function that writes the text of a layout, for layouts with small numbers. -/
import Derived.Test.YtmpfnkheohlmiaaGreatDoorQV
import Derived.Test.YtmpfnkheohlmiaaGreatDoorQH
import Derived.Laws.AppendOwn
import Derived.Lib.SlBytesConst
import Derived.Deep.RegionHeld3
namespace Go.Proofs.YtmpfnkheohlmiaaGreatDoor
open Go.RowKit
set_option maxRecDepth 100000
set_option linter.unusedVariables false
set_option linter.unusedSimpArgs false
set_option linter.unnecessarySimpa false

theorem lineL_lenG {x : Itm} {wd : Int} (h : ItmS wd x) (hw : wd ≤ 20) : (lineL x).length ≤ 64 := by
  obtain ⟨a1, _, h1, h2, h3⟩ := h
  have a2 := kindL_len x.kind
  have a3 := Lib.itoa_length_le x.fr (by omega) (by omega)
  have a4 := Lib.itoa_length_le x.to (by omega) (by omega)
  have a5 := len_bytes x.name
  unfold lineL
  simp only [List.length_append, List.length_singleton]; omega
theorem layUp_lenG {wd : Int} {xs : List Itm} (h : LayS wd xs) : ∀ k, k ≤ xs.length → (layUp wd xs k).length ≤ 28 + 64 * k
  | 0, _ => by
    obtain ⟨⟨w1, w2, _⟩, _⟩ := h
    have := Lib.itoa_length_le wd (by omega) (by omega)
    rw [layUp_zero]; unfold headL
    simp only [List.length_append, List.length_cons, List.length_nil]; omega
  | k + 1, hk => by
    obtain ⟨x, hx⟩ : ∃ x, xs[k]? = some x := ⟨xs[k], List.getElem?_eq_getElem (by omega)⟩
    have ih := layUp_lenG h k (by omega)
    obtain ⟨⟨w1, w2, _⟩, hi⟩ := h
    have hl := lineL_lenG (hi x (List.mem_of_getElem? hx)) w2
    rw [layUp_succ hx, List.length_append]; omega
set_option maxHeartbeats 4000000 in
theorem spec_l04TextG (B : Nat) (wd : Int) (a : Option Addr) (c : Nat) (xs : List Itm) (w : World) (hca : w.cell? ⟨B, 0, none⟩ = some (.int .i64 wd)) (hcb : w.cell? ⟨B, 1, none⟩ = some (.slice a xs.length c)) (hx : RT w a xs) (hvl : LayS wd xs) :
    Calls Tryz.prog 50 #[.pointer (some ⟨B, 0, none⟩)] w fun e w' => e = .returned (.string ⟨(layUp wd xs xs.length).toArray⟩) ∧ Below w.heap.size w w' := by
  obtain ⟨⟨w1_, w2_, w3_⟩, hits⟩ := hvl
  have hit := Lib.hid hits
  have hul := Lib.hid (fun k hk => layUp_lenG ⟨⟨w1_, w2_, w3_⟩, hits⟩ k hk)
  have hxs := Lib.hid hx
  have hwl := Lib.itoa_length_le wd (by omega) (by omega)
  have hl1 : ¬ 9223372036854775807 < 6 + (Lib.itoa wd).length := by omega
  have hl2 : ¬ 9223372036854775807 < 6 + (Lib.itoa wd).length + 1 := by omega
  obtain ⟨H0, hH0⟩ : ∃ H0 : ByteArray, (⟨#[119, 105, 100, 116, 104, 32]⟩ : ByteArray) ++ ⟨(Lib.itoa wd).toArray⟩ ++ ⟨#[10]⟩ = H0 := ⟨_, rfl⟩
  have hHd := Lib.hid (show H0 = ⟨(headL wd).toArray⟩ from hH0.symm.trans (head_text wd))
  have hHl := Lib.hid (show H0.data.toList = layUp wd xs 0 by rw [hHd.out, layUp_zero])
  have hHs : H0.size ≤ 28 := by
    have := hul.out 0 (by omega)
    rw [← hHl.out, len_bytes] at this; omega
  have hcv := fun (W : World) (s : ByteArray) => Lib.run_convert_string_bytes (P := Tryz.prog) W 9 22 5 s Tryz.underlying9 Tryz.underlying22 Tryz.underlying5
  obtain ⟨i0, hi, hz0, hz1, hz2⟩ := info_parts info_u8
  clear hx hits
  go_enter Tryz.func50, Tryz.ntmps50
  go_wp2_with fail
  refine (spec_l01Dec wd _ (by omega) (by omega)).mono ?_
  rintro e w2 ⟨rfl, hb⟩
  have hM := Lib.hid (ownM_conv w2 5 H0 (by unfold maxLen; omega))
  rw [hHl.out] at hM
  have hbw := Lib.hid (Lib.bytesWorld_below w2 5 H0)
  go_wp2_with fail
  -- LOOP
  go_loopw [3, 4] (fun v i wr => ∃ k : Nat, k ≤ xs.length ∧ i = .int .i64 k ∧ Hid (ownM wr w2.heap.size 5 v (layUp wd xs k)) ∧ Hid (Below w2.heap.size w2 wr)) (fun _ i _ => xs.length - (intOf i).toNat)
  case atStart => exact ⟨0, by omega, rfl, by first | exact hM | (have hl := len_bytes H0; rw [hHl.out] at hl; rw [← hl]; exact hM), Lib.hid hbw.out⟩
  case round =>
    obtain ⟨k, hk, rfl, hM, hbl⟩ := hrel
    have hBr := Lib.hid (bthen hb hbl.out)
    have z0 := keep hBr.out hca
    have z1 := keep hBr.out hcb
    have hwr := Lib.hid (hbl.out.size)
    by_cases hlt : k < xs.length
    · have hlt' : (k : Int) < (xs.length : Int) := by omega
      obtain ⟨x, hxk⟩ := get_some (l := xs) (k := k) hlt
      obtain ⟨b1, o1, rfl, p0, p1, p2, p3⟩ := hxs.out.at hxk
      have hb1 : b1 < w.heap.size := World.block_lt_of_cell? _ _ p0
      have hw2 := hb.size
      have q0 := keep hBr.out p0
      have q1 := keep hBr.out p1
      have q2 := keep hBr.out p2
      have q3 := keep hBr.out p3
      have hitx := hit.out x (List.mem_of_getElem? hxk)
      obtain ⟨hnm, hkd, f1, f2, f3⟩ := hitx
      have hTl := hul.out k hk
      have hnx := Lib.hid (show layUp wd xs k ++ (x.name ++ ⟨#[32]⟩ ++ ⟨(kindL x.kind).toArray⟩ ++ ⟨#[32]⟩ ++ ⟨(Lib.itoa x.fr).toArray⟩ ++ ⟨#[45]⟩ ++ ⟨(Lib.itoa x.to).toArray⟩ ++ ⟨#[10]⟩ : ByteArray).data.toList = layUp wd xs (k + 1) by rw [line_bytes wd xs k x, layUp_succ hxk])
      have hdf := Lib.hid (fun W => spec_l01Dec x.fr W (by omega) (by omega))
      have hdt := Lib.hid (fun W => spec_l01Dec x.to W (by omega) (by omega))
      have hF := Lib.itoa_length_le x.fr (by omega) (by omega)
      have hG := Lib.itoa_length_le x.to (by omega) (by omega)
      rw [← ba_size] at hF hG
      clear hxk p0 p1 p2 p3
      generalize (⟨(Lib.itoa x.fr).toArray⟩ : ByteArray) = F at *
      generalize (⟨(Lib.itoa x.to).toArray⟩ : ByteArray) = G at *
      obtain ⟨nm, kd, f, t⟩ := x
      simp only at q0 q1 q2 q3 f1 f2 f3 hnm hdf hdt hnx hkd
      have g1 : ¬ 9223372036854775807 < nm.size + 1 := by omega
      have hS := Lib.hid (fun (V : World) (hV : Below w2.heap.size wr V) => (And.intro hV (And.intro (heldB hV (by omega) q0) (And.intro (heldB hV (by omega) q2) (heldB hV (by omega) q3)))))
      have hSt := Lib.hid (fun (V V' : World) (hV : Below w2.heap.size wr V) (hV' : Below V.heap.size V V') => (hV.trans (hV'.mono (Nat.le_trans hwr.out hV.size)) : Below w2.heap.size wr V'))
      rcases hkd with hkd | hkd
      · obtain rfl : kd = 1 := hkd
        have hkw : (⟨(kindL 1).toArray⟩ : ByteArray) = ⟨#[116, 101, 120, 116]⟩ := rfl
        rw [hkw] at hnx
        have g2 : ¬ 9223372036854775807 < nm.size + 1 + 4 := by omega
        have g3 : ¬ 9223372036854775807 < nm.size + 1 + 4 + 1 := by omega
        have g4 : ¬ 9223372036854775807 < nm.size + 1 + 4 + 1 + F.size := by omega
        have g5 : ¬ 9223372036854775807 < nm.size + 1 + 4 + 1 + F.size + 1 := by omega
        have g6 : ¬ 9223372036854775807 < nm.size + 1 + 4 + 1 + F.size + 1 + G.size := by omega
        have g7 : ¬ 9223372036854775807 < nm.size + 1 + 4 + 1 + F.size + 1 + G.size + 1 := by omega
        obtain ⟨X, hX⟩ : ∃ X : ByteArray, X = nm ++ ⟨#[32]⟩ ++ ⟨#[116, 101, 120, 116]⟩ ++ ⟨#[32]⟩ ++ F ++ ⟨#[45]⟩ ++ G ++ ⟨#[10]⟩ := ⟨_, rfl⟩
        have hXs : X.size ≤ 128 := by
          have e1 : (⟨#[32]⟩ : ByteArray).size = 1 := rfl
          have e2 : (⟨#[45]⟩ : ByteArray).size = 1 := rfl
          have e3 : (⟨#[10]⟩ : ByteArray).size = 1 := rfl
          have e4 : (⟨#[116, 101, 120, 116]⟩ : ByteArray).size = 4 := rfl
          rw [hX]; simp only [ByteArray.size_append]; omega
        have hm1 := Lib.hid (show (layUp wd xs k).length + X.size ≤ maxLen by unfold maxLen; omega)
        have hm2 := Lib.hid (show (layUp wd xs k).length + X.size ≤ 140737488355328 by omega)
        have hXl := Lib.hid (show layUp wd xs k ++ X.data.toList = layUp wd xs (k + 1) by rw [hX]; exact hnx.out)
        have hX' := Lib.hid hX
        clear hX hXs hnx hkw
        go_wp2_with fail
        (first | go_region_held3 (fun V => Below w2.heap.size wr V ∧ V.cell? ⟨b1, o1 + k * 4, none⟩ = some (.string nm) ∧ V.cell? ⟨b1, o1 + k * 4 + 2, none⟩ = some (.int .i64 f) ∧ V.cell? ⟨b1, o1 + k * 4 + 3, none⟩ = some (.int .i64 t)) (first | exact hS.out _ (below_drewN (Below.refl _ _) 1) | (refine hS.out _ ?_; assumption)) (first | (go_at_call 70; ((with_reducible refine (hdf.out _).mono ?_); rintro e wq0 ⟨rfl, hbq0⟩; have hq0 := hSt.out _ _ (And.left ‹Below w2.heap.size wr _ ∧ _›) hbq0; have hk0 := Lib.hid (hbq0))) | (go_at_call 70; ((with_reducible refine (hdt.out _).mono ?_); rintro e wq1 ⟨rfl, hbq1⟩; have hq1 := hSt.out _ _ (And.left ‹Below w2.heap.size wr _ ∧ _›) hbq1; have hk1 := Lib.hid (hbq1))) | (refine step_append_M rfl _ _ 22 9 rfl w2.heap.size 5 i0 Tryz.underlying22 Tryz.underlying9 hi hz0 hz1 hz2 u3 (layUp wd xs k) rfl (by first | exact (hM.out.kept (below_drewN (Below.refl _ _) 1)) | exact hM.out.kept (bthen (below_drewN (Below.refl wr.heap.size wr) 1) (bthen hk0.out hk1.out)) | exact hM.out.kept (bthen (below_drewN (Below.refl wr.heap.size wr) 1) (bthen hk1.out hk0.out))) X (by first | rfl | (rw [hX'.out]; rfl)) hm1.out hm2.out (Nat.le_trans hwr.out (And.left ‹Below w2.heap.size wr _ ∧ _›).size) ?_; intro v5 w5 hown5 hg5; have hq5 : Below w2.heap.size wr w5 := (And.left ‹Below w2.heap.size wr _ ∧ _›).grown hg5 (Nat.le_trans hwr.out (And.left ‹Below w2.heap.size wr _ ∧ _›).size) (fun k hk => (hM.out.lt k hk).1); rw [hXl.out] at hown5; have ho5 := Lib.hid hown5; clear hown5 hg5)) | fail)
        all_goals
          go_wp2_with fail
          go_roundw
          case rel => exact ⟨k + 1, by omega, by go_num, ho5, Lib.hid (hbl.out.trans hq5)⟩
          case measure => simp [intOf]; omega
      · obtain rfl : kd = 2 := hkd
        have hkw : (⟨(kindL 2).toArray⟩ : ByteArray) = ⟨#[110, 117, 109, 98, 101, 114]⟩ := rfl
        rw [hkw] at hnx
        have g2 : ¬ 9223372036854775807 < nm.size + 1 + 6 := by omega
        have g3 : ¬ 9223372036854775807 < nm.size + 1 + 6 + 1 := by omega
        have g4 : ¬ 9223372036854775807 < nm.size + 1 + 6 + 1 + F.size := by omega
        have g5 : ¬ 9223372036854775807 < nm.size + 1 + 6 + 1 + F.size + 1 := by omega
        have g6 : ¬ 9223372036854775807 < nm.size + 1 + 6 + 1 + F.size + 1 + G.size := by omega
        have g7 : ¬ 9223372036854775807 < nm.size + 1 + 6 + 1 + F.size + 1 + G.size + 1 := by omega
        obtain ⟨X, hX⟩ : ∃ X : ByteArray, X = nm ++ ⟨#[32]⟩ ++ ⟨#[110, 117, 109, 98, 101, 114]⟩ ++ ⟨#[32]⟩ ++ F ++ ⟨#[45]⟩ ++ G ++ ⟨#[10]⟩ := ⟨_, rfl⟩
        have hXs : X.size ≤ 128 := by
          have e1 : (⟨#[32]⟩ : ByteArray).size = 1 := rfl
          have e2 : (⟨#[45]⟩ : ByteArray).size = 1 := rfl
          have e3 : (⟨#[10]⟩ : ByteArray).size = 1 := rfl
          have e4 : (⟨#[110, 117, 109, 98, 101, 114]⟩ : ByteArray).size = 6 := rfl
          rw [hX]; simp only [ByteArray.size_append]; omega
        have hm1 := Lib.hid (show (layUp wd xs k).length + X.size ≤ maxLen by unfold maxLen; omega)
        have hm2 := Lib.hid (show (layUp wd xs k).length + X.size ≤ 140737488355328 by omega)
        have hXl := Lib.hid (show layUp wd xs k ++ X.data.toList = layUp wd xs (k + 1) by rw [hX]; exact hnx.out)
        have hX' := Lib.hid hX
        clear hX hXs hnx hkw
        go_wp2_with fail
        (first | go_region_held3 (fun V => Below w2.heap.size wr V ∧ V.cell? ⟨b1, o1 + k * 4, none⟩ = some (.string nm) ∧ V.cell? ⟨b1, o1 + k * 4 + 2, none⟩ = some (.int .i64 f) ∧ V.cell? ⟨b1, o1 + k * 4 + 3, none⟩ = some (.int .i64 t)) (first | exact hS.out _ (below_drewN (Below.refl _ _) 1) | (refine hS.out _ ?_; assumption)) (first | (go_at_call 70; ((with_reducible refine (hdf.out _).mono ?_); rintro e wq0 ⟨rfl, hbq0⟩; have hq0 := hSt.out _ _ (And.left ‹Below w2.heap.size wr _ ∧ _›) hbq0; have hk0 := Lib.hid (hbq0))) | (go_at_call 70; ((with_reducible refine (hdt.out _).mono ?_); rintro e wq1 ⟨rfl, hbq1⟩; have hq1 := hSt.out _ _ (And.left ‹Below w2.heap.size wr _ ∧ _›) hbq1; have hk1 := Lib.hid (hbq1))) | (refine step_append_M rfl _ _ 22 9 rfl w2.heap.size 5 i0 Tryz.underlying22 Tryz.underlying9 hi hz0 hz1 hz2 u3 (layUp wd xs k) rfl (by first | exact (hM.out.kept (below_drewN (Below.refl _ _) 1)) | exact hM.out.kept (bthen (below_drewN (Below.refl wr.heap.size wr) 1) (bthen hk0.out hk1.out)) | exact hM.out.kept (bthen (below_drewN (Below.refl wr.heap.size wr) 1) (bthen hk1.out hk0.out))) X (by first | rfl | (rw [hX'.out]; rfl)) hm1.out hm2.out (Nat.le_trans hwr.out (And.left ‹Below w2.heap.size wr _ ∧ _›).size) ?_; intro v5 w5 hown5 hg5; have hq5 : Below w2.heap.size wr w5 := (And.left ‹Below w2.heap.size wr _ ∧ _›).grown hg5 (Nat.le_trans hwr.out (And.left ‹Below w2.heap.size wr _ ∧ _›).size) (fun k hk => (hM.out.lt k hk).1); rw [hXl.out] at hown5; have ho5 := Lib.hid hown5; clear hown5 hg5)) | fail)
        all_goals
          go_wp2_with fail
          go_roundw
          case rel => exact ⟨k + 1, by omega, by go_num, ho5, Lib.hid (hbl.out.trans hq5)⟩
          case measure => simp [intOf]; omega
    · obtain rfl : k = xs.length := by omega
      obtain ⟨g, cap, rfl, hc⟩ := hM.out.cell
      have hback := run_convert_bytes_back (P := Tryz.prog) wr 22 9 5 ⟨g, 0, none⟩ cap (layUp wd xs xs.length) Tryz.underlying22 Tryz.underlying5 Tryz.underlying9 hc
      clear hc
      go_wp2_with fail
      go_ret
      exact ⟨rfl, hBr.out⟩
end Go.Proofs.YtmpfnkheohlmiaaGreatDoor
