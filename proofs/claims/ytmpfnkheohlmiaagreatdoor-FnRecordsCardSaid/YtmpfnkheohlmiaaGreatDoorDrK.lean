/- The walk of the function that spoils a text: what it gives is no longer by more than two letters; nothing but the source is written. -/
import Derived.Test.YtmpfnkheohlmiaaGreatDoorQZ
namespace Go.Proofs.YtmpfnkheohlmiaaGreatDoor
open Go.RowKit
set_option maxRecDepth 100000
set_option linter.unusedVariables false
set_option linter.unusedSimpArgs false
set_option linter.unnecessarySimpa false

theorem RS7_new (w : World) (s0 s1 s2 s3 s4 s5 s6 : ByteArray) (t : Nat) : RS (w.alloc (.cells #[.string s0, .string s1, .string s2, .string s3, .string s4, .string s5, .string s6] t)) (some ⟨w.heap.size, 0, none⟩) [s0, s1, s2, s3, s4, s5, s6] := row_block (heap_alloc_new _ _)
theorem texts7 {t : ByteArray} (h : t ∈ ([⟨#[32]⟩, ⟨#[48]⟩, ⟨#[45]⟩, ⟨#[120]⟩, ⟨#[49]⟩, ⟨#[57]⟩, ⟨#[46]⟩] : List ByteArray)) : t.size = 1 := by
  simp only [List.mem_cons, List.not_mem_nil, or_false] at h
  rcases h with rfl | rfl | rfl | rfl | rfl | rfl | rfl <;> rfl
set_option maxHeartbeats 4000000 in
theorem spec_l01Spoil (B : Nat) (a : Option Addr) (c : Nat) (l : List UInt8) (k0 : Nat) (t : ByteArray) (w : World) (h : SrcIs w B a c l k0) (hk0 : k0 ≤ 134217728) (hl : l.length ≤ 1073741824) (ht : t.size ≤ 8192) :
    Calls Tryz.prog 51 #[.pointer (some ⟨B, 0, none⟩), .string t] w fun e w' => ∃ s : ByteArray, e = .returned (.string s) ∧ s.size ≤ 8200 ∧ SrcIs w' B a c l (k0 + 8) ∧ Within B (B + 1) w w' := by
  have hT := Lib.hid (St.start h)
  have hz := hT.out.size
  clear h
  go_enter Tryz.func51, Tryz.ntmps51
  go_wp2_with fail
  refine (spec_pick B a c l _ (5) w hT.out.src (by omega) hl (by omega) (by omega)).mono ?_
  rintro e v1 ⟨u, rfl, ⟨u0, u1, u2⟩, hs, hw⟩
  have hmv1 := hw.size
  replace hT := Lib.hid (hT.out.step hs hw)
  have hzv1 := hT.out.size
  clear hs hw
  replace u1 := u1 (by omega)
  clear u2
  by_cases q0 : u = 0
  · subst q0
    go_wp2_with fail
    have hc1 : ((t.size : Int) + 1) = ((t.size + 1 : Nat) : Int) := by omega
    refine (spec_pick B a c l _ ((t.size : Int) + 1) v1 hT.out.src (by omega) hl (by omega) (by omega)).mono ?_
    rintro e v2 ⟨q_, rfl, ⟨r0, r1, _⟩, hs, hw⟩
    have hmv2 := hw.size
    replace hT := Lib.hid (hT.out.step hs hw)
    have hzv2 := hT.out.size
    clear hs hw
    replace r1 := r1 (by omega)
    obtain ⟨q, rfl⟩ := Int.eq_ofNat_of_zero_le r0
    have hq : q ≤ t.size := by omega
    have hq1 : (q : Int) ≤ (t.size : Int) := by omega
    have hq0 : (0 : Int) ≤ (q : Int) := by omega
    clear r0 r1 hc1
    go_wp2_with fail
    first | go_region_held3 (fun V => Within B (B + 1) v2 V) (first | assumption | exact Within.of_below (below_drewN (Below.refl _ _) 1) | (rename Within B (B + 1) v2 _ => hH; refine hH.trans ?_; assumption) | (rename Within B (B + 1) v2 _ => hH; exact hH.trans (Within.of_below (below_alloc _)))) (first | (go_at_call 68; ((with_reducible refine (spec_srcTextN B a c l _ _ 0 7 7 [⟨#[32]⟩, ⟨#[48]⟩, ⟨#[45]⟩, ⟨#[120]⟩, ⟨#[49]⟩, ⟨#[57]⟩, ⟨#[46]⟩] _ (hT.out.src.kept (bthen (below_alloc _) (Below.refl _ _).drew)) (by omega) hl ((RS7_new _ _ _ _ _ _ _ _ _).kept (Below.refl _ _).drew) rfl (by omega) (by omega) (by omega)).mono ?_); rintro e wq0 ⟨s7, rfl, hsm, hsq0, hwq0⟩; have hw9 := (Within.of_below (lo := B) (hi := B + 1) (bthen (below_alloc (w := v2) (.cells #[.string ⟨#[32]⟩, .string ⟨#[48]⟩, .string ⟨#[45]⟩, .string ⟨#[120]⟩, .string ⟨#[49]⟩, .string ⟨#[57]⟩, .string ⟨#[46]⟩] 9)) (Below.refl _ _).drew)).trans hwq0; have hs7 := texts7 hsm; have hx1 : t.extract 0 q = t.extract 0 q := rfl; have hz1 : (t.extract 0 q).size = q := (by rw [ByteArray.size_extract]; omega); have hz2 : (t.extract q t.size).size = t.size - q := (by rw [ByteArray.size_extract]; omega); have hg1 : ¬ 9223372036854775807 < q + 1 := (by omega); have hg2 : ¬ 9223372036854775807 < q + 1 + (t.size - q) := (by omega); have hg3 : ¬ 9223372036854775807 < min q t.size + 1 := (by omega); have hg4 : ¬ 9223372036854775807 < min q t.size + 1 + (t.size - q) := (by omega); have hg5 : ¬ 9223372036854775807 < min q t.size + 1 + (min t.size t.size - q) := (by omega); clear hx1)) | (go_at_call 68; ((with_reducible refine (spec_srcTextN B a c l _ _ 0 7 7 [⟨#[32]⟩, ⟨#[48]⟩, ⟨#[45]⟩, ⟨#[120]⟩, ⟨#[49]⟩, ⟨#[57]⟩, ⟨#[46]⟩] _ (hT.out.src.kept (bthen (Below.refl _ _).drew (below_alloc _))) (by omega) hl (RS7_new _ _ _ _ _ _ _ _ _) rfl (by omega) (by omega) (by omega)).mono ?_); rintro e wq0 ⟨s7, rfl, hsm, hsq0, hwq0⟩; have hw9 := (Within.of_below (lo := B) (hi := B + 1) (bthen (Below.refl v2.heap.size v2).drew (below_alloc (.cells #[.string ⟨#[32]⟩, .string ⟨#[48]⟩, .string ⟨#[45]⟩, .string ⟨#[120]⟩, .string ⟨#[49]⟩, .string ⟨#[57]⟩, .string ⟨#[46]⟩] 9)))).trans hwq0; have hs7 := texts7 hsm; have hx1 : t.extract 0 q = t.extract 0 q := rfl; have hz1 : (t.extract 0 q).size = q := (by rw [ByteArray.size_extract]; omega); have hz2 : (t.extract q t.size).size = t.size - q := (by rw [ByteArray.size_extract]; omega); have hg1 : ¬ 9223372036854775807 < q + 1 := (by omega); have hg2 : ¬ 9223372036854775807 < q + 1 + (t.size - q) := (by omega); have hg3 : ¬ 9223372036854775807 < min q t.size + 1 := (by omega); have hg4 : ¬ 9223372036854775807 < min q t.size + 1 + (t.size - q) := (by omega); have hg5 : ¬ 9223372036854775807 < min q t.size + 1 + (min t.size t.size - q) := (by omega); clear hx1))) | fail
    all_goals replace hT := Lib.hid (hT.out.step hsq0 hw9)
    all_goals clear hsm hsq0 hwq0 hw9
    all_goals go_wp2_with fail
    all_goals go_ret
    all_goals exact ⟨_, rfl, by simp only [ByteArray.size_append, ByteArray.size_extract]; omega, (hT.out.src).more (by omega), hT.out.win⟩
  · have e0 : (u == 0) = false := by simp [q0]
    by_cases q1 : u = 1
    · subst q1
      by_cases hz0 : t.size = 0
      · obtain ⟨e1, e2⟩ := empty_text hz0
        go_wp2_with fail
        go_ret
        exact ⟨_, rfl, by omega, (hT.out.src).more (by omega), hT.out.win⟩
      · obtain ⟨e1, e2⟩ := full_text hz0
        go_wp2_with fail
        refine (spec_pick B a c l _ (t.size : Int) v1 hT.out.src (by omega) hl (by omega) (by omega)).mono ?_
        rintro e v2 ⟨q_, rfl, ⟨r0, r1, _⟩, hs, hw⟩
        have hmv2 := hw.size
        replace hT := Lib.hid (hT.out.step hs hw)
        have hzv2 := hT.out.size
        clear hs hw
        replace r1 := r1 (by omega)
        obtain ⟨q, rfl⟩ := Int.eq_ofNat_of_zero_le r0
        have hq : q < t.size := by omega
        have hq1 : (q : Int) ≤ (t.size : Int) := by omega
        have hq2 : (q : Int) + 1 ≤ (t.size : Int) := by omega
        have hq0 : (0 : Int) ≤ (q : Int) := by omega
        have hq3 : (0 : Int) ≤ (q : Int) + 1 := by omega
        have hwr := (IntWalk.i64_in ((q : Int) + 1) (by omega) : IntKind.i64.wrap ((q : Int) + 1) = (q : Int) + 1)
        clear r0 r1
        go_wp2_with fail
        first | go_quiet (fail) | fail
        have hT_ := fun n => hT.out.kept (below_drewN (Below.refl _ _) n)
        clear hT
        have hT := Lib.hid hT_
        clear hT_
        go_wp2_with fail
        go_ret
        exact ⟨_, rfl, by simp only [ByteArray.size_append, ByteArray.size_extract]; omega, ((hT.out _).src).more (by omega), (hT.out _).win⟩
    · have e1 : (u == 1) = false := by simp [q1]
      go_wp2_with fail
      go_ret
      exact ⟨_, rfl, by omega, (hT.out.src).more (by omega), hT.out.win⟩
end Go.Proofs.YtmpfnkheohlmiaaGreatDoor
