/- The walks of the functions that cut texts at a byte and take their words. -/
import Derived.Test.YtcbjfgjlhjjpiaaDoorSplitL
import Derived.Test.YtcbjfgjlhjjpiaaDoorTexts
import Derived.Test.YtcbjfgjlhjjpiaaDoorApp
import Derived.Test.YtcbjfgjlhjjpiaaDoorShelf
import Derived.Laws.AppendOwn
import Derived.Maps.AppendAt
import Derived.Test.YtcbjfgjlhjjpiaaDoorOPush
namespace Go.Proofs.YtcbjfgjlhjjpiaaDoor
open Go.RowKit
set_option maxRecDepth 100000
set_option linter.unusedVariables false
set_option linter.unusedSimpArgs false
set_option linter.unnecessarySimpa false

set_option maxHeartbeats 4000000 in
theorem spec_l01Split (s : ByteArray) (u : UInt8) (w : World) (hs : s.size ≤ 1048576) :
    Calls Tryd.prog 53 #[.string s, .int .u8 u.toNat] w fun e w' => ∃ a' c', e = .returned (.slice a' (cutB u s).length c') ∧ w'.ownsRow w.heap.size 9 1 (.slice a' (cutB u s).length c') (cutB u s).length ((cutB u s).map Value.string) ∧ Below w.heap.size w w' := by
  obtain ⟨i0, hi, hz0, hz1, hz2⟩ := info_parts Tryd.info_string
  have hba := Lib.hid (below_alloc (w := w) (.cells #[] 9))
  have hown0 := Lib.hid (World.ownsRow_lit (base := w.heap.size) (e := 9) (size := 1) w #[] 0 (Nat.le_refl _) (by simp [maxLen]) rfl)
  go_enter Tryd.func53, Tryd.ntmps53
  go_wp2_with fail
  go_loopw [5, 6, 7] (fun v fr i wr => ∃ (k f m : Nat) (ps : List ByteArray) (a' : Option Addr) (c' : Nat), k ≤ s.size ∧ f ≤ k ∧ m ≤ k ∧ i = .int .i64 k ∧ fr = .int .i64 f ∧ v = .slice a' m c' ∧ Hid (ps.length = m) ∧ Hid (CutAt u s k f ps) ∧ OV w.heap.size wr.heap.size wr 9 1 a' m c' (ps.map Value.string) ∧ Below w.heap.size w wr) (fun _ _ i _ => s.size - (intOf i).toNat)
  case atStart => exact ⟨0, 0, 0, [], _, _, by omega, by omega, by omega, rfl, rfl, rfl, Lib.hid rfl, Lib.hid (CutAt.start u s), OV.of hown0.out, hba.out⟩
  case round =>
    obtain ⟨k, f, m, ps, a3, c3, hk, hf, hmk, rfl, rfl, rfl, hpm, hcut, hown, hB⟩ := hrel
    have hszr := hB.size
    replace hB := Lib.hid hB
    replace hown := Lib.hid hown
    have hm63 := Lib.hid (show m + 1 ≤ maxLen by unfold maxLen; omega)
    have hown0 := Lib.hid hown.out.1
    by_cases hlt : k < s.size
    · have hlt' : (k : Int) < (s.size : Int) := by omega
      have hf' : (f : Int) ≤ (k : Int) := by omega
      by_cases hc : s[k] = u
      · have hcu : ((s[k].toNat : Int) == (u.toNat : Int)) = true := by rw [hc]; simp
        have hcu2 : s[k].toNat = u.toNat := by rw [hc]
        have hnx := Lib.hid (hcut.out.hit hlt hc)
        have hle := Lib.hid (show (ps ++ [s.extract f k]).length = m + 1 by rw [List.length_append, hpm.out]; rfl)
        clear hc
        go_wp2_with (at_builtin; refine wpList_append_own _ rfl _ _ 56 rfl w.heap.size 9 i0 (.string ⟨#[]⟩) 1 16 Tryd.underlying56 hi hz0 hz1 hz2 rfl (by decide) _ m (ps.map Value.string) rfl (hown0.out.alloc _) ⟨_, 0, none⟩ 1 1 [.string (s.extract f k)] rfl rfl (news_one _ _ _) (one_one rfl) hm63.out (by omega) (by simp only [World.size_alloc]; omega) ?_; intro v5 w5 hown5 hg5 _; have hb5 := Lib.hid ((hB.out.alloc hszr _).grown hg5 (by simp only [World.size_alloc]; omega) (fun k hk => (hown0.out.lt k hk).1)); obtain ⟨a5, c5, hv5, _, _⟩ := own_slice hown5; subst hv5; have hown5' := Lib.hid hown5; clear hown5 hg5)
        go_roundw
        case rel => exact ⟨k + 1, k + 1, m + 1, ps ++ [s.extract f k], a5, c5, by omega, by omega, by omega, by go_num, by go_num, rfl, hle, hnx, by rw [List.map_append]; exact OV.of hown5'.out, hb5.out⟩
        case measure => simp [intOf]; omega
      · have hcn : ¬ s[k].toNat = u.toNat := fun e => hc (UInt8.toNat_inj.1 e)
        have hcu : ((s[k].toNat : Int) == (u.toNat : Int)) = false := by simp; omega
        have hnx := Lib.hid (hcut.out.miss hlt hc)
        clear hc
        go_wp2_with fail
        go_roundw
        case rel => exact ⟨k + 1, f, m, ps, a3, c3, by omega, by omega, by omega, by go_num, rfl, rfl, hpm, hnx, hown.out, hB.out⟩
        case measure => simp [intOf]; omega
    · obtain rfl : k = s.size := by omega
      have hdn := Lib.hid (hcut.out.done rfl)
      have hf' : (f : Int) ≤ (s.size : Int) := by omega
      have hle := Lib.hid (show (cutB u s).length = m + 1 by rw [hdn.out, List.length_append, hpm.out]; rfl)
      go_wp2_with (at_builtin; refine wpList_append_own _ rfl _ _ 56 rfl w.heap.size 9 i0 (.string ⟨#[]⟩) 1 16 Tryd.underlying56 hi hz0 hz1 hz2 rfl (by decide) _ m (ps.map Value.string) rfl (hown0.out.alloc _) ⟨_, 0, none⟩ 1 1 [.string (s.extract f s.size)] rfl rfl (news_one _ _ _) (one_one rfl) hm63.out (by omega) (by simp only [World.size_alloc]; omega) ?_; intro v5 w5 hown5 hg5 _; have hb5 := Lib.hid ((hB.out.alloc hszr _).grown hg5 (by simp only [World.size_alloc]; omega) (fun k hk => (hown0.out.lt k hk).1)); obtain ⟨a5, c5, hv5, _, _⟩ := own_slice hown5; subst hv5; have hown5' := Lib.hid hown5; clear hown5 hg5)
      go_ret
      refine ⟨a5, c5, by rw [hle.out]; rfl, ?_, hb5.out⟩
      rw [hle.out, hdn.out, List.map_append]
      exact hown5'.out
theorem maxLen_of {w : World} (h : w.ShapedOpen Tryd.prog) : ∃ m, w.cell? ⟨3, 0, none⟩ = some (.int .i64 m) := Tryd.laysM146.s1_3 w h
theorem cell_kept {w w' : World} {p : Addr} (h : ∃ m, w.cell? p = some (.int .i64 m)) (hb : Below w.heap.size w w') : ∃ m, w'.cell? p = some (.int .i64 m) := by
  obtain ⟨m, h⟩ := h
  exact ⟨m, keep hb h⟩
theorem RS_lt {w : World} {B k : Nat} {L : List ByteArray} {t : ByteArray} (h : RS w (some ⟨B, 0, none⟩) L) (hk : L[k]? = some t) : B < w.heap.size := by
  obtain ⟨b, o, e, hc⟩ := h.at hk
  simp only [Option.some.injEq, Addr.mk.injEq] at e
  obtain ⟨rfl, _⟩ := e
  exact World.block_lt_of_cell? w _ hc
end Go.Proofs.YtcbjfgjlhjjpiaaDoor
