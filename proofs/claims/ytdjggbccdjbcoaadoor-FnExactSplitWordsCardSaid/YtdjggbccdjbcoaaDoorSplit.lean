/- The walks of the functions that cut texts at a byte and take their words. -/
import Derived.Test.YtdjggbccdjbcoaaDoorSplitL
import Derived.Test.YtdjggbccdjbcoaaDoorTexts
import Derived.Test.YtdjggbccdjbcoaaDoorApp
import Derived.Test.YtdjggbccdjbcoaaDoorShelf
import Derived.Laws.AppendOwn
import Derived.Maps.AppendAt
import Derived.Test.YtdjggbccdjbcoaaDoorOPush
namespace Go.Proofs.YtdjggbccdjbcoaaDoor
open Go.RowKit
set_option maxRecDepth 100000
set_option linter.unusedVariables false
set_option linter.unusedSimpArgs false
set_option linter.unnecessarySimpa false

set_option maxHeartbeats 4000000 in
theorem spec_l01Split (s : ByteArray) (u : UInt8) (w : World) (hs : s.size ≤ 1048576) :
    Calls Tryd.prog 17 #[.string s, .int .u8 u.toNat] w fun e w' => ∃ a' c', e = .returned (.slice a' (cutB u s).length c') ∧ w'.ownsRow w.heap.size 9 1 (.slice a' (cutB u s).length c') (cutB u s).length ((cutB u s).map Value.string) ∧ Below w.heap.size w w' := by
  obtain ⟨i0, hi, hz0, hz1, hz2⟩ := info_parts Tryd.info_string
  have hba := Lib.hid (below_alloc (w := w) (.cells #[] 9))
  have hown0 := Lib.hid (World.ownsRow_lit (base := w.heap.size) (e := 9) (size := 1) w #[] 0 (Nat.le_refl _) (by simp [maxLen]) rfl)
  go_enter Tryd.func17, Tryd.ntmps17
  go_wp2_with fail
  go_loopw [5, 6, 7] (fun v fr i wr => ∃ (k f m : Nat) (ps : List ByteArray) (a' : Option Addr) (c' : Nat), k ≤ s.size ∧ f ≤ k ∧ m ≤ k ∧ i = .int .i64 k ∧ fr = .int .i64 f ∧ v = .slice a' m c' ∧ Hid (ps.length = m) ∧ Hid (CutAt u s k f ps) ∧ OV w.heap.size wr.heap.size wr 9 1 a' m c' (ps.map Value.string) ∧ Below w.heap.size w wr) (fun _ _ i _ => s.size - (intOf i).toNat)
  case atStart => exact ⟨0, 0, 0, [], _, _, by omega, by omega, by omega, rfl, rfl, rfl, Lib.hid rfl, Lib.hid (CutAt.start u s), OV.of hown0.out, hba.out⟩
  case round =>
    obtain ⟨k, f, m, ps, a3, c3, hk, hf, hmk, rfl, rfl, rfl, hpm, hcut, hown, hB⟩ := hrel
    have hszr := hB.size
    replace hB := Lib.hid hB
    replace hown := Lib.hid hown
    have hm63 := Lib.hid (show m + 1 ≤ maxLen by unfold maxLen; omega)
    have hown0 := Lib.hid hown.out.1
    by_cases hlt : k < s.size
    · have hlt' : (k : Int) < (s.size : Int) := by omega
      have hf' : (f : Int) ≤ (k : Int) := by omega
      by_cases hc : s[k] = u
      · have hcu : ((s[k].toNat : Int) == (u.toNat : Int)) = true := by rw [hc]; simp
        have hcu2 : s[k].toNat = u.toNat := by rw [hc]
        have hnx := Lib.hid (hcut.out.hit hlt hc)
        have hle := Lib.hid (show (ps ++ [s.extract f k]).length = m + 1 by rw [List.length_append, hpm.out]; rfl)
        clear hc
        go_wp2_with (at_builtin; refine wpList_append_own _ rfl _ _ 24 rfl w.heap.size 9 i0 (.string ⟨#[]⟩) 1 16 Tryd.underlying24 hi hz0 hz1 hz2 rfl (by decide) _ m (ps.map Value.string) rfl (hown0.out.alloc _) ⟨_, 0, none⟩ 1 1 [.string (s.extract f k)] rfl rfl (news_one _ _ _) (one_one rfl) hm63.out (by omega) (by simp only [World.size_alloc]; omega) ?_; intro v5 w5 hown5 hg5 _; have hb5 := Lib.hid ((hB.out.alloc hszr _).grown hg5 (by simp only [World.size_alloc]; omega) (fun k hk => (hown0.out.lt k hk).1)); obtain ⟨a5, c5, hv5, _, _⟩ := own_slice hown5; subst hv5; have hown5' := Lib.hid hown5; clear hown5 hg5)
        go_roundw
        case rel => exact ⟨k + 1, k + 1, m + 1, ps ++ [s.extract f k], a5, c5, by omega, by omega, by omega, by go_num, by go_num, rfl, hle, hnx, by rw [List.map_append]; exact OV.of hown5'.out, hb5.out⟩
        case measure => simp [intOf]; omega
      · have hcn : ¬ s[k].toNat = u.toNat := fun e => hc (UInt8.toNat_inj.1 e)
        have hcu : ((s[k].toNat : Int) == (u.toNat : Int)) = false := by simp; omega
        have hnx := Lib.hid (hcut.out.miss hlt hc)
        clear hc
        go_wp2_with fail
        go_roundw
        case rel => exact ⟨k + 1, f, m, ps, a3, c3, by omega, by omega, by omega, by go_num, rfl, rfl, hpm, hnx, hown.out, hB.out⟩
        case measure => simp [intOf]; omega
    · obtain rfl : k = s.size := by omega
      have hdn := Lib.hid (hcut.out.done rfl)
      have hf' : (f : Int) ≤ (s.size : Int) := by omega
      have hle := Lib.hid (show (cutB u s).length = m + 1 by rw [hdn.out, List.length_append, hpm.out]; rfl)
      go_wp2_with (at_builtin; refine wpList_append_own _ rfl _ _ 24 rfl w.heap.size 9 i0 (.string ⟨#[]⟩) 1 16 Tryd.underlying24 hi hz0 hz1 hz2 rfl (by decide) _ m (ps.map Value.string) rfl (hown0.out.alloc _) ⟨_, 0, none⟩ 1 1 [.string (s.extract f s.size)] rfl rfl (news_one _ _ _) (one_one rfl) hm63.out (by omega) (by simp only [World.size_alloc]; omega) ?_; intro v5 w5 hown5 hg5 _; have hb5 := Lib.hid ((hB.out.alloc hszr _).grown hg5 (by simp only [World.size_alloc]; omega) (fun k hk => (hown0.out.lt k hk).1)); obtain ⟨a5, c5, hv5, _, _⟩ := own_slice hown5; subst hv5; have hown5' := Lib.hid hown5; clear hown5 hg5)
      go_ret
      refine ⟨a5, c5, by rw [hle.out]; rfl, ?_, hb5.out⟩
      rw [hle.out, hdn.out, List.map_append]
      exact hown5'.out
theorem maxLen_of {w : World} (h : w.ShapedOpen Tryd.prog) : ∃ m, w.cell? ⟨2, 0, none⟩ = some (.int .i64 m) := Tryd.laysM146.s1_3 w h
theorem cell_kept {w w' : World} {p : Addr} (h : ∃ m, w.cell? p = some (.int .i64 m)) (hb : Below w.heap.size w w') : ∃ m, w'.cell? p = some (.int .i64 m) := by
  obtain ⟨m, h⟩ := h
  exact ⟨m, keep hb h⟩
theorem RS_lt {w : World} {B k : Nat} {L : List ByteArray} {t : ByteArray} (h : RS w (some ⟨B, 0, none⟩) L) (hk : L[k]? = some t) : B < w.heap.size := by
  obtain ⟨b, o, e, hc⟩ := h.at hk
  simp only [Option.some.injEq, Addr.mk.injEq] at e
  obtain ⟨rfl, _⟩ := e
  exact World.block_lt_of_cell? w _ hc
set_option maxHeartbeats 4000000 in
theorem spec_SplitWords (s : ByteArray) (w : World) (hs : s.size ≤ 1048576) :
    Calls Tryd.prog 8 #[.string s] w fun e w' => ∃ a' c', e = .returned (.slice a' (wordsL s).length c') ∧ w'.ownsRow w.heap.size 9 1 (.slice a' (wordsL s).length c') (wordsL s).length ((wordsL s).map Value.string) ∧ Below w.heap.size w w' := by
  obtain ⟨i0, hi, hz0, hz1, hz2⟩ := info_parts Tryd.info_string
  go_enter Tryd.func8, Tryd.ntmps8
  go_wp2_with fail
  refine (spec_l01Split s 32 w hs).mono ?_
  rintro e w1 ⟨a1, c1, rfl, ho1, hb1⟩
  have hrs := Lib.hid (show RS w1 a1 (cutB 32 s) from OV.row (OV.of ho1))
  have hlb := cutB_le 32 s
  have hwd := Lib.hid (show wordsL s = (cutB 32 s).filter fun t => !(t.size == 0) from rfl)
  have hb1' := Lib.hid hb1
  have hsz1 := hb1.size
  generalize cutB 32 s = L at *
  generalize hL : L.length = n at *
  have hL' := Lib.hid hL
  have hown00 := Lib.hid (World.ownsRow_lit (base := w1.heap.size) (e := 9) (size := 1) w1 #[] 0 (Nat.le_refl _) (by simp [maxLen]) rfl)
  have hba := Lib.hid (below_alloc (w := w1) (.cells #[] 9))
  clear hL ho1 hb1
  go_wp2_with fail
  go_loopw [4, 5] (fun v i wr => ∃ (k m : Nat) (a' : Option Addr) (c' : Nat), k ≤ n ∧ m ≤ k ∧ i = .int .i64 k ∧ v = .slice a' m c' ∧ Hid (((L.take k).filter fun t => !(t.size == 0)).length = m) ∧ OV w1.heap.size wr.heap.size wr 9 1 a' m c' (((L.take k).filter fun t => !(t.size == 0)).map Value.string) ∧ Below w1.heap.size w1 wr) (fun _ i _ => n - (intOf i).toNat)
  case atStart => exact ⟨0, 0, _, _, by omega, by omega, rfl, rfl, Lib.hid rfl, OV.of hown00.out, hba.out⟩
  case round =>
    obtain ⟨k, m, a3, c3, hk, hmk, rfl, rfl, hlen, hown, hB⟩ := hrel
    have hszr := hB.size
    replace hB := Lib.hid hB
    replace hown := Lib.hid hown
    have hsrc := Lib.hid (hrs.out.kept hB.out)
    have hm63 := Lib.hid (show m + 1 ≤ maxLen by unfold maxLen; omega)
    have hown0 := Lib.hid hown.out.1
    by_cases hlt : k < n
    · have hlt' : (k : Int) < (n : Int) := by omega
      obtain ⟨t, htk⟩ := get_some (l := L) (k := k) (by rw [hL'.out]; exact hlt)
      obtain ⟨b1, o1, hab, hc1⟩ := hsrc.out.at htk
      have htk0 := Lib.hid htk
      subst hab
      by_cases hz : t.size = 0
      · have hno := Lib.hid (filter_no (p := fun t : ByteArray => !(t.size == 0)) htk (by simp [hz]))
        obtain ⟨he1, he2⟩ := empty_text hz
        clear htk hz
        go_wp2_with fail
        go_roundw
        case rel => exact ⟨k + 1, m, a3, c3, by omega, by omega, by go_num, rfl, by rw [hno.out]; exact hlen, by rw [hno.out]; exact hown.out, hB.out⟩
        case measure => simp [intOf]; omega
      · have hye := Lib.hid (filter_yes (p := fun t : ByteArray => !(t.size == 0)) htk (by simp [hz]))
        obtain ⟨he1, he2⟩ := full_text hz
        clear htk hz
        go_wp2_with (at_builtin; refine wpList_append_own _ rfl _ _ 24 rfl w1.heap.size 9 i0 (.string ⟨#[]⟩) 1 16 Tryd.underlying24 hi hz0 hz1 hz2 rfl (by decide) _ m (((L.take k).filter fun t => !(t.size == 0)).map Value.string) rfl (hown0.out.alloc _) ⟨_, 0, none⟩ 1 1 [.string t] rfl rfl (news_one _ _ _) (one_one rfl) hm63.out (by omega) (by simp only [World.size_alloc]; omega) ?_; intro v5 w5 hown5 hg5 _ ; have hb5 := Lib.hid ((hB.out.alloc hszr _).grown hg5 (by simp only [World.size_alloc]; omega) (fun k hk => (hown0.out.lt k hk).1)); obtain ⟨a5, c5, hv5, _, _⟩ := own_slice hown5; subst hv5; have hown5' := Lib.hid hown5; clear hown5 hg5)
        go_roundw
        case rel => exact ⟨k + 1, m + 1, a5, c5, by omega, by omega, by go_num, rfl, by rw [hye.out, List.length_append]; exact Lib.hid (by rw [hlen.out]; rfl), by rw [hye.out, List.map_append]; exact OV.of hown5'.out, hb5.out⟩
        case measure => simp [intOf]; omega
    · have hfa := Lib.hid (filter_all (p := fun t : ByteArray => !(t.size == 0)) (show L.length ≤ k by rw [hL'.out]; omega))
      go_wp2_with fail
      go_ret
      have h9 := hown.out.1
      have hw9 := hlen.out
      rw [hfa.out] at h9 hw9
      have hwl := hwd.out
      rw [hwl, hw9]
      exact ⟨a3, c3, rfl, own_mono h9 hsz1, bthen hb1'.out hB.out⟩
set_option maxHeartbeats 4000000 in
theorem impl_SplitWords (s : ByteArray) (w : World) (hs : s.size ≤ 1048576) (hM : ∃ m, w.cell? ⟨2, 0, none⟩ = some (.int .i64 m)) :
    Calls Tryd.prog 9 #[.string s] w fun e w' => ∃ a' c', e = .returned (.slice a' (wordsL s).length c') ∧ w'.ownsRow w.heap.size 9 1 (.slice a' (wordsL s).length c') (wordsL s).length ((wordsL s).map Value.string) ∧ Below w.heap.size w w' := by
  obtain ⟨i0, hi, hz0, hz1, hz2⟩ := info_parts Tryd.info_string
  obtain ⟨mx, hmx⟩ := hM
  have hba := Lib.hid (below_alloc (w := w) (.cells #[] 9))
  have hsp := Lib.hid (by
    have h := Tryd.strings_Split s ⟨#[32]⟩ mx (w.alloc (.cells #[] 9)) (by omega) (keep hba.out hmx) (one_size 32)
    rw [splitB_cut, ← cutB_len] at h
    exact h)
  have hlb := cutB_le 32 s
  have hwd := Lib.hid (show wordsL s = (cutB 32 s).filter fun t => !(t.size == 0) from rfl)
  have hrs := Lib.hid (show RS ((w.alloc (.cells #[] 9)).alloc (.cells ((cutB 32 s).map Value.string).toArray 9)) (some ⟨w.heap.size + 1, 0, none⟩) (cutB 32 s) by
    have h := row_block (heap_alloc_new (w.alloc (.cells #[] 9)) (.cells ((cutB 32 s).map Value.string).toArray 9))
    rw [World.size_alloc] at h
    simpa [RS] using h)
  generalize cutB 32 s = L at *
  generalize hL : L.length = n at *
  have hL' := Lib.hid hL
  have hown00 := Lib.hid ((World.ownsRow_lit (base := w.heap.size) (e := 9) (size := 1) w #[] 0 (Nat.le_refl _) (by simp [maxLen]) rfl).alloc (.cells (L.map Value.string).toArray 9))
  have hbb := Lib.hid (bthen hba.out (below_alloc (.cells (L.map Value.string).toArray 9)))
  clear hL hmx
  go_enter Tryd.func9, Tryd.ntmps9
  go_wp2_with fail
  refine hsp.out.mono ?_
  rintro e w1 ⟨rfl, rfl⟩
  simp only [World.size_alloc]
  go_wp2_with fail
  go_loopw [3, 10] (fun v i wr => ∃ (k m : Nat) (a' : Option Addr) (c' : Nat), k ≤ n ∧ m ≤ k ∧ i = .int .i64 k ∧ v = .slice a' m c' ∧ Hid (((L.take k).filter fun t => !(t.size == 0)).length = m) ∧ OV w.heap.size wr.heap.size wr 9 1 a' m c' (((L.take k).filter fun t => !(t.size == 0)).map Value.string) ∧ Below w.heap.size w wr ∧ RS wr (some ⟨w.heap.size + 1, 0, none⟩) L ∧ (∀ q, a' = some q → ¬ q.block = w.heap.size + 1)) (fun _ i _ => n - (intOf i).toNat)
  case atStart => exact ⟨0, 0, _, _, by omega, by omega, rfl, rfl, Lib.hid rfl, OV.of hown00.out, hbb.out, hrs.out, fun q hq => by (cases hq; simp)⟩
  case round =>
    obtain ⟨k, m, a3, c3, hk, hmk, rfl, rfl, hlen, hown, hB, hsrc, hne⟩ := hrel
    have hszr := hB.size
    replace hB := Lib.hid hB
    replace hown := Lib.hid hown
    replace hsrc := Lib.hid hsrc
    replace hne := Lib.hid hne
    have hm63 := Lib.hid (show m + 1 ≤ maxLen by unfold maxLen; omega)
    have hown0 := Lib.hid hown.out.1
    by_cases hlt : k < n
    · have hlt' : (k : Int) < (n : Int) := by omega
      obtain ⟨t, htk⟩ := get_some (l := L) (k := k) (by rw [hL'.out]; exact hlt)
      obtain ⟨b1, o1, hab, hc1⟩ := hsrc.out.at htk
      have htk0 := Lib.hid htk
      simp only [Option.some.injEq, Addr.mk.injEq, and_true] at hab
      obtain ⟨rfl, rfl⟩ := hab
      rw [Nat.zero_add] at hc1
      by_cases hz : t.size = 0
      · have hno := Lib.hid (filter_no (p := fun t : ByteArray => !(t.size == 0)) htk (by simp [hz]))
        obtain ⟨he1, he2⟩ := empty_text hz
        clear htk hz
        go_wp2_with fail
        go_roundw
        case rel => exact ⟨k + 1, m, a3, c3, by omega, by omega, by go_num, rfl, by rw [hno.out]; exact hlen, by rw [hno.out]; exact hown.out, hB.out, hsrc.out, hne.out⟩
        case measure => simp [intOf]; omega
      · have hye := Lib.hid (filter_yes (p := fun t : ByteArray => !(t.size == 0)) htk (by simp [hz]))
        obtain ⟨he1, he2⟩ := full_text hz
        clear htk hz
        go_wp2_with (at_builtin; refine wpList_append_own_at _ rfl _ _ 24 rfl w.heap.size 9 i0 (.string ⟨#[]⟩) 1 16 Tryd.underlying24 hi hz0 hz1 hz2 rfl (by decide) _ m (((L.take k).filter fun t => !(t.size == 0)).map Value.string) rfl (hown0.out.alloc _) ⟨_, 0, none⟩ 1 1 [.string t] rfl rfl (news_one _ _ _) (one_one rfl) hm63.out (by omega) (by simp only [World.size_alloc]; omega) ?_; intro v5 w5 hown5 hg5 _ hat5; have hb5 := Lib.hid ((hB.out.alloc hszr _).grown hg5 (by simp only [World.size_alloc]; omega) (fun k hk => (hown0.out.lt k hk).1)); obtain ⟨a5, c5, hv5, _, _⟩ := own_slice hown5; subst hv5; have hown5' := Lib.hid hown5; have hsq5 := Lib.hid (show RS w5 (some ⟨w.heap.size + 1, 0, none⟩) L from Row.grown (hsrc.out.kept (below_alloc _)) hg5 (own_ne hne.out)); have hne5 := Lib.hid (ne_moved hat5 hne.out (by have h7 := RS_lt hsrc.out htk0.out; first | omega | (simp only [World.size_alloc]; omega))); clear hown5 hg5 hat5)
        go_roundw
        case rel => exact ⟨k + 1, m + 1, a5, c5, by omega, by omega, by go_num, rfl, by rw [hye.out, List.length_append]; exact Lib.hid (by rw [hlen.out]; rfl), by rw [hye.out, List.map_append]; exact OV.of hown5'.out, hb5.out, hsq5.out, hne5.out⟩
        case measure => simp [intOf]; omega
    · have hfa := Lib.hid (filter_all (p := fun t : ByteArray => !(t.size == 0)) (show L.length ≤ k by rw [hL'.out]; omega))
      go_wp2_with fail
      go_ret
      have h9 := hown.out.1
      have hw9 := hlen.out
      rw [hfa.out] at h9 hw9
      have hwl := hwd.out
      rw [hwl, hw9]
      exact ⟨a3, c3, rfl, h9, hB.out⟩
end Go.Proofs.YtdjggbccdjbcoaaDoor
