/- The walks of the functions that tell free columns: what each returns, and that memory has at most new blocks. An item that is added takes free columns: plain. No program in sight. -/
import Derived.Test.YtcbjfgjlhjjpiaaGreatDoorValid
import Derived.IntWalk
import Derived.Laws.AppendOwn
import Derived.Test.YtcbjfgjlhjjpiaaGreatDoorAdd
namespace Go.Proofs.YtcbjfgjlhjjpiaaGreatDoor
open Go.RowKit
set_option maxRecDepth 100000
set_option linter.unusedVariables false
set_option linter.unusedSimpArgs false
set_option linter.unnecessarySimpa false

def coversB (c : Int) (x : Itm) : Bool := inB c x.fr (x.to - 1)
def freeUp (xs : List Itm) (k : Nat) : List Int := ((List.range k).filter fun (j : Nat) => !(xs.any (coversB (j : Int)))).map Int.ofNat
theorem freeUp_yes {xs : List Itm} {k : Nat} (h : xs.any (coversB (k : Int)) = false) : freeUp xs (k + 1) = freeUp xs k ++ [(k : Int)] := by
  unfold freeUp; rw [List.range_succ, List.filter_append, List.map_append]; simp [h]
theorem freeUp_no {xs : List Itm} {k : Nat} (h : xs.any (coversB (k : Int)) = true) : freeUp xs (k + 1) = freeUp xs k := by
  unfold freeUp; rw [List.range_succ, List.filter_append, List.map_append]; simp [h]
theorem freeUp_len (xs : List Itm) (k : Nat) : (freeUp xs k).length ≤ k := by
  unfold freeUp; rw [List.length_map]
  exact Nat.le_trans (List.length_filter_le _ _) (by simp)
def freeL (wd : Int) (xs : List Itm) : List Int := if validLayB wd xs then freeUp xs wd.toNat else []
def layCode (wd : Int) (xs : List Itm) : Int := if validLayB wd xs then 0 else 1
theorem free_bad {wd : Int} {xs : List Itm} (h : validLayB wd xs = false) : freeL wd xs = [] ∧ layCode wd xs = 1 := by unfold freeL layCode; rw [h]; exact ⟨rfl, rfl⟩
theorem free_ok {n : Nat} {xs : List Itm} (h : validLayB n xs = true) : freeL n xs = freeUp xs n ∧ layCode n xs = 0 := by unfold freeL layCode; rw [h]; exact ⟨rfl, rfl⟩
theorem freeL_len (wd : Int) (xs : List Itm) : (freeL wd xs).length ≤ 1048576 := by
  unfold freeL
  cases h : validLayB wd xs
  · simp
  · have h1 := freeUp_len xs wd.toNat
    have h2 := validLay_is h
    simp only [if_true]; omega
theorem impl_FreeColumns_1 (B : Nat) (k : Int) (y : Itm) (w : World) (h1 : 0 ≤ y.fr) (h2 : y.fr < y.to) (h3 : y.to ≤ 20) (hc0 : w.cell? ⟨B, 0, none⟩ = some (.int .i64 k)) :
    Calls Tryz.prog 89 #[.agg #[.string y.name, .int .i64 y.kind, .int .i64 y.fr, .int .i64 y.to], .pointer (some ⟨B, 0, none⟩)] w fun e w' => e = .returned (.bool (coversB k y)) ∧ Below w.heap.size w w' := by
  obtain ⟨s', k', f', t'⟩ := y
  simp only at h1 h2 h3
  have hl : B < w.heap.size := World.block_lt_of_cell? _ _ hc0
  have hb1 := Lib.hid (below_alloc (w := w) (.cells #[.string s', .int .i64 k', .int .i64 f', .int .i64 t'] 48))
  go_enter Tryz.func89, Tryz.ntmps89
  go_wp2_with (go_at_call 90; ((with_reducible refine (impl_inside _ _ _ _).mono ?_); rintro e w' ⟨rfl, rfl⟩))
  go_ret
  exact ⟨rfl, hb1.out⟩
set_option maxHeartbeats 1000000 in
theorem impl_FreeColumns (wd : Int) (a : Option Addr) (c : Nat) (xs : List Itm) (w : World) (hx : RT w a xs) (hn : itemsSz xs ≤ 1048576) (hcap : xs.length ≤ c) :
    Calls Tryz.prog 23 #[.agg #[.int .i64 wd, .slice a xs.length c]] w fun e w' => ∃ a' c', e = .returned (.tuple #[.slice a' (freeL wd xs).length c', .int .i64 (layCode wd xs)]) ∧ w'.ownsRow w.heap.size 2 1 (.slice a' (freeL wd xs).length c') (freeL wd xs).length ((freeL wd xs).map (Value.int .i64)) ∧ Below w.heap.size w w' := by
  have hb1 := Lib.hid (below_alloc (w := w) (.cells #[.int .i64 wd, .slice a xs.length c] 35))
  obtain ⟨i0, hi, hz0, hz1, hz2⟩ := info_parts Tryz.info_int64
  have eg := Go.Proofs.enters_of Tryz.func89 (by kernel_rfl) rfl
  have hdl := itemsSz_len xs
  cases hv : validLayB wd xs
  · have hf := Lib.hid (free_bad hv)
    go_enter Tryz.func23, Tryz.ntmps23
    go_wp2_with (go_at_call 36; ((with_reducible refine (impl_ValidLayout wd a c xs _ (hx.kept hb1.out) hn hcap).mono ?_); rintro e w' ⟨rfl, hb⟩))
    go_ret2
    exact ⟨none, 0, by rw [hf.out.1, hf.out.2]; rfl, by rw [hf.out.1]; exact World.ownsRow_nil _ _ _ _, bthen hb1.out hb⟩
  · obtain ⟨v1, v2, v3, v4⟩ := validLay_is hv
    obtain ⟨n, rfl⟩ := Int.eq_ofNat_of_zero_le (show 0 ≤ wd by omega)
    have hf := Lib.hid (free_ok hv)
    have hit := Lib.hid (fun (y : Itm) (hy : y ∈ xs) => itemB_field (validLay_item hv hy))
    clear v4
    go_enter Tryz.func23, Tryz.ntmps23
    go_wp2_with fail
    refine (impl_ValidLayout n a c xs _ (hx.kept hb1.out) hn hcap).mono ?_
    rintro e w2 ⟨rfl, hb⟩
    (have hc0 := keep (p := ⟨w.heap.size, 0, none⟩) (v := .int .i64 n) hb (by simp [go_sem, *]); have hf0 := keepf (p := ⟨w.heap.size, 0, none⟩) (v := .int .i64 n) hb (by simp [go_sem, *]) (by simp [go_sem, *]); have hl0 := World.block_lt_of_cell? _ _ hc0; have hc1 := keep (p := ⟨w.heap.size, 1, none⟩) (v := .slice a xs.length c) hb (by simp [go_sem, *]); have hf1 := keepf (p := ⟨w.heap.size, 1, none⟩) (v := .slice a xs.length c) hb (by simp [go_sem, *]) (by simp [go_sem, *]); have hl1 := World.block_lt_of_cell? _ _ hc1)
    have hb2 := Lib.hid (bthen hb1.out hb)
    have hs2 := hb2.out.size
    clear hb
    have hown0 := World.ownsRow_lit (base := w2.heap.size) (e := 2) (size := 1) w2 #[] 0 (Nat.le_refl _) (by simp [maxLen]) rfl
    go_wp2_with fail
    go_loopw [4, 12] (fun v i wr => ∃ (k : Nat) (a' : Option Addr) (c' : Nat), k ≤ n ∧ i = .int .i64 k ∧ v = .slice a' (freeUp xs k).length c' ∧ wr.ownsRow w2.heap.size 2 1 (.slice a' (freeUp xs k).length c') (freeUp xs k).length ((freeUp xs k).map (Value.int .i64)) ∧ Below w2.heap.size w2 wr) (fun _ i _ => n - (intOf i).toNat)
    case atStart => exact ⟨0, _, _, by omega, rfl, rfl, hown0, below_alloc _⟩
    case round =>
      obtain ⟨k, a3, c3, hk, rfl, rfl, hown, hb⟩ := hrel
      have hcr := keep hb hc1
      have hlr : w.heap.size < wr.heap.size := World.block_lt_of_cell? _ _ hcr
      by_cases hlt : k < n
      · have hlt' : (k : Int) < (n : Int) := by omega
        have hba := below_alloc (w := wr) (.cells #[.int .i64 (k : Int)] 2)
        have hcr1 := Lib.hid (keep hba hcr)
        have hcb1 : (wr.alloc (.cells #[.int .i64 (k : Int)] 2)).cell? ⟨wr.heap.size, 0, none⟩ = some (.int .i64 (k : Int)) := by simp [go_sem]
        have hB1 := Lib.hid (bthen hb hba)
        have hne : w.heap.size ≠ wr.heap.size := by omega
        have hc := slices_ContainsFunc_items 89 #[.pointer (some ⟨wr.heap.size, 0, none⟩)] (coversB (k : Int)) a c xs _ (hx.kept (bthen hb2.out hB1.out)) (by unfold maxLen; omega) eg
          (fun y hy W hbW => impl_FreeColumns_1 wr.heap.size (k : Int) y W (hit.out y hy).1 (hit.out y hy).2.1 (by have := (hit.out y hy).2.2; omega) (keep hbW hcb1))
        have hil := freeUp_len xs k
        have hown' := Lib.hid (OV.of hown)
        clear hown
        cases hcv : xs.any (coversB (k : Int))
        · have hs := Lib.hid (freeUp_yes hcv)
          rw [hcv] at hc
          have hc' := Lib.hid hc
          clear hc hcv hba
          go_wp2_with fail
          refine hc'.out.mono ?_
          rintro e w3 ⟨rfl, hb3⟩
          have hbx := keep hb3 hcb1
          have hbw3 := bthen hB1.out hb3
          have hown3 := ((hown'.out.kept (below_alloc _)).kept hb3).1
          have hbw3' := Lib.hid hbw3
          clear hb3
          go_wp2_with (at_builtin; refine wpList_append_own _ rfl _ _ 25 rfl (w2.heap.size) 2 i0 (.int .i64 0) 1 8 Tryz.underlying25 hi hz0 hz1 hz2 rfl (by decide) _ ((freeUp xs k).length) ((freeUp xs k).map (Value.int .i64)) rfl (hown3.alloc _) ⟨_, 0, none⟩ 1 1 [.int .i64 (k : Int)] rfl rfl (news_one _ _ _) (one_one rfl) (by (have hq0 := hil); simp only [maxLen]; omega) (by (have hq0 := hil); omega) (by (have hq0 := hbw3.size); simp only [World.size_alloc]; omega) ?_; intro v1 w1 hown1 hgrow1 _; have hbq := Lib.hid (app_below hbw3 hbw3.size hown3 (by first | exact Nat.le_refl _ | omega) hgrow1); obtain ⟨a1, c1, hv1, _, _⟩ := own_slice hown1; subst hv1; have hownq := Lib.hid hown1; clear hown1 hgrow1)
          go_roundw
          case rel => exact ⟨k + 1, a1, c1, by omega, by go_num, by rw [hs.out, List.length_append]; rfl, by rw [hs.out, List.length_append, List.map_append]; exact hownq.out, hbq.out⟩
          case measure => simp [intOf]; omega
        · have hs := Lib.hid (freeUp_no hcv)
          rw [hcv] at hc
          have hc' := Lib.hid hc
          clear hc hcv hba
          go_wp2_with fail
          refine hc'.out.mono ?_
          rintro e w3 ⟨rfl, hb3⟩
          have hown3 := Lib.hid (((hown'.out.kept (below_alloc _)).kept hb3).1)
          have hbw3' := Lib.hid (bthen hB1.out hb3)
          clear hb3
          go_wp2_with fail
          go_roundw
          case rel => exact ⟨k + 1, a3, c3, by omega, by go_num, by rw [hs.out], by rw [hs.out]; exact hown3.out, hbw3'.out⟩
          case measure => simp [intOf]; omega
      · obtain rfl : k = n := by omega
        go_wp2_with fail
        go_ret2
        exact ⟨a3, c3, by rw [hf.out.1, hf.out.2]; rfl, by rw [hf.out.1]; exact own_mono hown hs2, bthen hb2.out hb⟩
theorem not_any_yes {xs : List Itm} {j : Nat} {x : Itm} {k : Int} (h : xs[j]? = some x) (hp : coversB k x = true) : (!((xs.take (j + 1)).any (coversB k))) = false := by
  rw [any_hit h (Nat.lt_succ_self j) hp]; rfl
theorem not_any_no {xs : List Itm} {j : Nat} {x : Itm} {k : Int} (h : xs[j]? = some x) (hp : coversB k x = false) : (!((xs.take (j + 1)).any (coversB k))) = (!((xs.take j).any (coversB k))) := by
  rw [List.take_add_one, h, List.any_append]; simp [hp]
set_option maxHeartbeats 1000000 in
theorem spec_FreeColumns (wd : Int) (a : Option Addr) (c : Nat) (xs : List Itm) (w : World) (hx : RT w a xs) (hn : itemsSz xs ≤ 1048576) (hcap : xs.length ≤ c) :
    Calls Tryz.prog 24 #[.agg #[.int .i64 wd, .slice a xs.length c]] w fun e w' => ∃ a' c', e = .returned (.tuple #[.slice a' (freeL wd xs).length c', .int .i64 (layCode wd xs)]) ∧ w'.ownsRow w.heap.size 2 1 (.slice a' (freeL wd xs).length c') (freeL wd xs).length ((freeL wd xs).map (Value.int .i64)) ∧ Below w.heap.size w w' := by
  have hb1 := Lib.hid (below_alloc (w := w) (.cells #[.int .i64 wd, .slice a xs.length c] 35))
  obtain ⟨i0, hi, hz0, hz1, hz2⟩ := info_parts Tryz.info_int64
  have hdl := itemsSz_len xs
  have hca : (w.alloc (.cells #[.int .i64 wd, .slice a xs.length c] 35)).cell? ⟨w.heap.size, 0, none⟩ = some (.int .i64 wd) := by simp [go_sem]
  have hcb : (w.alloc (.cells #[.int .i64 wd, .slice a xs.length c] 35)).cell? ⟨w.heap.size, 1, none⟩ = some (.slice a xs.length c) := by simp [go_sem]
  cases hv : validLayB wd xs
  · have hf := Lib.hid (free_bad hv)
    go_enter Tryz.func24, Tryz.ntmps24
    go_wp2_with (go_at_call 86; ((with_reducible refine (spec_l04Ok w.heap.size wd a c xs _ hca hcb (hx.kept hb1.out) hn).mono ?_); rintro e w' ⟨rfl, hb⟩))
    go_ret2
    exact ⟨none, 0, by rw [hf.out.1, hf.out.2]; rfl, by rw [hf.out.1]; exact World.ownsRow_nil _ _ _ _, bthen hb1.out hb⟩
  · obtain ⟨v1, v2, v3, v4⟩ := validLay_is hv
    obtain ⟨n, rfl⟩ := Int.eq_ofNat_of_zero_le (show 0 ≤ wd by omega)
    have hf := Lib.hid (free_ok hv)
    have hit := Lib.hid (fun (y : Itm) (hy : y ∈ xs) => itemB_field (validLay_item hv hy))
    clear v4
    go_enter Tryz.func24, Tryz.ntmps24
    go_wp2_with fail
    refine (spec_l04Ok w.heap.size n a c xs _ hca hcb (hx.kept hb1.out) hn).mono ?_
    rintro e w2 ⟨rfl, hb⟩
    (have hc0 := keep (p := ⟨w.heap.size, 0, none⟩) (v := .int .i64 n) hb (by simp [go_sem, *]); have hf0 := keepf (p := ⟨w.heap.size, 0, none⟩) (v := .int .i64 n) hb (by simp [go_sem, *]) (by simp [go_sem, *]); have hl0 := World.block_lt_of_cell? _ _ hc0; have hc1 := keep (p := ⟨w.heap.size, 1, none⟩) (v := .slice a xs.length c) hb (by simp [go_sem, *]); have hf1 := keepf (p := ⟨w.heap.size, 1, none⟩) (v := .slice a xs.length c) hb (by simp [go_sem, *]) (by simp [go_sem, *]); have hl1 := World.block_lt_of_cell? _ _ hc1)
    have hb2 := Lib.hid (bthen hb1.out hb)
    have hs2 := hb2.out.size
    clear hb
    have hown0 := World.ownsRow_lit (base := w2.heap.size) (e := 2) (size := 1) w2 #[] 0 (Nat.le_refl _) (by simp [maxLen]) rfl
    generalize hN : xs.length = m at *
    have hN' := Lib.hid hN
    clear hN
    go_wp2_with fail
    go_loopw [4, 5] (fun v i wr => ∃ (k : Nat) (a' : Option Addr) (c' : Nat), k ≤ n ∧ i = .int .i64 k ∧ v = .slice a' (freeUp xs k).length c' ∧ wr.ownsRow w2.heap.size 2 1 (.slice a' (freeUp xs k).length c') (freeUp xs k).length ((freeUp xs k).map (Value.int .i64)) ∧ Below w2.heap.size w2 wr) (fun _ i _ => n - (intOf i).toNat)
    case atStart => exact ⟨0, _, _, by omega, rfl, rfl, hown0, below_alloc _⟩
    case round =>
      obtain ⟨k, a3, c3, hk, rfl, rfl, hown, hb⟩ := hrel
      have hcr := keep hb hc1
      have hcr0 := keep hb hc0
      obtain ⟨wo, rfl⟩ : ∃ wo : World, wo = wr := ⟨_, rfl⟩
      by_cases hlt : k < n
      · have hlt' : (k : Int) < (n : Int) := by omega
        have hown' := Lib.hid (OV.of hown)
        have hil := freeUp_len xs k
        clear hown
        go_wp2_with fail
        go_loopw [6, 7] (fun fr i wx => ∃ (j : Nat), j ≤ m ∧ i = .int .i64 j ∧ fr = .bool (!((xs.take j).any (coversB (k : Int)))) ∧ Below wo.heap.size wo wx) (fun _ i _ => m - (intOf i).toNat)
        case atStart => exact ⟨0, by omega, rfl, rfl, Below.refl _ _⟩
        case round =>
          obtain ⟨j, hj, rfl, rfl, hbx⟩ := hrel
          have hcx := keep hbx hcr
          by_cases hlj : j < m
          · obtain ⟨y, hyj⟩ := get_some (l := xs) (k := j) (by rw [hN'.out]; exact hlj)
            obtain ⟨b1, o1, rfl, hd0, hd1, hd2, hd3⟩ := (hx.kept (bthen (bthen hb2.out hb) hbx)).at hyj
            obtain ⟨g1, g2, g3⟩ := hit.out y (List.mem_of_getElem? hyj)
            have hwr : IntKind.i64.wrap (y.to - 1) = y.to - 1 := IntWalk.i64_in _ (by omega)
            cases hcv : coversB (k : Int) y
            · have hs := Lib.hid (not_any_no hyj hcv)
              have hcv' : inB (k : Int) y.fr (y.to - 1) = false := hcv
              clear hyj
              go_wp2_with fail
              first | go_quiet ((go_at_call 91; exact Calls.quiet_of_same ((spec_l00In _ _ _ _).mono fun _ _ h => ⟨h.1, h.2.symm⟩))) | fail
              clear hwr
              go_wp2_with fail
              all_goals try (exact absurd (hcv'.symm.trans (by assumption : inB (k : Int) y.fr (y.to - 1) = true)) (by simp))
              go_roundw
              case rel => exact ⟨j + 1, by omega, by go_num, by rw [hs.out], below_drewN hbx _⟩
              case measure => simp [intOf]; omega
            · have hs := Lib.hid (not_any_yes hyj hcv)
              have hcv' : inB (k : Int) y.fr (y.to - 1) = true := hcv
              clear hyj
              go_wp2_with fail
              first | go_quiet ((go_at_call 91; exact Calls.quiet_of_same ((spec_l00In _ _ _ _).mono fun _ _ h => ⟨h.1, h.2.symm⟩))) | fail
              clear hwr
              go_wp2_with fail
              all_goals try (exact absurd (hcv'.symm.trans (by assumption : inB (k : Int) y.fr (y.to - 1) = false)) (by simp))
              go_roundw
              case rel => exact ⟨j + 1, by omega, by go_num, by rw [hs.out], below_drewN hbx _⟩
              case measure => simp [intOf]; omega
          · obtain rfl : j = m := by omega
            have htk : xs.take j = xs := List.take_of_length_le (by rw [hN'.out]; exact Nat.le_refl _)
            rw [htk]
            have hown3 := (hown'.out.kept hbx).1
            have hbw3 := bthen hb hbx
            cases hcv : xs.any (coversB (k : Int))
            · have hs := Lib.hid (freeUp_yes hcv)
              clear hcv
              go_wp2_with (at_builtin; refine wpList_append_own _ rfl _ _ 25 rfl (w2.heap.size) 2 i0 (.int .i64 0) 1 8 Tryz.underlying25 hi hz0 hz1 hz2 rfl (by decide) _ ((freeUp xs k).length) ((freeUp xs k).map (Value.int .i64)) rfl (hown3.alloc _) ⟨_, 0, none⟩ 1 1 [.int .i64 (k : Int)] rfl rfl (news_one _ _ _) (one_one rfl) (by (have hq0 := hil); simp only [maxLen]; omega) (by (have hq0 := hil); omega) (by (have hq0 := hbw3.size); simp only [World.size_alloc]; omega) ?_; intro v1 w1 hown1 hgrow1 _; have hbq := Lib.hid (app_below hbw3 hbw3.size hown3 (by first | exact Nat.le_refl _ | omega) hgrow1); obtain ⟨a1, c1, hv1, _, _⟩ := own_slice hown1; subst hv1; have hownq := Lib.hid hown1; clear hown1 hgrow1)
              go_roundw
              case rel => exact ⟨k + 1, a1, c1, by omega, by go_num, by rw [hs.out, List.length_append]; rfl, by rw [hs.out, List.length_append, List.map_append]; exact hownq.out, hbq.out⟩
              case measure => simp [intOf]; omega
            · have hs := Lib.hid (freeUp_no hcv)
              clear hcv
              go_wp2_with fail
              go_roundw
              case rel => exact ⟨k + 1, a3, c3, by omega, by go_num, by rw [hs.out], by rw [hs.out]; exact hown3, hbw3⟩
              case measure => simp [intOf]; omega
      · obtain rfl : k = n := by omega
        go_wp2_with fail
        go_ret2
        exact ⟨a3, c3, by rw [hf.out.1, hf.out.2]; rfl, by rw [hf.out.1]; exact own_mono hown hs2, bthen hb2.out hb⟩
end Go.Proofs.YtcbjfgjlhjjpiaaGreatDoor
namespace Go.Proofs.YtcbjfgjlhjjpiaaGreatDoor
open Go.RowKit
set_option linter.unusedVariables false
set_option linter.unusedSimpArgs false
set_option linter.unnecessarySimpa false

theorem add_zero {wd : Int} {xs : List Itm} {p : Itm} (h : addCode wd xs p = 0) : validLayB wd xs = true ∧ itemB p wd = true ∧ findI xs p.name < 0 ∧ xs.any (meetB p) = false ∧ ¬ xs.length = 12 := by
  unfold addCode at h
  cases h1 : validLayB wd xs
  · rw [h1] at h; simp at h
  cases h2 : itemB p wd
  · rw [h1, h2] at h; simp at h
  rw [h1, h2] at h
  simp only [if_true] at h
  by_cases h3 : findI xs p.name < 0
  · rw [if_pos h3] at h
    cases h4 : xs.any (meetB p)
    · rw [h4] at h
      by_cases h5 : xs.length = 12
      · simp [h5] at h
      · exact ⟨rfl, rfl, h3, rfl, h5⟩
    · rw [h4] at h; simp at h
  · rw [if_neg h3] at h; simp at h
theorem any_not {α : Type} {l : List α} {p : α → Bool} (h : l.any p = false) {x : α} (hx : x ∈ l) : p x = false := by
  rw [List.any_eq_false] at h
  have := h x hx
  simpa using this
theorem add_valid {wd : Int} {xs : List Itm} {p : Itm} (h : addCode wd xs p = 0) : validLayB wd (xs ++ [p]) = true := by
  obtain ⟨h1, h2, h3, h4, h5⟩ := add_zero h
  obtain ⟨w1, w2, w3, w4⟩ := validLay_is h1
  unfold validLayB
  rw [inB_true.2 ⟨w1, w2⟩, decide_eq_true (show (xs ++ [p]).length ≤ 12 by simp; omega)]
  simp only [Bool.true_and]
  rw [List.all_eq_true]
  intro k hk
  have hk' : k < xs.length + 1 := by simpa using hk
  by_cases hlt : k < xs.length
  · obtain ⟨x, hx⟩ := get_some (l := xs) (k := k) hlt
    obtain ⟨q1, q2⟩ := w4 k x hx
    unfold okAt
    rw [List.getElem?_append_left hlt, hx]
    simp only
    rw [List.take_append_of_le_length (by omega), q1, q2]; rfl
  · obtain rfl : k = xs.length := by omega
    unfold okAt
    rw [List.getElem?_append_right (Nat.le_refl _), Nat.sub_self]
    simp only [List.getElem?_cons_zero, List.take_append_of_le_length (Nat.le_refl _), List.take_length, h2, Bool.true_and]
    have : xs.any (clashB p) = false := by
      rw [List.any_eq_false]
      intro y hy
      have hm := any_not h4 hy
      have hn : xs.any (namedB p.name) = false := by
        have := (firstB_ge (namedB p.name) xs).2.2
        rw [← this]
        exact decide_eq_false (by unfold findI at h3; omega)
      have hn2 := any_not hn hy
      unfold clashB
      rw [hm]
      unfold namedB at hn2
      simp only [Bool.or_false, decide_eq_true_eq]
      intro e
      first
        | (rw [e] at hn2; simp at hn2)
        | (rw [← e] at hn2; simp at hn2)
    rw [this]; rfl
theorem free_take {xs : List Itm} {p : Itm} (h : xs.any (meetB p) = false) (h0 : 0 ≤ p.fr) (h1 : p.fr < p.to) : ∀ k : Nat, ((freeUp xs k).length : Int) = ((freeUp (xs ++ [p]) k).length : Int) + (min (k : Int) p.to - min (k : Int) p.fr)
  | 0 => by
    have e1 : freeUp xs 0 = [] := rfl
    have e2 : freeUp (xs ++ [p]) 0 = [] := rfl
    rw [e1, e2]; simp only [List.length_nil]; omega
  | k + 1 => by
    have ih := free_take h h0 h1 k
    cases hp : coversB (k : Int) p
    · have hs : (xs ++ [p]).any (coversB (k : Int)) = xs.any (coversB (k : Int)) := by rw [List.any_append]; simp [hp]
      have hout : ¬ (p.fr ≤ (k : Int) ∧ (k : Int) ≤ p.to - 1) := by unfold coversB at hp; exact inB_false.1 hp
      cases hx : xs.any (coversB (k : Int))
      · rw [freeUp_yes hx, freeUp_yes (hs.trans hx), List.length_append, List.length_append, List.length_singleton]
        push_cast; omega
      · rw [freeUp_no hx, freeUp_no (hs.trans hx)]
        push_cast; omega
    · have hin : p.fr ≤ (k : Int) ∧ (k : Int) ≤ p.to - 1 := by unfold coversB at hp; exact inB_true.1 hp
      have hs : (xs ++ [p]).any (coversB (k : Int)) = true := by rw [List.any_append]; simp [hp]
      have hx : xs.any (coversB (k : Int)) = false := by
        rw [List.any_eq_false]
        intro y hy hc
        have hm := any_not h hy
        have hy2 : y.fr ≤ (k : Int) ∧ (k : Int) ≤ y.to - 1 := by unfold coversB at hc; exact inB_true.1 hc
        unfold meetB at hm
        rw [decide_eq_true (show p.fr < y.to by omega), decide_eq_true (show y.fr < p.to by omega)] at hm
        cases hm
      rw [freeUp_yes hx, freeUp_no hs, List.length_append, List.length_singleton]
      push_cast; omega
theorem add_free {wd : Int} {xs : List Itm} {p : Itm} (h : addCode wd xs p = 0) : addW wd xs p = wd ∧ addL wd xs p = xs ++ [p] ∧ layCode wd xs = 0 ∧ layCode wd (xs ++ [p]) = 0 ∧ validLayB wd (xs ++ [p]) = true ∧ ((freeL wd xs).length : Int) - ((freeL wd (xs ++ [p])).length : Int) = p.to - p.fr := by
  obtain ⟨h1, h2, h3, h4, h5⟩ := add_zero h
  obtain ⟨a1, a2, _⟩ := add_ok h1 h2 h3 h4 h5
  have hv := add_valid h
  obtain ⟨f1, f2, f3⟩ := itemB_field h2
  obtain ⟨w1, _⟩ := validLay_is h1
  obtain ⟨n, rfl⟩ := Int.eq_ofNat_of_zero_le (show 0 ≤ wd by omega)
  have e1 := (free_ok h1)
  have e2 := (free_ok hv)
  refine ⟨a1, a2, e1.2, e2.2, hv, ?_⟩
  have := free_take h4 f1 f2 n
  rw [e1.1, e2.1, this]; omega
end Go.Proofs.YtcbjfgjlhjjpiaaGreatDoor
