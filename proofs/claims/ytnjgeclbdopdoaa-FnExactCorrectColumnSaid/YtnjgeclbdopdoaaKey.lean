/- The walks of the functions that correct a column: what each returns, and that memory has at most new blocks. -/
import Derived.Test.YtnjgeclbdopdoaaData
import Derived.Test.YtnjgeclbdopdoaaRanks
import Derived.Test.YtnjgeclbdopdoaaCopy
import Derived.Deep.RegionWith
namespace Go.Proofs.Ytnjgeclbdopdoaa
open Go.RowKit
set_option maxRecDepth 100000
set_option linter.unusedVariables false
set_option linter.unusedSimpArgs false
set_option linter.unnecessarySimpa false

def corrCode (xs : List Int) (col : Int) (u : UInt8) : Int := if validCardL xs then (if inB col 0 ((xs.length : Int) - 1) then (if charB u.toNat then 0 else 7) else 2) else 1
def corrL (xs : List Int) (col : Int) (u : UInt8) : List Int := if corrCode xs col u == 0 then xs.set col.toNat (code0 u.toNat) else []
theorem corr_bad {xs : List Int} (col : Int) (u : UInt8) (h : validCardL xs = false) : corrCode xs col u = 1 ∧ corrL xs col u = [] := by
  have h1 : corrCode xs col u = 1 := by unfold corrCode; rw [h]; rfl
  exact ⟨h1, by unfold corrL; rw [h1]; rfl⟩
theorem corr_range {xs : List Int} {col : Int} (u : UInt8) (h : validCardL xs = true) (h2 : inB col 0 ((xs.length : Int) - 1) = false) : corrCode xs col u = 2 ∧ corrL xs col u = [] := by
  have h1 : corrCode xs col u = 2 := by unfold corrCode; rw [h, h2]; rfl
  exact ⟨h1, by unfold corrL; rw [h1]; rfl⟩
theorem corr_char {xs : List Int} {col : Int} {u : UInt8} (h : validCardL xs = true) (h2 : inB col 0 ((xs.length : Int) - 1) = true) (h3 : charB u.toNat = false) : corrCode xs col u = 7 ∧ corrL xs col u = [] := by
  have h1 : corrCode xs col u = 7 := by unfold corrCode; rw [h, h2, h3]; rfl
  exact ⟨h1, by unfold corrL; rw [h1]; rfl⟩
theorem corr_ok {xs : List Int} {col : Int} {u : UInt8} {k : Nat} (hc : col = k) (h : validCardL xs = true) (h2 : inB col 0 ((xs.length : Int) - 1) = true) (h3 : charB u.toNat = true) : corrCode xs col u = 0 ∧ corrL xs col u = xs.set k (code0 u.toNat) := by
  have h1 : corrCode xs col u = 0 := by unfold corrCode; rw [h, h2, h3]; rfl
  exact ⟨h1, by unfold corrL; rw [h1, hc]; rfl⟩
theorem corrL_len (xs : List Int) (col : Int) (u : UInt8) (h : xs.length ≤ 1048576) : (corrL xs col u).length ≤ 1048576 := by
  unfold corrL; split
  · simpa using h
  · simp
set_option maxHeartbeats 800000 in
theorem impl_CorrectColumn (a : Option Addr) (c : Nat) (xs : List Int) (col : Int) (u : UInt8) (w : World) (hx : RI w a xs) (hn : xs.length ≤ maxLen) :
    Calls Try.prog 27 #[.agg #[.slice a xs.length c], .int .i64 col, .int .u8 u.toNat] w fun e w' => ∃ a' c', e = .returned (.tuple #[.agg #[.slice a' (corrL xs col u).length c'], .int .i64 (corrCode xs col u)]) ∧ w'.ownsRow w.heap.size 2 1 (.slice a' (corrL xs col u).length c') (corrL xs col u).length ((corrL xs col u).map (Value.int .i64)) ∧ Below w.heap.size w w' := by
  have hb1 := Lib.hid (below_alloc2 w (.cells #[.slice a xs.length c] 43) (.cells #[.slice none 0 0] 43))
  have hm : xs.length ≤ 9223372036854775807 := by simpa [maxLen] using hn
  cases hv : validCardL xs
  · have hf := Lib.hid (corr_bad col u hv)
    go_enter Try.func27, Try.ntmps27
    go_wp2_with (go_at_call 69; ((with_reducible refine (impl_ValidCard a c xs _ (hx.kept hb1.out) hn).mono ?_); rintro e w' ⟨rfl, hb⟩; (have hc0 := keep (p := ⟨w.heap.size + 1, 0, none⟩) (v := .slice none 0 0) hb (by simp [go_sem, *]); have hf0 := keepf (p := ⟨w.heap.size + 1, 0, none⟩) (v := .slice none 0 0) hb (by simp [go_sem, *]) (by simp [go_sem, *]); have hl0 := World.block_lt_of_cell? _ _ hc0)))
    refine bodyPost_ret (v := .tuple #[.agg #[.slice none 0 0], .int .i64 1]) (by simp [results, Try.results27, go_sem, hc0]) rfl ⟨none, 0, by rw [hf.out.1, hf.out.2]; rfl, by rw [hf.out.2]; exact World.ownsRow_nil _ _ _ _, ?_⟩
    first | exact bthen hb1.out hb | exact (bthen hb1.out hb).setCell (by simp) _
  · go_enter Try.func27, Try.ntmps27
    go_wp2_with fail
    refine (impl_ValidCard a c xs _ (hx.kept hb1.out) hn).mono ?_
    rintro e w2 ⟨rfl, hb⟩
    (have hc0 := keep (p := ⟨w.heap.size, 0, none⟩) (v := .slice a xs.length c) hb (by simp [go_sem, *]); have hf0 := keepf (p := ⟨w.heap.size, 0, none⟩) (v := .slice a xs.length c) hb (by simp [go_sem, *]) (by simp [go_sem, *]); have hl0 := World.block_lt_of_cell? _ _ hc0; have hc1 := keep (p := ⟨w.heap.size + 1, 0, none⟩) (v := .slice none 0 0) hb (by simp [go_sem, *]); have hf1 := keepf (p := ⟨w.heap.size + 1, 0, none⟩) (v := .slice none 0 0) hb (by simp [go_sem, *]) (by simp [go_sem, *]); have hl1 := World.block_lt_of_cell? _ _ hc1)
    have hb2 := Lib.hid (bthen hb1.out hb)
    clear hb
    go_wp2_with fail
    refine (impl_columns _ _ _ _).mono ?_
    rintro e w3 ⟨rfl, hb⟩
    (have hc0 := keep (p := ⟨w.heap.size, 0, none⟩) (v := .slice a xs.length c) hb (by simp [go_sem, *]); have hf0 := keepf (p := ⟨w.heap.size, 0, none⟩) (v := .slice a xs.length c) hb (by simp [go_sem, *]) (by simp [go_sem, *]); have hl0 := World.block_lt_of_cell? _ _ hc0; have hc1 := keep (p := ⟨w.heap.size + 1, 0, none⟩) (v := .slice none 0 0) hb (by simp [go_sem, *]); have hf1 := keepf (p := ⟨w.heap.size + 1, 0, none⟩) (v := .slice none 0 0) hb (by simp [go_sem, *]) (by simp [go_sem, *]); have hl1 := World.block_lt_of_cell? _ _ hc1)
    have hb3 := Lib.hid (bthen hb2.out hb)
    clear hb
    cases hi : inB col 0 ((xs.length : Int) - 1)
    · have hf := Lib.hid (corr_range u hv hi)
      go_wp2_with (go_at_call 58; ((with_reducible refine (impl_inside _ _ _ _).mono ?_); rintro e w' ⟨rfl, rfl⟩))
      refine bodyPost_ret (v := .tuple #[.agg #[.slice none 0 0], .int .i64 2]) (by simp [results, Try.results27, go_sem, *]) rfl ⟨none, 0, by rw [hf.out.1, hf.out.2]; rfl, by rw [hf.out.2]; exact World.ownsRow_nil _ _ _ _, ?_⟩
      first | exact hb3.out | exact hb3.out.setCell (by simp) _
    · cases hch : charB u.toNat
      · have hf := Lib.hid (corr_char hv hi hch)
        go_wp2_with (first | (go_at_call 58; ((with_reducible refine (impl_inside _ _ _ _).mono ?_); rintro e w' ⟨rfl, rfl⟩)) | (go_at_call 71; ((with_reducible refine (impl_isCharacter _ _).mono ?_); rintro e w' ⟨rfl, rfl⟩)))
        refine bodyPost_ret (v := .tuple #[.agg #[.slice none 0 0], .int .i64 7]) (by simp [results, Try.results27, go_sem, *]) rfl ⟨none, 0, by rw [hf.out.1, hf.out.2]; rfl, by rw [hf.out.2]; exact World.ownsRow_nil _ _ _ _, ?_⟩
        first | exact hb3.out | exact hb3.out.setCell (by simp) _
      · have hi' := inB_true.1 hi
        obtain ⟨k, hk⟩ := Int.eq_ofNat_of_zero_le hi'.1
        have hlt : k < xs.length := by omega
        have hs : xs.length ≤ 1048576 := by have := validCard_len hv; omega
        have hf := Lib.hid (corr_ok hk hv hi hch)
        obtain ⟨x, hxk⟩ := get_some hlt
        subst hk
        clear hi'
        have hxk' := Lib.hid hxk
        clear hxk
        go_wp2_with (first | (go_at_call 58; ((with_reducible refine (impl_inside _ _ _ _).mono ?_); rintro e w' ⟨rfl, rfl⟩)) | (go_at_call 71; ((with_reducible refine (impl_isCharacter _ _).mono ?_); rintro e w' ⟨rfl, rfl⟩)) | fail)
        refine (impl_newCard _ c xs _ (hx.kept hb3.out) hs).mono ?_
        rintro e w4 ⟨a4, c4, rfl, hown, hb4⟩
        have hr1 : w4.cell? ⟨w.heap.size + 1, 0, none⟩ = some (.slice none 0 0) := keep hb4 hc1
        have hr2 : w4.frozen? ⟨w.heap.size + 1, 0, none⟩ = false := keepf hb4 hc1 hf1
        have hr3 := World.block_lt_of_cell? _ _ hr1
        have hb5 := Lib.hid (bthen hb3.out hb4)
        obtain ⟨g, rfl, hg1, hg2⟩ := (OI.of hown).addr (by omega)
        have hcg := (hown.cellAt k (by omega)).trans (map_at hxk'.out)
        have hfg := hown.frozenAt k
        have hg3 : g < w4.heap.size := (hown.lt _ rfl).2
        have hB1 : w.heap.size + 1 < w3.heap.size := by simpa using World.block_lt_of_cell? _ _ hc1
        have hB2 : w.heap.size ≤ w3.heap.size := by omega
        have hg1' : w.heap.size + 2 ≤ g := Nat.le_trans hB1 hg1
        have hg4 : ¬ g = w.heap.size + 1 := by omega
        have hg5 : ¬ w.heap.size + 1 = g := by omega
        have hown' := Lib.hid hown
        clear hown hb4
        go_wp2_with fail
        go_region_with (go_at_call 73; refine (impl_codeOf _ _).mono ?_; rintro e w' ⟨rfl, rfl⟩)
        all_goals go_wp2_with fail
        all_goals refine bodyPost_ret (v := .tuple #[.agg #[.slice (some ⟨g, 0, none⟩) xs.length c4], .int .i64 0]) (by simp [results, Try.results27, go_sem, hr1, hr2, hr3, hg4, hg5]) rfl ⟨some ⟨g, 0, none⟩, c4, by rw [hf.out.1, hf.out.2, List.length_set], ?_, below_drewN (bthen ((hb5.out.setCell (Nat.le_trans (Nat.le_add_right _ 2) hg1') _).setCell (by simp) _) (below_alloc _)) _⟩
        all_goals rw [hf.out.2, List.length_set, List.map_set]
        all_goals exact (((OV.of (own_mono (ownsRow_setCell_below (hown'.out.stored k _).1 (by exact hB1) _) hB2)).kept (below_alloc _)).kept (below_drewN (Below.refl _ _) _)).1
set_option maxHeartbeats 800000 in
theorem spec_CorrectColumn (a : Option Addr) (c : Nat) (xs : List Int) (col : Int) (u : UInt8) (w : World) (hx : RI w a xs) (hn : xs.length ≤ maxLen) :
    Calls Try.prog 25 #[.agg #[.slice a xs.length c], .int .i64 col, .int .u8 u.toNat] w fun e w' => ∃ a' c', e = .returned (.tuple #[.agg #[.slice a' (corrL xs col u).length c'], .int .i64 (corrCode xs col u)]) ∧ w'.ownsRow w.heap.size 2 1 (.slice a' (corrL xs col u).length c') (corrL xs col u).length ((corrL xs col u).map (Value.int .i64)) ∧ Below w.heap.size w w' := by
  have hb1 := Lib.hid (below_alloc2 w (.cells #[.slice a xs.length c] 43) (.cells #[.slice none 0 0] 43))
  have hm : xs.length ≤ 9223372036854775807 := by simpa [maxLen] using hn
  have hcs : ((w.alloc (.cells #[.slice a xs.length c] 43)).alloc (.cells #[.slice none 0 0] 43)).cell? ⟨w.heap.size, 0, none⟩ = some (.slice a xs.length c) := by simp [go_sem]
  have hcr : ((w.alloc (.cells #[.slice a xs.length c] 43)).alloc (.cells #[.slice none 0 0] 43)).cell? ⟨w.heap.size + 1, 0, none⟩ = some (.slice none 0 0) := by simp [go_sem]
  have hfr : ((w.alloc (.cells #[.slice a xs.length c] 43)).alloc (.cells #[.slice none 0 0] 43)).frozen? ⟨w.heap.size + 1, 0, none⟩ = false := by simp [go_sem]
  cases hv : validCardL xs
  · have hf := Lib.hid (corr_bad col u hv)
    go_enter Try.func25, Try.ntmps25
    go_wp2_with (go_at_call 65; ((with_reducible refine (spec_l02Ok w.heap.size a c xs _ hcs (hx.kept hb1.out) hn).mono ?_); rintro e w' ⟨rfl, rfl⟩))
    refine bodyPost_ret (v := .tuple #[.agg #[.slice none 0 0], .int .i64 1]) (by simp [results, Try.results25, go_sem]) rfl ⟨none, 0, by rw [hf.out.1, hf.out.2]; rfl, by rw [hf.out.2]; exact World.ownsRow_nil _ _ _ _, ?_⟩
    exact hb1.out
  · cases hi : inB col 0 ((xs.length : Int) - 1)
    · have hf := Lib.hid (corr_range u hv hi)
      go_enter Try.func25, Try.ntmps25
      go_wp2_with (first | (go_at_call 65; ((with_reducible refine (spec_l02Ok w.heap.size a c xs _ hcs (hx.kept hb1.out) hn).mono ?_); rintro e w' ⟨rfl, rfl⟩)) | (go_at_call 57; ((with_reducible refine (spec_l00In _ _ _ _).mono ?_); rintro e w' ⟨rfl, rfl⟩)))
      refine bodyPost_ret (v := .tuple #[.agg #[.slice none 0 0], .int .i64 2]) (by simp [results, Try.results25, go_sem]) rfl ⟨none, 0, by rw [hf.out.1, hf.out.2]; rfl, by rw [hf.out.2]; exact World.ownsRow_nil _ _ _ _, ?_⟩
      exact hb1.out
    · cases hch : charB u.toNat
      · have hf := Lib.hid (corr_char hv hi hch)
        have hneg : codeI u.toNat < 0 := by unfold charB at hch; simpa using hch
        go_enter Try.func25, Try.ntmps25
        go_wp2_with (first | (go_at_call 65; ((with_reducible refine (spec_l02Ok w.heap.size a c xs _ hcs (hx.kept hb1.out) hn).mono ?_); rintro e w' ⟨rfl, rfl⟩)) | (go_at_call 57; ((with_reducible refine (spec_l00In _ _ _ _).mono ?_); rintro e w' ⟨rfl, rfl⟩)) | (go_at_call 66; ((with_reducible refine (spec_l03Code _ _).mono ?_); rintro e w' ⟨rfl, rfl⟩)))
        refine bodyPost_ret (v := .tuple #[.agg #[.slice none 0 0], .int .i64 7]) (by simp [results, Try.results25, go_sem]) rfl ⟨none, 0, by rw [hf.out.1, hf.out.2]; rfl, by rw [hf.out.2]; exact World.ownsRow_nil _ _ _ _, ?_⟩
        exact hb1.out
      · have hi' := inB_true.1 hi
        obtain ⟨k, hk⟩ := Int.eq_ofNat_of_zero_le hi'.1
        have hlt : k < xs.length := by omega
        have hs : xs.length ≤ 1048576 := by have := validCard_len hv; omega
        have hf := Lib.hid (corr_ok hk hv hi hch)
        obtain ⟨x, hxk⟩ := get_some hlt
        subst hk
        clear hi'
        have hxk' := Lib.hid hxk
        clear hxk
        have hpos : ¬ codeI u.toNat < 0 := by unfold charB at hch; simp only [decide_eq_true_eq] at hch; omega
        have hcd := Lib.hid (code0_yes hch)
        go_enter Try.func25, Try.ntmps25
        go_wp2_with (first | (go_at_call 65; ((with_reducible refine (spec_l02Ok w.heap.size a c xs _ hcs (hx.kept hb1.out) hn).mono ?_); rintro e w' ⟨rfl, rfl⟩)) | (go_at_call 57; ((with_reducible refine (spec_l00In _ _ _ _).mono ?_); rintro e w' ⟨rfl, rfl⟩)) | (go_at_call 66; ((with_reducible refine (spec_l03Code _ _).mono ?_); rintro e w' ⟨rfl, rfl⟩)))
        refine (spec_l02Own w.heap.size _ c xs _ hcs (hx.kept hb1.out) hs).mono ?_
        rintro e w4 ⟨a4, c4, rfl, hown, hb4⟩
        have hr1 : w4.cell? ⟨w.heap.size + 1, 0, none⟩ = some (.slice none 0 0) := keep hb4 hcr
        have hr2 : w4.frozen? ⟨w.heap.size + 1, 0, none⟩ = false := keepf hb4 hcr hfr
        have hr3 := World.block_lt_of_cell? _ _ hr1
        have hb5 := Lib.hid (bthen hb1.out hb4)
        obtain ⟨g, rfl, hg1, hg2⟩ := (OI.of hown).addr (by omega)
        have hcg := (hown.cellAt k (by omega)).trans (map_at hxk'.out)
        have hfg := hown.frozenAt k
        have hg3 : g < w4.heap.size := (hown.lt _ rfl).2
        simp only [World.size_alloc] at hg1
        have hg4 : ¬ g = w.heap.size + 1 := by omega
        have hg5 : ¬ w.heap.size + 1 = g := by omega
        have hown' := Lib.hid hown
        clear hown hb4
        go_wp2_with fail
        refine bodyPost_ret (v := .tuple #[.agg #[.slice (some ⟨g, 0, none⟩) xs.length c4], .int .i64 0]) (by simp [results, Try.results25, go_sem, hr1, hr2, hr3, hg4, hg5]) rfl ⟨some ⟨g, 0, none⟩, c4, by rw [hf.out.1, hf.out.2, List.length_set], ?_, ?_⟩
        · rw [hf.out.2, List.length_set, List.map_set, hcd.out]
          exact ((OV.of (own_mono (ownsRow_setCell_below (hown'.out.stored k _).1 (by simp) _) (by simp; omega))).kept (below_alloc _)).1
        · exact bthen ((hb5.out.setCell (by dsimp only; omega) _).setCell (by simp) _) (below_alloc _)
end Go.Proofs.Ytnjgeclbdopdoaa
