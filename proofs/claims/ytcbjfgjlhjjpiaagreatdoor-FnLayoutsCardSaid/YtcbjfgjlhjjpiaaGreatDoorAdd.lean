/- The walks of the functions that add items to layouts: what each returns, and that memory has at most new blocks. -/
import Derived.Test.YtcbjfgjlhjjpiaaGreatDoorFind
import Derived.Test.YtcbjfgjlhjjpiaaGreatDoorQD
import Derived.Deep.RegionWith
import Derived.Deep.RegionHeld3
namespace Go.Proofs.YtcbjfgjlhjjpiaaGreatDoor
open Go.RowKit
set_option maxRecDepth 100000
set_option linter.unusedVariables false
set_option linter.unusedSimpArgs false
set_option linter.unnecessarySimpa false

def addCode (wd : Int) (xs : List Itm) (p : Itm) : Int := if validLayB wd xs then (if itemB p wd then (if findI xs p.name < 0 then (if xs.any (meetB p) then 9 else if xs.length = 12 then 5 else 0) else 4) else 2) else 1
def addW (wd : Int) (xs : List Itm) (p : Itm) : Int := if addCode wd xs p == 0 then wd else 0
def addL (wd : Int) (xs : List Itm) (p : Itm) : List Itm := if addCode wd xs p == 0 then xs ++ [p] else []
theorem add_not {wd : Int} {xs : List Itm} {p : Itm} {k : Int} (h : addCode wd xs p = k) (hk : (k == 0) = false) : addW wd xs p = 0 ∧ addL wd xs p = [] ∧ addCode wd xs p = k := ⟨by unfold addW; rw [h, hk]; rfl, by unfold addL; rw [h, hk]; rfl, h⟩
theorem add_1 {wd : Int} {xs : List Itm} (p : Itm) (h : validLayB wd xs = false) : addW wd xs p = 0 ∧ addL wd xs p = [] ∧ addCode wd xs p = 1 := add_not (by unfold addCode; rw [h]; rfl) rfl
theorem add_2 {wd : Int} {xs : List Itm} {p : Itm} (h : validLayB wd xs = true) (h2 : itemB p wd = false) : addW wd xs p = 0 ∧ addL wd xs p = [] ∧ addCode wd xs p = 2 := add_not (by unfold addCode; rw [h, h2]; rfl) rfl
theorem add_3 {wd : Int} {xs : List Itm} {p : Itm} (h : validLayB wd xs = true) (h2 : itemB p wd = true) (h3 : ¬ findI xs p.name < 0) : addW wd xs p = 0 ∧ addL wd xs p = [] ∧ addCode wd xs p = 4 := add_not (by unfold addCode; rw [h, h2]; simp [h3]) rfl
theorem add_4 {wd : Int} {xs : List Itm} {p : Itm} (h : validLayB wd xs = true) (h2 : itemB p wd = true) (h3 : findI xs p.name < 0) (h4 : xs.any (meetB p) = true) : addW wd xs p = 0 ∧ addL wd xs p = [] ∧ addCode wd xs p = 9 := add_not (by unfold addCode; rw [h, h2, h4]; simp [h3]) rfl
theorem add_5 {wd : Int} {xs : List Itm} {p : Itm} (h : validLayB wd xs = true) (h2 : itemB p wd = true) (h3 : findI xs p.name < 0) (h4 : xs.any (meetB p) = false) (h5 : xs.length = 12) : addW wd xs p = 0 ∧ addL wd xs p = [] ∧ addCode wd xs p = 5 := add_not (by unfold addCode; rw [h, h2, h4]; simp [h3, h5]) rfl
theorem add_ok {wd : Int} {xs : List Itm} {p : Itm} (h : validLayB wd xs = true) (h2 : itemB p wd = true) (h3 : findI xs p.name < 0) (h4 : xs.any (meetB p) = false) (h5 : ¬ xs.length = 12) : addW wd xs p = wd ∧ addL wd xs p = xs ++ [p] ∧ addCode wd xs p = 0 := by
  have h0 : addCode wd xs p = 0 := by unfold addCode; rw [h, h2, h4]; simp [h3, h5]
  exact ⟨by unfold addW; rw [h0]; rfl, by unfold addL; rw [h0]; rfl, h0⟩
theorem impl_AddItem_1 (B : Nat) (x y : Itm) (w : World) (h1 : x.fr < x.to) (h2 : y.fr < y.to) (hc2 : w.cell? ⟨B, 2, none⟩ = some (.int .i64 x.fr)) (hc3 : w.cell? ⟨B, 3, none⟩ = some (.int .i64 x.to)) :
    Calls Tryz.prog 84 #[.agg #[.string y.name, .int .i64 y.kind, .int .i64 y.fr, .int .i64 y.to], .pointer (some ⟨B, 0, none⟩)] w fun e w' => e = .returned (.bool (meetB x y)) ∧ Below w.heap.size w w' := by
  obtain ⟨s, k, f, t⟩ := x
  obtain ⟨s', k', f', t'⟩ := y
  simp only at hc2 hc3 h1 h2
  have hl : B < w.heap.size := World.block_lt_of_cell? _ _ hc2
  have hb1 := Lib.hid (below_alloc (w := w) (.cells #[.string s', .int .i64 k', .int .i64 f', .int .i64 t'] 48))
  go_enter Tryz.func84, Tryz.ntmps84
  go_wp2_with (go_at_call 85; ((with_reducible refine (impl_meet _ _ _ _ _ h1 h2).mono ?_); rintro e w' ⟨rfl, hb⟩))
  go_ret
  exact ⟨rfl, bthen hb1.out hb⟩
theorem addL_len (wd : Int) (xs : List Itm) (p : Itm) : itemsSz (addL wd xs p) ≤ 1048576 := by
  unfold addL
  split
  · rename_i h
    have h0 : addCode wd xs p = 0 := by simpa using h
    unfold addCode at h0
    cases h1 : validLayB wd xs
    · rw [h1] at h0; simp at h0
    · cases h2 : itemB p wd
      · rw [h1, h2] at h0; simp at h0
      · obtain ⟨v1, v2, v3, v4⟩ := validLay_is h1
        have hnm : ∀ y, itemB y wd = true → y.name.size ≤ 12 := fun y hy => by
          unfold itemB nameIs isNameL at hy
          simp only [Bool.and_eq_true, decide_eq_true_eq] at hy
          have := hy.1.1.1.1.2
          rwa [len_bytes] at this
        have hs : (xs.map fun x => x.name.size).sum ≤ xs.length * 12 := by
          have hall : ∀ y ∈ xs, y.name.size ≤ 12 := fun y hy => hnm y (validLay_item h1 hy)
          clear h0 h1 v1 v2 v3 v4 h
          induction xs with
          | nil => simp
          | cons y r ih =>
            have := hall y (by simp)
            have := ih (fun z hz => hall z (by simp [hz]))
            simp only [List.map_cons, List.sum_cons, List.length_cons]; omega
        have := hnm p h2
        unfold itemsSz
        simp only [List.length_append, List.map_append, List.sum_append, List.length_singleton, List.map_cons, List.map_nil, List.sum_cons, List.sum_nil]
        omega
  · simp [itemsSz]
theorem item_one (p : Itm) : ∀ u ∈ p.cells, u.oneCell' = true := by
  intro u hu; simp only [Itm.cells, List.mem_cons, List.mem_nil_iff, or_false] at hu; rcases hu with rfl | rfl | rfl | rfl <;> rfl
theorem items_one (xs : List Itm) : ∀ u ∈ itemsV xs, u.oneCell' = true := by
  intro u hu; obtain ⟨p, _, hp⟩ := List.mem_flatMap.1 hu; exact item_one p u hp
theorem laws_szItem_over (x : Itm) (left : Int) (h0 : 0 ≤ left) (h1 : left ≤ 1048576) (hn : x.name.size ≤ maxLen) (h : left < (x.name.size : Int)) (w : World) :
    Calls Tryz.prog 122 #[.agg #[.string x.name, .int .i64 x.kind, .int .i64 x.fr, .int .i64 x.to], .int .i64 left] w fun e w' => e = .returned (.int .i64 (-1)) ∧ Below w.heap.size w w' :=
  (laws_szItem x left h0 h1 hn w).mono fun e w' q => ⟨by rw [q.1]; exact ret_int (by unfold szI; rw [if_pos (by omega)]), q.2⟩
theorem laws_szItem_ok (x : Itm) (left : Int) (h0 : 0 ≤ left) (h1 : left ≤ 1048576) (hn : x.name.size ≤ maxLen) (h : (x.name.size : Int) ≤ left) (w : World) :
    Calls Tryz.prog 122 #[.agg #[.string x.name, .int .i64 x.kind, .int .i64 x.fr, .int .i64 x.to], .int .i64 left] w fun e w' => e = .returned (.int .i64 (left - (x.name.size : Int))) ∧ Below w.heap.size w w' :=
  (laws_szItem x left h0 h1 hn w).mono fun e w' q => ⟨by rw [q.1]; exact ret_int (by unfold szI; rw [if_neg (by omega)]), q.2⟩
set_option maxHeartbeats 4000000 in
theorem impl_AddItem (wd : Int) (a : Option Addr) (c : Nat) (xs : List Itm) (p : Itm) (w : World) (hx : RT w a xs) (hn : itemsSz xs ≤ 1048576) (hcap : xs.length ≤ c) (hpn : p.name.size ≤ 1048576) :
    Calls Tryz.prog 20 #[.agg #[.int .i64 wd, .slice a xs.length c], .agg #[.string p.name, .int .i64 p.kind, .int .i64 p.fr, .int .i64 p.to]] w fun e w' => ∃ a' c', e = .returned (.tuple #[.agg #[.int .i64 (addW wd xs p), .slice a' (addL wd xs p).length c'], .int .i64 (addCode wd xs p)]) ∧ w'.ownsRow w.heap.size 48 4 (.slice a' (addL wd xs p).length c') (addL wd xs p).length (itemsV (addL wd xs p)) ∧ Below w.heap.size w w' := by
  have hb0 := Lib.hid (below_alloc3 w (.cells #[.int .i64 wd, .slice a xs.length c] 35) (.cells #[.string p.name, .int .i64 p.kind, .int .i64 p.fr, .int .i64 p.to] 48) (.cells #[.int .i64 0, .slice none 0 0] 35))
  have hdl := itemsSz_len xs
  have hpm : p.name.size ≤ maxLen := small hpn
  have eg := Go.Proofs.enters_of Tryz.func84 (by kernel_rfl) rfl
  obtain ⟨i0, hi, hz0, hz1, hz2⟩ := info_parts Tryz.info_item
  go_enter Tryz.func20, Tryz.ntmps20
  go_wp2_with fail
  refine (impl_ValidLayout wd a c xs _ (hx.kept hb0.out) hn hcap).mono ?_
  rintro e w1 ⟨rfl, hb⟩
  (have hc0 := keep (p := ⟨w.heap.size, 0, none⟩) (v := .int .i64 wd) hb (by simp [go_sem, *]); have hf0 := keepf (p := ⟨w.heap.size, 0, none⟩) (v := .int .i64 wd) hb (by simp [go_sem, *]) (by simp [go_sem, *]); have hl0 := World.block_lt_of_cell? _ _ hc0; have hc1 := keep (p := ⟨w.heap.size, 1, none⟩) (v := .slice a xs.length c) hb (by simp [go_sem, *]); have hf1 := keepf (p := ⟨w.heap.size, 1, none⟩) (v := .slice a xs.length c) hb (by simp [go_sem, *]) (by simp [go_sem, *]); have hl1 := World.block_lt_of_cell? _ _ hc1; have hc2 := keep (p := ⟨w.heap.size + 1, 0, none⟩) (v := .string p.name) hb (by simp [go_sem, *]); have hf2 := keepf (p := ⟨w.heap.size + 1, 0, none⟩) (v := .string p.name) hb (by simp [go_sem, *]) (by simp [go_sem, *]); have hl2 := World.block_lt_of_cell? _ _ hc2; have hc3 := keep (p := ⟨w.heap.size + 1, 1, none⟩) (v := .int .i64 p.kind) hb (by simp [go_sem, *]); have hf3 := keepf (p := ⟨w.heap.size + 1, 1, none⟩) (v := .int .i64 p.kind) hb (by simp [go_sem, *]) (by simp [go_sem, *]); have hl3 := World.block_lt_of_cell? _ _ hc3; have hc4 := keep (p := ⟨w.heap.size + 1, 2, none⟩) (v := .int .i64 p.fr) hb (by simp [go_sem, *]); have hf4 := keepf (p := ⟨w.heap.size + 1, 2, none⟩) (v := .int .i64 p.fr) hb (by simp [go_sem, *]) (by simp [go_sem, *]); have hl4 := World.block_lt_of_cell? _ _ hc4; have hc5 := keep (p := ⟨w.heap.size + 1, 3, none⟩) (v := .int .i64 p.to) hb (by simp [go_sem, *]); have hf5 := keepf (p := ⟨w.heap.size + 1, 3, none⟩) (v := .int .i64 p.to) hb (by simp [go_sem, *]) (by simp [go_sem, *]); have hl5 := World.block_lt_of_cell? _ _ hc5; have hc6 := keep (p := ⟨w.heap.size + 2, 0, none⟩) (v := .int .i64 0) hb (by simp [go_sem, *]); have hf6 := keepf (p := ⟨w.heap.size + 2, 0, none⟩) (v := .int .i64 0) hb (by simp [go_sem, *]) (by simp [go_sem, *]); have hl6 := World.block_lt_of_cell? _ _ hc6; have hc7 := keep (p := ⟨w.heap.size + 2, 1, none⟩) (v := .slice none 0 0) hb (by simp [go_sem, *]); have hf7 := keepf (p := ⟨w.heap.size + 2, 1, none⟩) (v := .slice none 0 0) hb (by simp [go_sem, *]) (by simp [go_sem, *]); have hl7 := World.block_lt_of_cell? _ _ hc7)
  have hB1 := Lib.hid (bthen hb0.out hb)
  clear hb
  cases hv : validLayB wd xs
  · have hf := Lib.hid (add_1 p hv)
    go_wp2_with fail
    refine bodyPost_ret (v := .tuple #[.agg #[.int .i64 0, .slice none 0 0], .int .i64 1]) (by simp [results, Tryz.results20, go_sem, *]) rfl ⟨none, 0, by rw [hf.out.1, hf.out.2.1, hf.out.2.2]; rfl, by rw [hf.out.2.1]; exact World.ownsRow_nil _ _ _ _, (hB1.out.setCell (by dsimp only; omega) _).setCell (by dsimp only; omega) _⟩
  · obtain ⟨v1, v2, v3, v4⟩ := validLay_is hv
    have hit := Lib.hid (fun (y : Itm) (hy : y ∈ xs) => itemB_field (validLay_item hv hy))
    clear v4
    go_wp2_with fail
    refine (impl_isItem p wd _ hpm (by omega)).mono ?_
    rintro e w2 ⟨rfl, hb⟩
    (replace hf0 := keepf hb hc0 hf0; replace hc0 := keep hb hc0; replace hl0 := World.block_lt_of_cell? _ _ hc0; replace hf1 := keepf hb hc1 hf1; replace hc1 := keep hb hc1; replace hl1 := World.block_lt_of_cell? _ _ hc1; replace hf2 := keepf hb hc2 hf2; replace hc2 := keep hb hc2; replace hl2 := World.block_lt_of_cell? _ _ hc2; replace hf3 := keepf hb hc3 hf3; replace hc3 := keep hb hc3; replace hl3 := World.block_lt_of_cell? _ _ hc3; replace hf4 := keepf hb hc4 hf4; replace hc4 := keep hb hc4; replace hl4 := World.block_lt_of_cell? _ _ hc4; replace hf5 := keepf hb hc5 hf5; replace hc5 := keep hb hc5; replace hl5 := World.block_lt_of_cell? _ _ hc5; replace hf6 := keepf hb hc6 hf6; replace hc6 := keep hb hc6; replace hl6 := World.block_lt_of_cell? _ _ hc6; replace hf7 := keepf hb hc7 hf7; replace hc7 := keep hb hc7; replace hl7 := World.block_lt_of_cell? _ _ hc7)
    replace hB1 := Lib.hid (bthen hB1.out hb)
    clear hb
    cases hv2 : itemB p wd
    · have hf := Lib.hid (add_2 hv hv2)
      go_wp2_with fail
      refine bodyPost_ret (v := .tuple #[.agg #[.int .i64 0, .slice none 0 0], .int .i64 2]) (by simp [results, Tryz.results20, go_sem, *]) rfl ⟨none, 0, by rw [hf.out.1, hf.out.2.1, hf.out.2.2]; rfl, by rw [hf.out.2.1]; exact World.ownsRow_nil _ _ _ _, (hB1.out.setCell (by dsimp only; omega) _).setCell (by dsimp only; omega) _⟩
    · obtain ⟨p1, p2, p3⟩ := itemB_field hv2
      go_wp2_with fail
      refine (impl_itemIndex wd a c xs p.name _ (hx.kept hB1.out) hn).mono ?_
      rintro e w3 ⟨rfl, hb⟩
      (replace hf0 := keepf hb hc0 hf0; replace hc0 := keep hb hc0; replace hl0 := World.block_lt_of_cell? _ _ hc0; replace hf1 := keepf hb hc1 hf1; replace hc1 := keep hb hc1; replace hl1 := World.block_lt_of_cell? _ _ hc1; replace hf2 := keepf hb hc2 hf2; replace hc2 := keep hb hc2; replace hl2 := World.block_lt_of_cell? _ _ hc2; replace hf3 := keepf hb hc3 hf3; replace hc3 := keep hb hc3; replace hl3 := World.block_lt_of_cell? _ _ hc3; replace hf4 := keepf hb hc4 hf4; replace hc4 := keep hb hc4; replace hl4 := World.block_lt_of_cell? _ _ hc4; replace hf5 := keepf hb hc5 hf5; replace hc5 := keep hb hc5; replace hl5 := World.block_lt_of_cell? _ _ hc5; replace hf6 := keepf hb hc6 hf6; replace hc6 := keep hb hc6; replace hl6 := World.block_lt_of_cell? _ _ hc6; replace hf7 := keepf hb hc7 hf7; replace hc7 := keep hb hc7; replace hl7 := World.block_lt_of_cell? _ _ hc7)
      replace hB1 := Lib.hid (bthen hB1.out hb)
      clear hb
      have hge := firstB_ge (namedB p.name) xs
      have hgi : -1 ≤ findI xs p.name ∧ findI xs p.name < xs.length := ⟨hge.1, hge.2.1⟩
      clear hge
      obtain ⟨hgi1, hgi2⟩ := hgi
      by_cases hneg : findI xs p.name < 0
      · have hneg' : ¬ 0 ≤ findI xs p.name := by omega
        have hcf := Lib.hid (slices_ContainsFunc_items 84 #[.pointer (some ⟨w.heap.size + 1, 0, none⟩)] (meetB p) a c xs w3 (hx.kept hB1.out) (by unfold maxLen; omega) eg (fun y hy W hbW => impl_AddItem_1 (w.heap.size + 1) p y W p2 (hit.out y hy).2.1 (keep hbW hc4) (keep hbW hc5)))
        clear eg
        go_wp2_with fail
        refine hcf.out.mono ?_
        rintro e w4 ⟨rfl, hb⟩
        (replace hf0 := keepf hb hc0 hf0; replace hc0 := keep hb hc0; replace hl0 := World.block_lt_of_cell? _ _ hc0; replace hf1 := keepf hb hc1 hf1; replace hc1 := keep hb hc1; replace hl1 := World.block_lt_of_cell? _ _ hc1; replace hf2 := keepf hb hc2 hf2; replace hc2 := keep hb hc2; replace hl2 := World.block_lt_of_cell? _ _ hc2; replace hf3 := keepf hb hc3 hf3; replace hc3 := keep hb hc3; replace hl3 := World.block_lt_of_cell? _ _ hc3; replace hf4 := keepf hb hc4 hf4; replace hc4 := keep hb hc4; replace hl4 := World.block_lt_of_cell? _ _ hc4; replace hf5 := keepf hb hc5 hf5; replace hc5 := keep hb hc5; replace hl5 := World.block_lt_of_cell? _ _ hc5; replace hf6 := keepf hb hc6 hf6; replace hc6 := keep hb hc6; replace hl6 := World.block_lt_of_cell? _ _ hc6; replace hf7 := keepf hb hc7 hf7; replace hc7 := keep hb hc7; replace hl7 := World.block_lt_of_cell? _ _ hc7)
        replace hB1 := Lib.hid (bthen hB1.out hb)
        clear hb hcf
        cases hv4 : xs.any (meetB p)
        · by_cases h12 : xs.length = 12
          · have hf := Lib.hid (add_5 hv hv2 hneg hv4 h12)
            go_wp2_with fail
            refine bodyPost_ret (v := .tuple #[.agg #[.int .i64 0, .slice none 0 0], .int .i64 5]) (by simp [results, Tryz.results20, go_sem, *]) rfl ⟨none, 0, by rw [hf.out.1, hf.out.2.1, hf.out.2.2]; rfl, by rw [hf.out.2.1]; exact World.ownsRow_nil _ _ _ _, (hB1.out.setCell (by dsimp only; omega) _).setCell (by dsimp only; omega) _⟩
          · have hf := Lib.hid (add_ok hv hv2 hneg hv4 h12)
            go_wp2_with fail
            have hx4 := Lib.hid (hx.kept hB1.out)
            have hs4 := hB1.out.size
            have hS := Lib.hid (fun (W : World) (hb : Below (w.heap.size + 2) w4 W) => (And.intro hb (And.intro (heldB hb (by omega) hc0) (And.intro (heldB hb (by omega) hc1) (And.intro (heldB hb (by omega) hc2) (And.intro (heldB hb (by omega) hc3) (And.intro (heldB hb (by omega) hc4) (heldB hb (by omega) hc5))))))))
            clear hv hv2 hv4 hneg hneg' h12 hgi1 hgi2
            have hm63 := Lib.hid (show xs.length ≤ maxLen by unfold maxLen; omega)
            have hm64 := Lib.hid (show xs.length + 1 ≤ maxLen by unfold maxLen; omega)
            have bd := below_drewN (Below.refl w4.heap.size w4) 1
            have hoA := Lib.hid (World.ownsRow_lit (base := w4.heap.size) (e := 48) (size := 4) (w4.drewN 1) #[] 0 (Nat.le_refl _) (by simp [maxLen]) rfl)
            have hoB := Lib.hid (hoA.out.alloc (.cells #[.string p.name, .int .i64 p.kind, .int .i64 p.fr, .int .i64 p.to] 48))
            have hoC := Lib.hid (show (((w4.drewN 1).alloc (.cells #[.string p.name, .int .i64 p.kind, .int .i64 p.fr, .int .i64 p.to] 48)).alloc (.cells #[] 48)).ownsRow w4.heap.size 48 4 (.slice (some ⟨w4.heap.size + 1, 0, none⟩) 0 0) 0 [] by
              have h := World.ownsRow_lit (base := w4.heap.size) (e := 48) (size := 4) ((w4.drewN 1).alloc (.cells #[.string p.name, .int .i64 p.kind, .int .i64 p.fr, .int .i64 p.to] 48)) #[] 0 (by simp) (by simp [maxLen]) rfl
              rw [show ((w4.drewN 1).alloc (.cells #[.string p.name, .int .i64 p.kind, .int .i64 p.fr, .int .i64 p.to] 48)).heap.size = w4.heap.size + 1 by simp] at h
              exact h)
            have bA := Lib.hid (bd.alloc (Nat.le_refl _) (.cells #[] 48))
            have bB := Lib.hid ((bd.alloc (Nat.le_refl _) (.cells #[] 48)).alloc (by simp) (.cells #[.string p.name, .int .i64 p.kind, .int .i64 p.fr, .int .i64 p.to] 48))
            have bC := Lib.hid ((bd.alloc (Nat.le_refl _) (.cells #[.string p.name, .int .i64 p.kind, .int .i64 p.fr, .int .i64 p.to] 48)).alloc (by simp) (.cells #[] 48))
            have rB := Lib.hid (show Row (((w4.drewN 1).alloc (.cells #[] 48)).alloc (.cells #[.string p.name, .int .i64 p.kind, .int .i64 p.fr, .int .i64 p.to] 48)) (some ⟨w4.heap.size + 1, 0, none⟩) p.cells by
              have h := row_block (heap_alloc_new ((w4.drewN 1).alloc (.cells #[] 48)) (.cells #[.string p.name, .int .i64 p.kind, .int .i64 p.fr, .int .i64 p.to] 48))
              rw [show ((w4.drewN 1).alloc (.cells #[] 48)).heap.size = w4.heap.size + 1 by simp] at h
              exact h)
            have rC := Lib.hid (show Row (((w4.drewN 1).alloc (.cells #[.string p.name, .int .i64 p.kind, .int .i64 p.fr, .int .i64 p.to] 48)).alloc (.cells #[] 48)) (some ⟨w4.heap.size, 0, none⟩) p.cells from row_block ((heap_alloc_old ((w4.drewN 1).alloc (.cells #[.string p.name, .int .i64 p.kind, .int .i64 p.fr, .int .i64 p.to] 48)) (.cells #[] 48) (by simp)).trans (heap_alloc_new (w4.drewN 1) (.cells #[.string p.name, .int .i64 p.kind, .int .i64 p.fr, .int .i64 p.to] 48))))
            have hkC := Lib.hid (fun (k : Nat) (hk : (Value.slice (some ⟨w4.heap.size + 1, 0, none⟩) 0 0).ownBlock = some k) => (show w4.heap.size ≤ k by simp [Value.ownBlock] at hk; omega))
            have hsC := Lib.hid (show w4.heap.size ≤ (((w4.drewN 1).alloc (.cells #[.string p.name, .int .i64 p.kind, .int .i64 p.fr, .int .i64 p.to] 48)).alloc (.cells #[] 48)).heap.size by simp; omega)
            clear bd
            go_region_held3 (fun W => Below (w.heap.size + 2) w4 W ∧ W.cell? ⟨w.heap.size, 0, none⟩ = some (.int .i64 wd) ∧ W.cell? ⟨w.heap.size, 1, none⟩ = some (.slice a xs.length c) ∧ W.cell? ⟨w.heap.size + 1, 0, none⟩ = some (.string p.name) ∧ W.cell? ⟨w.heap.size + 1, 1, none⟩ = some (.int .i64 p.kind) ∧ W.cell? ⟨w.heap.size + 1, 2, none⟩ = some (.int .i64 p.fr) ∧ W.cell? ⟨w.heap.size + 1, 3, none⟩ = some (.int .i64 p.to)) (first | exact hS.out _ (below_drewN (Below.refl _ _) 1) | (rename Below (w.heap.size + 2) w4 _ ∧ _ => hH; refine hS.out _ ?_; first | exact hH.1.alloc (Nat.le_trans (by omega) hH.1.size) _ | exact (hH.1.setCell (by dsimp only; omega) _).setCell (by dsimp only; omega) _ | assumption)) (first | (refine step_row rfl _ _ 33 rfl w4.heap.size 48 i0 _ 4 40 Tryz.underlying33 hi hz0 hz1 hz2 rfl (by decide) (.slice (some ⟨w4.heap.size, 0, none⟩) 0 0) 0 [] rfl hoA.out a xs.length c (itemsV xs) rfl (itemsV_length xs) (hx4.out.kept bA.out) (items_one xs) (by (have := hm63.out); simpa using this) (by omega) (by first | (simp; done) | (simp; omega)) ?_; intro v5 w5 hown5 hg5; have hb5 := Lib.hid (bA.out.grown hg5 (by first | (simp; done) | (simp; omega)) (fun k hk => by cases hk; first | exact Nat.le_refl _ | omega)); have hq5 : Below (w.heap.size + 2) w4 w5 := hb5.out.mono (by omega); (simp only [Nat.zero_add, List.nil_append] at hown5); obtain ⟨a5, c5, hv5, _, _⟩ := own_slice hown5; subst hv5; have ho5 := Lib.hid hown5; clear hown5 hg5) | (refine step_row rfl _ _ 33 rfl w4.heap.size 48 i0 _ 4 40 Tryz.underlying33 hi hz0 hz1 hz2 rfl (by decide) (.slice (some ⟨w4.heap.size, 0, none⟩) 0 0) 0 [] rfl hoB.out a xs.length c (itemsV xs) rfl (itemsV_length xs) (hx4.out.kept bB.out) (items_one xs) (by (have := hm63.out); simpa using this) (by omega) (by first | (simp; done) | (simp; omega)) ?_; intro v5 w5 hown5 hg5; have hb5 := Lib.hid (bB.out.grown hg5 (by first | (simp; done) | (simp; omega)) (fun k hk => by cases hk; first | exact Nat.le_refl _ | omega)); have hq5 : Below (w.heap.size + 2) w4 w5 := hb5.out.mono (by omega); have hn5 := Lib.hid (rB.out.grown hg5 (by simp [Value.ownBlock])); (simp only [Nat.zero_add, List.nil_append] at hown5); obtain ⟨a5, c5, hv5, _, _⟩ := own_slice hown5; subst hv5; have ho5 := Lib.hid hown5; clear hown5 hg5) | (refine step_row rfl _ _ 33 rfl w4.heap.size 48 i0 _ 4 40 Tryz.underlying33 hi hz0 hz1 hz2 rfl (by decide) (.slice (some ⟨w4.heap.size + 1, 0, none⟩) 0 0) 0 [] rfl hoC.out a xs.length c (itemsV xs) rfl (itemsV_length xs) (hx4.out.kept bC.out) (items_one xs) (by (have := hm63.out); simpa using this) (by omega) (by first | (simp; done) | (simp; omega)) ?_; intro v5 w5 hown5 hg5; have hb5 := Lib.hid (bC.out.grown hg5 hsC.out hkC.out); have hq5 : Below (w.heap.size + 2) w4 w5 := hb5.out.mono (by omega); have hn5 := Lib.hid (rC.out.grown hg5 (by simp [Value.ownBlock])); (simp only [Nat.zero_add, List.nil_append] at hown5); obtain ⟨a5, c5, hv5, _, _⟩ := own_slice hown5; subst hv5; have ho5 := Lib.hid hown5; clear hown5 hg5) | (refine step_row rfl _ _ 33 rfl w4.heap.size 48 i0 _ 4 40 Tryz.underlying33 hi hz0 hz1 hz2 rfl (by decide) _ xs.length (itemsV xs) rfl ho5.out _ 1 1 p.cells rfl (by simp [Itm.cells]) hn5.out (item_one p) (by (have := hm64.out); simpa using this) (by omega) (by (have := hb5.out.size); first | exact this | (simp only [World.size_alloc]; omega)) ?_; intro v6 w6 hown6 hg6; have hb6 := Lib.hid (hb5.out.grown hg6 (by (have := hb5.out.size); first | exact this | (simp only [World.size_alloc]; omega)) (fun k hk => (ho5.out.lt k hk).1)); have hq6 : Below (w.heap.size + 2) w4 w6 := hb6.out.mono (by omega); obtain ⟨a6, c6, hv6, _, _⟩ := own_slice hown6; subst hv6; have ho6 := Lib.hid hown6; have hr6 := keep hb6.out hc6; have hr7 := keep hb6.out hc7; have hg6' := keepf hb6.out hc6 hf6; have hg7 := keepf hb6.out hc7 hf7; clear hown6 hg6) | (refine step_row rfl _ _ 33 rfl w4.heap.size 48 i0 _ 4 40 Tryz.underlying33 hi hz0 hz1 hz2 rfl (by decide) _ xs.length (itemsV xs) rfl (ho5.out.alloc _) _ 1 1 p.cells rfl (by simp [Itm.cells]) (row_block (heap_alloc_new w5 _)) (item_one p) (by (have := hm64.out); simpa using this) (by omega) (by (have := hb5.out.size); first | exact this | (simp only [World.size_alloc]; omega)) ?_; intro v6 w6 hown6 hg6; have hb6 := Lib.hid ((hb5.out.alloc hb5.out.size _).grown hg6 (by (have := hb5.out.size); first | exact this | (simp only [World.size_alloc]; omega)) (fun k hk => (ho5.out.lt k hk).1)); have hq6 : Below (w.heap.size + 2) w4 w6 := hb6.out.mono (by omega); obtain ⟨a6, c6, hv6, _, _⟩ := own_slice hown6; subst hv6; have ho6 := Lib.hid hown6; have hr6 := keep hb6.out hc6; have hr7 := keep hb6.out hc7; have hg6' := keepf hb6.out hc6 hf6; have hg7 := keepf hb6.out hc7 hf7; clear hown6 hg6))
            all_goals
              go_wp2_with fail
              refine bodyPost_ret (v := .tuple #[.agg #[.int .i64 wd, .slice a6 (xs.length + 1) c6], .int .i64 0]) (by simp [results, Tryz.results20, go_sem, *]) rfl ⟨a6, c6, by rw [hf.out.1, hf.out.2.1, hf.out.2.2, List.length_append]; simp, ?_, ((bthen hB1.out hb6.out).setCell (by dsimp only; omega) _).setCell (by dsimp only; omega) _⟩
              rw [hf.out.2.1, List.length_append, itemsV_append, itemsV_one]
              have h9 := ho6.out
              exact own_mono (ownsRow_setCell_below (ownsRow_setCell_below h9 (by dsimp only; omega) _) (by dsimp only; omega) _) (by omega)
        · have hf := Lib.hid (add_4 hv hv2 hneg hv4)
          go_wp2_with fail
          refine bodyPost_ret (v := .tuple #[.agg #[.int .i64 0, .slice none 0 0], .int .i64 9]) (by simp [results, Tryz.results20, go_sem, *]) rfl ⟨none, 0, by rw [hf.out.1, hf.out.2.1, hf.out.2.2]; rfl, by rw [hf.out.2.1]; exact World.ownsRow_nil _ _ _ _, (hB1.out.setCell (by dsimp only; omega) _).setCell (by dsimp only; omega) _⟩
      · have hneg' : 0 ≤ findI xs p.name := by omega
        have hf := Lib.hid (add_3 hv hv2 hneg)
        go_wp2_with fail
        refine bodyPost_ret (v := .tuple #[.agg #[.int .i64 0, .slice none 0 0], .int .i64 4]) (by simp [results, Tryz.results20, go_sem, *]) rfl ⟨none, 0, by rw [hf.out.1, hf.out.2.1, hf.out.2.2]; rfl, by rw [hf.out.2.1]; exact World.ownsRow_nil _ _ _ _, (hB1.out.setCell (by dsimp only; omega) _).setCell (by dsimp only; omega) _⟩
end Go.Proofs.YtcbjfgjlhjjpiaaGreatDoor
