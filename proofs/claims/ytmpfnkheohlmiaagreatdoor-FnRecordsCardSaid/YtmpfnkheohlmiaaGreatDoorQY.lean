/- The walks of the functions that find items by their names and free columns: what each returns, and that memory has at most new blocks. The walks of the functions that add items to layouts: what each returns, and that memory has at most new blocks. -/
import Derived.Test.YtmpfnkheohlmiaaGreatDoorValid
import Derived.Test.YtmpfnkheohlmiaaGreatDoorQD
import Derived.Deep.RegionWith
import Derived.Deep.RegionHeld3
namespace Go.Proofs.YtmpfnkheohlmiaaGreatDoor
open Go.RowKit
set_option maxRecDepth 100000
set_option linter.unusedVariables false
set_option linter.unusedSimpArgs false
set_option linter.unnecessarySimpa false

def namedB (nm : ByteArray) (y : Itm) : Bool := decide (y.name = nm)
/-- the place of an item; -1 if there is none -/
def findI (xs : List Itm) (nm : ByteArray) : Int := firstB (namedB nm) xs
theorem named_iff (s t : ByteArray) : (s.toList == t.toList) = decide (s = t) := by
  by_cases h : s = t
  · subst h; simp
  · rw [names_ne h]; simp [h]
def itemNamedI (wd : Int) (xs : List Itm) (nm : ByteArray) : Int := if validLayB wd xs then (if findI xs nm < 0 then 0 else findI xs nm) else 0
def itemNamedCode (wd : Int) (xs : List Itm) (nm : ByteArray) : Int := if validLayB wd xs then (if findI xs nm < 0 then 3 else 0) else 1
theorem in_bad {wd : Int} {xs : List Itm} (nm : ByteArray) (h : validLayB wd xs = false) : itemNamedI wd xs nm = 0 ∧ itemNamedCode wd xs nm = 1 := by unfold itemNamedI itemNamedCode; rw [h]; exact ⟨rfl, rfl⟩
theorem in_not {wd : Int} {xs : List Itm} {nm : ByteArray} (h : validLayB wd xs = true) (h2 : findI xs nm < 0) : itemNamedI wd xs nm = 0 ∧ itemNamedCode wd xs nm = 3 := by unfold itemNamedI itemNamedCode; rw [h]; simp [h2]
theorem in_ok {wd : Int} {xs : List Itm} {nm : ByteArray} (h : validLayB wd xs = true) (h2 : ¬ findI xs nm < 0) : itemNamedI wd xs nm = findI xs nm ∧ itemNamedCode wd xs nm = 0 := by unfold itemNamedI itemNamedCode; rw [h]; simp [h2]
theorem impl_itemIndex_1 (B : Nat) (nm : ByteArray) (y : Itm) (w : World) (hc0 : w.cell? ⟨B, 0, none⟩ = some (.string nm)) :
    Calls Tryz.prog 108 #[.agg #[.string y.name, .int .i64 y.kind, .int .i64 y.fr, .int .i64 y.to], .pointer (some ⟨B, 0, none⟩)] w fun e w' => e = .returned (.bool (namedB nm y)) ∧ Below w.heap.size w w' := by
  obtain ⟨s', k', f', t'⟩ := y
  have hl : B < w.heap.size := World.block_lt_of_cell? _ _ hc0
  have hb1 := Lib.hid (below_alloc (w := w) (.cells #[.string s', .int .i64 k', .int .i64 f', .int .i64 t'] 63))
  have hf := Lib.hid (show (s'.toList == nm.toList) = namedB nm ⟨s', k', f', t'⟩ from named_iff s' nm)
  cases hq : (s'.toList == nm.toList)
  · rw [hq] at hf
    go_enter Tryz.func108, Tryz.ntmps108
    go_wp2_with fail
    go_ret
    exact ⟨ret_bool (by rw [← hf.out]), hb1.out⟩
  · rw [hq] at hf
    go_enter Tryz.func108, Tryz.ntmps108
    go_wp2_with fail
    go_ret
    exact ⟨ret_bool (by rw [← hf.out]), hb1.out⟩
set_option maxHeartbeats 400000 in
theorem impl_itemIndex (wd : Int) (a : Option Addr) (c : Nat) (xs : List Itm) (nm : ByteArray) (w : World) (hx : RT w a xs) (hn : itemsSz xs ≤ 1048576) :
    Calls Tryz.prog 58 #[.agg #[.int .i64 wd, .slice a xs.length c], .string nm] w fun e w' => e = .returned (.int .i64 (findI xs nm)) ∧ Below w.heap.size w w' := by
  have eg := Go.Proofs.enters_of Tryz.func108 (by kernel_rfl) rfl
  have hdl := itemsSz_len xs
  have hb2 := below_alloc2 w (.cells #[.int .i64 wd, .slice a xs.length c] 26) (.cells #[.string nm] 9)
  have hcn : ((w.alloc (.cells #[.int .i64 wd, .slice a xs.length c] 26)).alloc (.cells #[.string nm] 9)).cell? ⟨w.heap.size + 1, 0, none⟩ = some (.string nm) := by simp [go_sem]
  have hc := Lib.hid (slices_IndexFunc_items 108 #[.pointer (some ⟨w.heap.size + 1, 0, none⟩)] (namedB nm) a c xs _ (hx.kept hb2) (by unfold maxLen; omega) eg (fun y hy W hbW => impl_itemIndex_1 (w.heap.size + 1) nm y W (keep hbW hcn)))
  have hb2' := Lib.hid hb2
  clear hb2
  go_enter Tryz.func58, Tryz.ntmps58
  go_wp2_with (go_at_call 107; ((with_reducible refine hc.out.mono ?_); rintro e w' ⟨rfl, hb⟩))
  go_ret
  exact ⟨rfl, bthen hb2'.out hb⟩
set_option maxHeartbeats 400000 in
theorem impl_ItemNamed (wd : Int) (a : Option Addr) (c : Nat) (xs : List Itm) (nm : ByteArray) (w : World) (hx : RT w a xs) (hn : itemsSz xs ≤ 1048576) (hcap : xs.length ≤ c) (hnm : nm.size ≤ 1048576) :
    Calls Tryz.prog 27 #[.agg #[.int .i64 wd, .slice a xs.length c], .string nm] w fun e w' => e = .returned (.tuple #[.int .i64 (itemNamedI wd xs nm), .int .i64 (itemNamedCode wd xs nm)]) ∧ Below w.heap.size w w' := by
  have hb1 := Lib.hid (below_alloc (w := w) (.cells #[.int .i64 wd, .slice a xs.length c] 26))
  cases hv : validLayB wd xs
  · have hf := Lib.hid (in_bad nm hv)
    go_enter Tryz.func27, Tryz.ntmps27
    go_wp2_with (go_at_call 25; ((with_reducible refine (impl_ValidLayout wd a c xs _ (hx.kept hb1.out) hn hcap).mono ?_); rintro e w' ⟨rfl, hb⟩))
    go_ret2
    exact ⟨by rw [hf.out.1, hf.out.2]; rfl, bthen hb1.out hb⟩
  · go_enter Tryz.func27, Tryz.ntmps27
    go_wp2_with fail
    refine (impl_ValidLayout wd a c xs _ (hx.kept hb1.out) hn hcap).mono ?_
    rintro e w2 ⟨rfl, hb⟩
    (have hc0 := keep (p := ⟨w.heap.size, 0, none⟩) (v := .int .i64 wd) hb (by simp [go_sem, *]); have hf0 := keepf (p := ⟨w.heap.size, 0, none⟩) (v := .int .i64 wd) hb (by simp [go_sem, *]) (by simp [go_sem, *]); have hl0 := World.block_lt_of_cell? _ _ hc0; have hc1 := keep (p := ⟨w.heap.size, 1, none⟩) (v := .slice a xs.length c) hb (by simp [go_sem, *]); have hf1 := keepf (p := ⟨w.heap.size, 1, none⟩) (v := .slice a xs.length c) hb (by simp [go_sem, *]) (by simp [go_sem, *]); have hl1 := World.block_lt_of_cell? _ _ hc1)
    have hb2 := Lib.hid (bthen hb1.out hb)
    clear hb
    go_wp2_with fail
    refine (impl_itemIndex wd a c xs nm _ (hx.kept hb2.out) hn).mono ?_
    rintro e w3 ⟨rfl, hb⟩
    (have hc0 := keep (p := ⟨w.heap.size, 0, none⟩) (v := .int .i64 wd) hb (by simp [go_sem, *]); have hf0 := keepf (p := ⟨w.heap.size, 0, none⟩) (v := .int .i64 wd) hb (by simp [go_sem, *]) (by simp [go_sem, *]); have hl0 := World.block_lt_of_cell? _ _ hc0; have hc1 := keep (p := ⟨w.heap.size, 1, none⟩) (v := .slice a xs.length c) hb (by simp [go_sem, *]); have hf1 := keepf (p := ⟨w.heap.size, 1, none⟩) (v := .slice a xs.length c) hb (by simp [go_sem, *]) (by simp [go_sem, *]); have hl1 := World.block_lt_of_cell? _ _ hc1)
    have hb3 := Lib.hid (bthen hb2.out hb)
    clear hb
    by_cases hneg : findI xs nm < 0
    · have hf := Lib.hid (in_not hv hneg)
      go_wp2_with fail
      go_ret2
      exact ⟨by rw [hf.out.1, hf.out.2]; rfl, hb3.out⟩
    · have hf := Lib.hid (in_ok hv hneg)
      go_wp2_with fail
      refine (impl_itemIndex wd a c xs nm _ (hx.kept hb3.out) hn).mono ?_
      rintro e w4 ⟨rfl, hb⟩
      go_wp2_with fail
      go_ret2
      exact ⟨by rw [hf.out.1, hf.out.2]; rfl, bthen hb3.out hb⟩
set_option maxHeartbeats 400000 in
theorem spec_l04Find (B : Nat) (wd : Int) (a : Option Addr) (c : Nat) (xs : List Itm) (nm : ByteArray) (w : World) (hcb : w.cell? ⟨B, 1, none⟩ = some (.slice a xs.length c)) (hx : RT w a xs) (hn : itemsSz xs ≤ 1048576) :
    Calls Tryz.prog 57 #[.pointer (some ⟨B, 0, none⟩), .string nm] w fun e w' => e = .returned (.int .i64 (findI xs nm)) ∧ Below w.heap.size w w' := by
  have hdl := itemsSz_len xs
  generalize hN : xs.length = n at *
  have hN' := Lib.hid hN
  clear hN
  go_enter Tryz.func57, Tryz.ntmps57
  go_wp2_with fail
  go_loopw [5] (fun i wr => ∃ k : Nat, k ≤ n ∧ i = .int .i64 k ∧ Hid ((xs.take k).all (fun x => !namedB nm x) = true) ∧ Below w.heap.size w wr) (fun i _ => n - (intOf i).toNat)
  case atStart => exact ⟨0, by omega, rfl, Lib.hid rfl, Below.refl _ _⟩
  case round =>
    obtain ⟨k, hk, rfl, hall, hb⟩ := hrel
    have hcbr := keep hb hcb
    by_cases hlt : k < n
    · obtain ⟨x, hxk⟩ := get_some (l := xs) (k := k) (by rw [hN'.out]; exact hlt)
      obtain ⟨b1, o1, rfl, hc0, hc1, hc2, hc3⟩ := (hx.kept hb).at hxk
      have hxk' := Lib.hid hxk
      have hf := Lib.hid (show (x.name.toList == nm.toList) = namedB nm x from named_iff x.name nm)
      clear hxk
      cases hq : (x.name.toList == nm.toList)
      · rw [hq] at hf
        go_wp2_with fail
        go_roundw
        case rel => exact ⟨k + 1, by omega, by go_num, Lib.hid (all_succ hxk'.out hall.out (by rw [← hf.out]; rfl)), hb⟩
        case measure => simp [intOf]; omega
      · rw [hq] at hf
        go_wp2_with fail
        go_ret
        exact ⟨ret_int (firstB_hit hxk'.out hall.out hf.out.symm).symm, hb⟩
    · go_wp2_with fail
      go_ret
      exact ⟨ret_int (firstB_none (by rw [hN'.out]; omega) hall.out).symm, hb⟩
end Go.Proofs.YtmpfnkheohlmiaaGreatDoor
namespace Go.Proofs.YtmpfnkheohlmiaaGreatDoor
open Go.RowKit
set_option maxRecDepth 100000
set_option linter.unusedVariables false
set_option linter.unusedSimpArgs false
set_option linter.unnecessarySimpa false

def addCode (wd : Int) (xs : List Itm) (p : Itm) : Int := if validLayB wd xs then (if itemB p wd then (if findI xs p.name < 0 then (if xs.any (meetB p) then 9 else if xs.length = 12 then 5 else 0) else 4) else 2) else 1
def addW (wd : Int) (xs : List Itm) (p : Itm) : Int := if addCode wd xs p == 0 then wd else 0
def addL (wd : Int) (xs : List Itm) (p : Itm) : List Itm := if addCode wd xs p == 0 then xs ++ [p] else []
theorem add_not {wd : Int} {xs : List Itm} {p : Itm} {k : Int} (h : addCode wd xs p = k) (hk : (k == 0) = false) : addW wd xs p = 0 ∧ addL wd xs p = [] ∧ addCode wd xs p = k := ⟨by unfold addW; rw [h, hk]; rfl, by unfold addL; rw [h, hk]; rfl, h⟩
theorem add_1 {wd : Int} {xs : List Itm} (p : Itm) (h : validLayB wd xs = false) : addW wd xs p = 0 ∧ addL wd xs p = [] ∧ addCode wd xs p = 1 := add_not (by unfold addCode; rw [h]; rfl) rfl
theorem add_2 {wd : Int} {xs : List Itm} {p : Itm} (h : validLayB wd xs = true) (h2 : itemB p wd = false) : addW wd xs p = 0 ∧ addL wd xs p = [] ∧ addCode wd xs p = 2 := add_not (by unfold addCode; rw [h, h2]; rfl) rfl
theorem add_3 {wd : Int} {xs : List Itm} {p : Itm} (h : validLayB wd xs = true) (h2 : itemB p wd = true) (h3 : ¬ findI xs p.name < 0) : addW wd xs p = 0 ∧ addL wd xs p = [] ∧ addCode wd xs p = 4 := add_not (by unfold addCode; rw [h, h2]; simp [h3]) rfl
theorem add_4 {wd : Int} {xs : List Itm} {p : Itm} (h : validLayB wd xs = true) (h2 : itemB p wd = true) (h3 : findI xs p.name < 0) (h4 : xs.any (meetB p) = true) : addW wd xs p = 0 ∧ addL wd xs p = [] ∧ addCode wd xs p = 9 := add_not (by unfold addCode; rw [h, h2, h4]; simp [h3]) rfl
theorem add_5 {wd : Int} {xs : List Itm} {p : Itm} (h : validLayB wd xs = true) (h2 : itemB p wd = true) (h3 : findI xs p.name < 0) (h4 : xs.any (meetB p) = false) (h5 : xs.length = 12) : addW wd xs p = 0 ∧ addL wd xs p = [] ∧ addCode wd xs p = 5 := add_not (by unfold addCode; rw [h, h2, h4]; simp [h3, h5]) rfl
theorem add_ok {wd : Int} {xs : List Itm} {p : Itm} (h : validLayB wd xs = true) (h2 : itemB p wd = true) (h3 : findI xs p.name < 0) (h4 : xs.any (meetB p) = false) (h5 : ¬ xs.length = 12) : addW wd xs p = wd ∧ addL wd xs p = xs ++ [p] ∧ addCode wd xs p = 0 := by
  have h0 : addCode wd xs p = 0 := by unfold addCode; rw [h, h2, h4]; simp [h3, h5]
  exact ⟨by unfold addW; rw [h0]; rfl, by unfold addL; rw [h0]; rfl, h0⟩
theorem addL_len (wd : Int) (xs : List Itm) (p : Itm) : itemsSz (addL wd xs p) ≤ 1048576 := by
  unfold addL
  split
  · rename_i h
    have h0 : addCode wd xs p = 0 := by simpa using h
    unfold addCode at h0
    cases h1 : validLayB wd xs
    · rw [h1] at h0; simp at h0
    · cases h2 : itemB p wd
      · rw [h1, h2] at h0; simp at h0
      · obtain ⟨v1, v2, v3, v4⟩ := validLay_is h1
        have hnm : ∀ y, itemB y wd = true → y.name.size ≤ 12 := fun y hy => by
          unfold itemB nameIs isNameL at hy
          simp only [Bool.and_eq_true, decide_eq_true_eq] at hy
          have := hy.1.1.1.1.2
          rwa [len_bytes] at this
        have hs : (xs.map fun x => x.name.size).sum ≤ xs.length * 12 := by
          have hall : ∀ y ∈ xs, y.name.size ≤ 12 := fun y hy => hnm y (validLay_item h1 hy)
          clear h0 h1 v1 v2 v3 v4 h
          induction xs with
          | nil => simp
          | cons y r ih =>
            have := hall y (by simp)
            have := ih (fun z hz => hall z (by simp [hz]))
            simp only [List.map_cons, List.sum_cons, List.length_cons]; omega
        have := hnm p h2
        unfold itemsSz
        simp only [List.length_append, List.map_append, List.sum_append, List.length_singleton, List.map_cons, List.map_nil, List.sum_cons, List.sum_nil]
        omega
  · simp [itemsSz]
theorem item_one (p : Itm) : ∀ u ∈ p.cells, u.oneCell' = true := by
  intro u hu; simp only [Itm.cells, List.mem_cons, List.mem_nil_iff, or_false] at hu; rcases hu with rfl | rfl | rfl | rfl <;> rfl
theorem items_one (xs : List Itm) : ∀ u ∈ itemsV xs, u.oneCell' = true := by
  intro u hu; obtain ⟨p, _, hp⟩ := List.mem_flatMap.1 hu; exact item_one p u hp
end Go.Proofs.YtmpfnkheohlmiaaGreatDoor
