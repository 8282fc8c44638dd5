/- The walks of the functions that find items by their names and free columns: what each returns, and that memory has at most new blocks. -/
import Derived.Test.YtcbjfgjlhjjpiaaGreatDoorValid
namespace Go.Proofs.YtcbjfgjlhjjpiaaGreatDoor
open Go.RowKit
set_option maxRecDepth 100000
set_option linter.unusedVariables false
set_option linter.unusedSimpArgs false
set_option linter.unnecessarySimpa false

def namedB (nm : ByteArray) (y : Itm) : Bool := decide (y.name = nm)
/-- the place of an item; -1 if there is none -/
def findI (xs : List Itm) (nm : ByteArray) : Int := firstB (namedB nm) xs
theorem named_iff (s t : ByteArray) : (s.toList == t.toList) = decide (s = t) := by
  by_cases h : s = t
  · subst h; simp
  · rw [names_ne h]; simp [h]
def itemNamedI (wd : Int) (xs : List Itm) (nm : ByteArray) : Int := if validLayB wd xs then (if findI xs nm < 0 then 0 else findI xs nm) else 0
def itemNamedCode (wd : Int) (xs : List Itm) (nm : ByteArray) : Int := if validLayB wd xs then (if findI xs nm < 0 then 3 else 0) else 1
theorem in_bad {wd : Int} {xs : List Itm} (nm : ByteArray) (h : validLayB wd xs = false) : itemNamedI wd xs nm = 0 ∧ itemNamedCode wd xs nm = 1 := by unfold itemNamedI itemNamedCode; rw [h]; exact ⟨rfl, rfl⟩
theorem in_not {wd : Int} {xs : List Itm} {nm : ByteArray} (h : validLayB wd xs = true) (h2 : findI xs nm < 0) : itemNamedI wd xs nm = 0 ∧ itemNamedCode wd xs nm = 3 := by unfold itemNamedI itemNamedCode; rw [h]; simp [h2]
theorem in_ok {wd : Int} {xs : List Itm} {nm : ByteArray} (h : validLayB wd xs = true) (h2 : ¬ findI xs nm < 0) : itemNamedI wd xs nm = findI xs nm ∧ itemNamedCode wd xs nm = 0 := by unfold itemNamedI itemNamedCode; rw [h]; simp [h2]
theorem impl_itemIndex_1 (B : Nat) (nm : ByteArray) (y : Itm) (w : World) (hc0 : w.cell? ⟨B, 0, none⟩ = some (.string nm)) :
    Calls Tryz.prog 132 #[.agg #[.string y.name, .int .i64 y.kind, .int .i64 y.fr, .int .i64 y.to], .pointer (some ⟨B, 0, none⟩)] w fun e w' => e = .returned (.bool (namedB nm y)) ∧ Below w.heap.size w w' := by
  obtain ⟨s', k', f', t'⟩ := y
  have hl : B < w.heap.size := World.block_lt_of_cell? _ _ hc0
  have hb1 := Lib.hid (below_alloc (w := w) (.cells #[.string s', .int .i64 k', .int .i64 f', .int .i64 t'] 48))
  have hf := Lib.hid (show (s'.toList == nm.toList) = namedB nm ⟨s', k', f', t'⟩ from named_iff s' nm)
  cases hq : (s'.toList == nm.toList)
  · rw [hq] at hf
    go_enter Tryz.func132, Tryz.ntmps132
    go_wp2_with fail
    go_ret
    exact ⟨ret_bool (by rw [← hf.out]), hb1.out⟩
  · rw [hq] at hf
    go_enter Tryz.func132, Tryz.ntmps132
    go_wp2_with fail
    go_ret
    exact ⟨ret_bool (by rw [← hf.out]), hb1.out⟩
set_option maxHeartbeats 400000 in
theorem impl_itemIndex (wd : Int) (a : Option Addr) (c : Nat) (xs : List Itm) (nm : ByteArray) (w : World) (hx : RT w a xs) (hn : itemsSz xs ≤ 1048576) :
    Calls Tryz.prog 70 #[.agg #[.int .i64 wd, .slice a xs.length c], .string nm] w fun e w' => e = .returned (.int .i64 (findI xs nm)) ∧ Below w.heap.size w w' := by
  have eg := Go.Proofs.enters_of Tryz.func132 (by kernel_rfl) rfl
  have hdl := itemsSz_len xs
  have hb2 := below_alloc2 w (.cells #[.int .i64 wd, .slice a xs.length c] 35) (.cells #[.string nm] 9)
  have hcn : ((w.alloc (.cells #[.int .i64 wd, .slice a xs.length c] 35)).alloc (.cells #[.string nm] 9)).cell? ⟨w.heap.size + 1, 0, none⟩ = some (.string nm) := by simp [go_sem]
  have hc := Lib.hid (slices_IndexFunc_items 132 #[.pointer (some ⟨w.heap.size + 1, 0, none⟩)] (namedB nm) a c xs _ (hx.kept hb2) (by unfold maxLen; omega) eg (fun y hy W hbW => impl_itemIndex_1 (w.heap.size + 1) nm y W (keep hbW hcn)))
  have hb2' := Lib.hid hb2
  clear hb2
  go_enter Tryz.func70, Tryz.ntmps70
  go_wp2_with (go_at_call 131; ((with_reducible refine hc.out.mono ?_); rintro e w' ⟨rfl, hb⟩))
  go_ret
  exact ⟨rfl, bthen hb2'.out hb⟩
set_option maxHeartbeats 400000 in
theorem impl_ItemNamed (wd : Int) (a : Option Addr) (c : Nat) (xs : List Itm) (nm : ByteArray) (w : World) (hx : RT w a xs) (hn : itemsSz xs ≤ 1048576) (hcap : xs.length ≤ c) (hnm : nm.size ≤ 1048576) :
    Calls Tryz.prog 26 #[.agg #[.int .i64 wd, .slice a xs.length c], .string nm] w fun e w' => e = .returned (.tuple #[.int .i64 (itemNamedI wd xs nm), .int .i64 (itemNamedCode wd xs nm)]) ∧ Below w.heap.size w w' := by
  have hb1 := Lib.hid (below_alloc (w := w) (.cells #[.int .i64 wd, .slice a xs.length c] 35))
  cases hv : validLayB wd xs
  · have hf := Lib.hid (in_bad nm hv)
    go_enter Tryz.func26, Tryz.ntmps26
    go_wp2_with (go_at_call 36; ((with_reducible refine (impl_ValidLayout wd a c xs _ (hx.kept hb1.out) hn hcap).mono ?_); rintro e w' ⟨rfl, hb⟩))
    go_ret2
    exact ⟨by rw [hf.out.1, hf.out.2]; rfl, bthen hb1.out hb⟩
  · go_enter Tryz.func26, Tryz.ntmps26
    go_wp2_with fail
    refine (impl_ValidLayout wd a c xs _ (hx.kept hb1.out) hn hcap).mono ?_
    rintro e w2 ⟨rfl, hb⟩
    (have hc0 := keep (p := ⟨w.heap.size, 0, none⟩) (v := .int .i64 wd) hb (by simp [go_sem, *]); have hf0 := keepf (p := ⟨w.heap.size, 0, none⟩) (v := .int .i64 wd) hb (by simp [go_sem, *]) (by simp [go_sem, *]); have hl0 := World.block_lt_of_cell? _ _ hc0; have hc1 := keep (p := ⟨w.heap.size, 1, none⟩) (v := .slice a xs.length c) hb (by simp [go_sem, *]); have hf1 := keepf (p := ⟨w.heap.size, 1, none⟩) (v := .slice a xs.length c) hb (by simp [go_sem, *]) (by simp [go_sem, *]); have hl1 := World.block_lt_of_cell? _ _ hc1)
    have hb2 := Lib.hid (bthen hb1.out hb)
    clear hb
    go_wp2_with fail
    refine (impl_itemIndex wd a c xs nm _ (hx.kept hb2.out) hn).mono ?_
    rintro e w3 ⟨rfl, hb⟩
    (have hc0 := keep (p := ⟨w.heap.size, 0, none⟩) (v := .int .i64 wd) hb (by simp [go_sem, *]); have hf0 := keepf (p := ⟨w.heap.size, 0, none⟩) (v := .int .i64 wd) hb (by simp [go_sem, *]) (by simp [go_sem, *]); have hl0 := World.block_lt_of_cell? _ _ hc0; have hc1 := keep (p := ⟨w.heap.size, 1, none⟩) (v := .slice a xs.length c) hb (by simp [go_sem, *]); have hf1 := keepf (p := ⟨w.heap.size, 1, none⟩) (v := .slice a xs.length c) hb (by simp [go_sem, *]) (by simp [go_sem, *]); have hl1 := World.block_lt_of_cell? _ _ hc1)
    have hb3 := Lib.hid (bthen hb2.out hb)
    clear hb
    by_cases hneg : findI xs nm < 0
    · have hf := Lib.hid (in_not hv hneg)
      go_wp2_with fail
      go_ret2
      exact ⟨by rw [hf.out.1, hf.out.2]; rfl, hb3.out⟩
    · have hf := Lib.hid (in_ok hv hneg)
      go_wp2_with fail
      refine (impl_itemIndex wd a c xs nm _ (hx.kept hb3.out) hn).mono ?_
      rintro e w4 ⟨rfl, hb⟩
      go_wp2_with fail
      go_ret2
      exact ⟨by rw [hf.out.1, hf.out.2]; rfl, bthen hb3.out hb⟩
set_option maxHeartbeats 400000 in
theorem spec_l04Find (B : Nat) (wd : Int) (a : Option Addr) (c : Nat) (xs : List Itm) (nm : ByteArray) (w : World) (hcb : w.cell? ⟨B, 1, none⟩ = some (.slice a xs.length c)) (hx : RT w a xs) (hn : itemsSz xs ≤ 1048576) :
    Calls Tryz.prog 62 #[.pointer (some ⟨B, 0, none⟩), .string nm] w fun e w' => e = .returned (.int .i64 (findI xs nm)) ∧ Below w.heap.size w w' := by
  have hdl := itemsSz_len xs
  generalize hN : xs.length = n at *
  have hN' := Lib.hid hN
  clear hN
  go_enter Tryz.func62, Tryz.ntmps62
  go_wp2_with fail
  go_loopw [5] (fun i wr => ∃ k : Nat, k ≤ n ∧ i = .int .i64 k ∧ Hid ((xs.take k).all (fun x => !namedB nm x) = true) ∧ Below w.heap.size w wr) (fun i _ => n - (intOf i).toNat)
  case atStart => exact ⟨0, by omega, rfl, Lib.hid rfl, Below.refl _ _⟩
  case round =>
    obtain ⟨k, hk, rfl, hall, hb⟩ := hrel
    have hcbr := keep hb hcb
    by_cases hlt : k < n
    · obtain ⟨x, hxk⟩ := get_some (l := xs) (k := k) (by rw [hN'.out]; exact hlt)
      obtain ⟨b1, o1, rfl, hc0, hc1, hc2, hc3⟩ := (hx.kept hb).at hxk
      have hxk' := Lib.hid hxk
      have hf := Lib.hid (show (x.name.toList == nm.toList) = namedB nm x from named_iff x.name nm)
      clear hxk
      cases hq : (x.name.toList == nm.toList)
      · rw [hq] at hf
        go_wp2_with fail
        go_roundw
        case rel => exact ⟨k + 1, by omega, by go_num, Lib.hid (all_succ hxk'.out hall.out (by rw [← hf.out]; rfl)), hb⟩
        case measure => simp [intOf]; omega
      · rw [hq] at hf
        go_wp2_with fail
        go_ret
        exact ⟨ret_int (firstB_hit hxk'.out hall.out hf.out.symm).symm, hb⟩
    · go_wp2_with fail
      go_ret
      exact ⟨ret_int (firstB_none (by rw [hN'.out]; omega) hall.out).symm, hb⟩
set_option maxHeartbeats 400000 in
theorem spec_l04Ask (B : Nat) (wd : Int) (a : Option Addr) (c : Nat) (xs : List Itm) (nm : ByteArray) (w : World) (hca : w.cell? ⟨B, 0, none⟩ = some (.int .i64 wd)) (hcb : w.cell? ⟨B, 1, none⟩ = some (.slice a xs.length c)) (hx : RT w a xs) (hn : itemsSz xs ≤ 1048576) :
    Calls Tryz.prog 93 #[.pointer (some ⟨B, 0, none⟩), .string nm] w fun e w' => e = .returned (.tuple #[.int .i64 (itemNamedI wd xs nm), .int .i64 (itemNamedCode wd xs nm)]) ∧ Below w.heap.size w w' := by
  cases hv : validLayB wd xs
  · have hf := Lib.hid (in_bad nm hv)
    go_enter Tryz.func93, Tryz.ntmps93
    go_wp2_with (go_at_call 86; ((with_reducible refine (spec_l04Ok B wd a c xs _ hca hcb hx hn).mono ?_); rintro e w' ⟨rfl, hb⟩))
    go_ret2
    exact ⟨by rw [hf.out.1, hf.out.2]; rfl, hb⟩
  · go_enter Tryz.func93, Tryz.ntmps93
    go_wp2_with fail
    refine (spec_l04Ok B wd a c xs _ hca hcb hx hn).mono ?_
    rintro e w2 ⟨rfl, hb2⟩
    have hc2 := keep hb2 hcb
    have hf2 := Lib.hid (spec_l04Find B wd a c xs nm w2 hc2 (hx.kept hb2) hn)
    by_cases hneg : findI xs nm < 0
    · have hf := Lib.hid (in_not hv hneg)
      go_wp2_with (go_at_call 62; ((with_reducible refine hf2.out.mono ?_); rintro e w' ⟨rfl, hb⟩))
      go_ret2
      exact ⟨by rw [hf.out.1, hf.out.2]; rfl, bthen hb2 hb⟩
    · have hf := Lib.hid (in_ok hv hneg)
      go_wp2_with (go_at_call 62; ((with_reducible refine hf2.out.mono ?_); rintro e w' ⟨rfl, hb⟩))
      go_ret2
      exact ⟨by rw [hf.out.1, hf.out.2]; rfl, bthen hb2 hb⟩
theorem spec_ItemNamed (wd : Int) (a : Option Addr) (c : Nat) (xs : List Itm) (nm : ByteArray) (w : World) (hx : RT w a xs) (hn : itemsSz xs ≤ 1048576) (hcap : xs.length ≤ c) (hnm : nm.size ≤ 1048576) :
    Calls Tryz.prog 27 #[.agg #[.int .i64 wd, .slice a xs.length c], .string nm] w fun e w' => e = .returned (.tuple #[.int .i64 (itemNamedI wd xs nm), .int .i64 (itemNamedCode wd xs nm)]) ∧ Below w.heap.size w w' := by
  have hb1 := below_alloc (w := w) (.cells #[.int .i64 wd, .slice a xs.length c] 35)
  have hc := Lib.hid (spec_l04Ask w.heap.size wd a c xs nm _ (by simp [go_sem]) (by simp [go_sem]) (hx.kept hb1) hn)
  have hb1' := Lib.hid hb1
  clear hb1
  go_enter Tryz.func27, Tryz.ntmps27
  go_wp2_with (go_at_call 93; ((with_reducible refine hc.out.mono ?_); rintro e w' ⟨rfl, hb⟩))
  go_ret2
  exact ⟨rfl, bthen hb1'.out hb⟩
end Go.Proofs.YtcbjfgjlhjjpiaaGreatDoor
