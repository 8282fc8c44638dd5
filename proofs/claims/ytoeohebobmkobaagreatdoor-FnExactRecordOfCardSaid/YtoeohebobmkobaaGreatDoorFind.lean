/- The walks of the functions that find items by their names and free columns: what each returns, and that memory has at most new blocks. -/
import Derived.Test.YtoeohebobmkobaaGreatDoorValid
namespace Go.Proofs.YtoeohebobmkobaaGreatDoor
open Go.RowKit
set_option maxRecDepth 100000
set_option linter.unusedVariables false
set_option linter.unusedSimpArgs false
set_option linter.unnecessarySimpa false

def namedB (nm : ByteArray) (y : Itm) : Bool := decide (y.name = nm)
/-- the place of an item; -1 if there is none -/
def findI (xs : List Itm) (nm : ByteArray) : Int := firstB (namedB nm) xs
theorem named_iff (s t : ByteArray) : (s.toList == t.toList) = decide (s = t) := by
  by_cases h : s = t
  · subst h; simp
  · rw [names_ne h]; simp [h]
def itemNamedI (wd : Int) (xs : List Itm) (nm : ByteArray) : Int := if validLayB wd xs then (if findI xs nm < 0 then 0 else findI xs nm) else 0
def itemNamedCode (wd : Int) (xs : List Itm) (nm : ByteArray) : Int := if validLayB wd xs then (if findI xs nm < 0 then 3 else 0) else 1
theorem in_bad {wd : Int} {xs : List Itm} (nm : ByteArray) (h : validLayB wd xs = false) : itemNamedI wd xs nm = 0 ∧ itemNamedCode wd xs nm = 1 := by unfold itemNamedI itemNamedCode; rw [h]; exact ⟨rfl, rfl⟩
theorem in_not {wd : Int} {xs : List Itm} {nm : ByteArray} (h : validLayB wd xs = true) (h2 : findI xs nm < 0) : itemNamedI wd xs nm = 0 ∧ itemNamedCode wd xs nm = 3 := by unfold itemNamedI itemNamedCode; rw [h]; simp [h2]
theorem in_ok {wd : Int} {xs : List Itm} {nm : ByteArray} (h : validLayB wd xs = true) (h2 : ¬ findI xs nm < 0) : itemNamedI wd xs nm = findI xs nm ∧ itemNamedCode wd xs nm = 0 := by unfold itemNamedI itemNamedCode; rw [h]; simp [h2]
theorem impl_itemIndex_1 (B : Nat) (nm : ByteArray) (y : Itm) (w : World) (hc0 : w.cell? ⟨B, 0, none⟩ = some (.string nm)) :
    Calls Tryz.prog 67 #[.agg #[.string y.name, .int .i64 y.kind, .int .i64 y.fr, .int .i64 y.to], .pointer (some ⟨B, 0, none⟩)] w fun e w' => e = .returned (.bool (namedB nm y)) ∧ Below w.heap.size w w' := by
  obtain ⟨s', k', f', t'⟩ := y
  have hl : B < w.heap.size := World.block_lt_of_cell? _ _ hc0
  have hb1 := Lib.hid (below_alloc (w := w) (.cells #[.string s', .int .i64 k', .int .i64 f', .int .i64 t'] 69))
  have hf := Lib.hid (show (s'.toList == nm.toList) = namedB nm ⟨s', k', f', t'⟩ from named_iff s' nm)
  cases hq : (s'.toList == nm.toList)
  · rw [hq] at hf
    go_enter Tryz.func67, Tryz.ntmps67
    go_wp2_with fail
    go_ret
    exact ⟨ret_bool (by rw [← hf.out]), hb1.out⟩
  · rw [hq] at hf
    go_enter Tryz.func67, Tryz.ntmps67
    go_wp2_with fail
    go_ret
    exact ⟨ret_bool (by rw [← hf.out]), hb1.out⟩
set_option maxHeartbeats 400000 in
theorem impl_itemIndex (wd : Int) (a : Option Addr) (c : Nat) (xs : List Itm) (nm : ByteArray) (w : World) (hx : RT w a xs) (hn : itemsSz xs ≤ 1048576) :
    Calls Tryz.prog 38 #[.agg #[.int .i64 wd, .slice a xs.length c], .string nm] w fun e w' => e = .returned (.int .i64 (findI xs nm)) ∧ Below w.heap.size w w' := by
  have eg := Go.Proofs.enters_of Tryz.func67 (by kernel_rfl) rfl
  have hdl := itemsSz_len xs
  have hb2 := below_alloc2 w (.cells #[.int .i64 wd, .slice a xs.length c] 32) (.cells #[.string nm] 9)
  have hcn : ((w.alloc (.cells #[.int .i64 wd, .slice a xs.length c] 32)).alloc (.cells #[.string nm] 9)).cell? ⟨w.heap.size + 1, 0, none⟩ = some (.string nm) := by simp [go_sem]
  have hc := Lib.hid (slices_IndexFunc_items 67 #[.pointer (some ⟨w.heap.size + 1, 0, none⟩)] (namedB nm) a c xs _ (hx.kept hb2) (by unfold maxLen; omega) eg (fun y hy W hbW => impl_itemIndex_1 (w.heap.size + 1) nm y W (keep hbW hcn)))
  have hb2' := Lib.hid hb2
  clear hb2
  go_enter Tryz.func38, Tryz.ntmps38
  go_wp2_with (go_at_call 66; ((with_reducible refine hc.out.mono ?_); rintro e w' ⟨rfl, hb⟩))
  go_ret
  exact ⟨rfl, bthen hb2'.out hb⟩
set_option maxHeartbeats 400000 in
theorem spec_l04Find (B : Nat) (wd : Int) (a : Option Addr) (c : Nat) (xs : List Itm) (nm : ByteArray) (w : World) (hcb : w.cell? ⟨B, 1, none⟩ = some (.slice a xs.length c)) (hx : RT w a xs) (hn : itemsSz xs ≤ 1048576) :
    Calls Tryz.prog 56 #[.pointer (some ⟨B, 0, none⟩), .string nm] w fun e w' => e = .returned (.int .i64 (findI xs nm)) ∧ Below w.heap.size w w' := by
  have hdl := itemsSz_len xs
  generalize hN : xs.length = n at *
  have hN' := Lib.hid hN
  clear hN
  go_enter Tryz.func56, Tryz.ntmps56
  go_wp2_with fail
  go_loopw [5] (fun i wr => ∃ k : Nat, k ≤ n ∧ i = .int .i64 k ∧ Hid ((xs.take k).all (fun x => !namedB nm x) = true) ∧ Below w.heap.size w wr) (fun i _ => n - (intOf i).toNat)
  case atStart => exact ⟨0, by omega, rfl, Lib.hid rfl, Below.refl _ _⟩
  case round =>
    obtain ⟨k, hk, rfl, hall, hb⟩ := hrel
    have hcbr := keep hb hcb
    by_cases hlt : k < n
    · obtain ⟨x, hxk⟩ := get_some (l := xs) (k := k) (by rw [hN'.out]; exact hlt)
      obtain ⟨b1, o1, rfl, hc0, hc1, hc2, hc3⟩ := (hx.kept hb).at hxk
      have hxk' := Lib.hid hxk
      have hf := Lib.hid (show (x.name.toList == nm.toList) = namedB nm x from named_iff x.name nm)
      clear hxk
      cases hq : (x.name.toList == nm.toList)
      · rw [hq] at hf
        go_wp2_with fail
        go_roundw
        case rel => exact ⟨k + 1, by omega, by go_num, Lib.hid (all_succ hxk'.out hall.out (by rw [← hf.out]; rfl)), hb⟩
        case measure => simp [intOf]; omega
      · rw [hq] at hf
        go_wp2_with fail
        go_ret
        exact ⟨ret_int (firstB_hit hxk'.out hall.out hf.out.symm).symm, hb⟩
    · go_wp2_with fail
      go_ret
      exact ⟨ret_int (firstB_none (by rw [hN'.out]; omega) hall.out).symm, hb⟩
end Go.Proofs.YtoeohebobmkobaaGreatDoor
