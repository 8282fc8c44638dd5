/- The walks of the laws' own functions on lists of texts: what each returns, and which rows it writes. -/
import Derived.Test.YtcbjfgjlhjjpiaaDoorSame
import Derived.Test.YtcbjfgjlhjjpiaaDoorData
import Derived.Deep.RegionHeld3
import Derived.Laws.IdiomStrings
namespace Go.Proofs.YtcbjfgjlhjjpiaaDoor
open Go.RowKit
set_option maxRecDepth 100000
set_option linter.unusedVariables false
set_option linter.unusedSimpArgs false
set_option linter.unnecessarySimpa false

theorem Tryd.info_byte : (Tryd.prog.info? 5).map (fun i => (i.zero, i.size, i.bytes)) = some (some (.int .u8 0), 1, 1) := by kernel_rfl
theorem Tryd.info_string : (Tryd.prog.info? 9).map (fun i => (i.zero, i.size, i.bytes)) = some (some (.string ⟨#[]⟩), 1, 16) := by kernel_rfl
/-- a letter of a number -/
def digU (k : Nat) : UInt8 := UInt8.ofNat (48 + k % 10)
theorem digU_is (k : Nat) : ((digU k).toNat : Int) = 48 + (k : Int) % 10 := by
  unfold digU; rw [UInt8.toNat_ofNat', Nat.mod_eq_of_lt (by omega)]; omega
/-- the digits of a number ahead of a text -/
def digS (k : Nat) (s : ByteArray) : ByteArray := if h : k = 0 then s else digS (k / 10) (⟨#[digU k]⟩ ++ s)
termination_by k
decreasing_by omega
theorem digS_zero (s : ByteArray) : digS 0 s = s := by rw [digS]; simp
theorem digS_step {k : Nat} (h : 0 < k) (s : ByteArray) : digS k s = digS (k / 10) (⟨#[digU k]⟩ ++ s) := by rw [digS]; simp [Nat.ne_of_gt h]
/-- the mark k as a text -/
def markS (k : Int) : ByteArray := ⟨#[109]⟩ ++ digS k.toNat ⟨#[]⟩
set_option maxHeartbeats 400000 in
theorem laws_markText (k : Int) (w : World) (h0 : 1 ≤ k) (h1 : k ≤ 33554432) :
    Calls Tryd.prog 94 #[.int .i64 k] w fun e w' => e = .returned (.string (markS k)) ∧ Below w.heap.size w w' := by
  obtain ⟨n, rfl⟩ := Int.eq_ofNat_of_zero_le (show 0 ≤ k by omega)
  have hf := Lib.hid (show markS (n : Int) = ⟨#[109]⟩ ++ digS n ⟨#[]⟩ from rfl)
  go_enter Tryd.func94, Tryd.ntmps94
  go_wp2_with fail
  go_loopw [0, 3] (fun p q wr => ∃ (j : Nat) (s : ByteArray), p = .int .i64 j ∧ q = .string s ∧ s.size + j ≤ n ∧ Hid (digS j s = digS n ⟨#[]⟩) ∧ Below w.heap.size w wr) (fun p _ _ => (intOf p).toNat)
  case atStart => exact ⟨n, _, rfl, rfl, by show (0 : Nat) + n ≤ n; omega, Lib.hid rfl, Below.refl _ _⟩
  case round =>
    obtain ⟨j, s, rfl, rfl, hsz, hd, hb⟩ := hrel
    by_cases hj : 0 < j
    · have hst := Lib.hid (digS_step hj s)
      have hrow : RB (wr.alloc (.cells #[.int .u8 (48 + (j : Int) % 10)] 5)) (some ⟨wr.heap.size, 0, none⟩) [digU j] := by
        intro i v hi
        match i with
        | 0 => 
          simp only [List.map_cons, List.getElem?_cons_zero, Option.some.injEq] at hi
          subst hi
          exact ⟨_, _, rfl, by simp [go_sem, byteV, digU_is]⟩
        | i + 1 => simp at hi
      have hcv := run_text (P := Tryd.prog) _ 24 9 5 _ 1 [digU j] Tryd.underlying24 Tryd.underlying5 Tryd.underlying9 (by simp) hrow
      simp only [List.length_singleton] at hcv
      have hs1 : (⟨#[digU j]⟩ : ByteArray).size = 1 := rfl
      clear hrow
      go_wp2_with fail
      go_roundw
      case rel => exact ⟨j / 10, _, by go_num, rfl, by rw [ByteArray.size_append', hs1]; omega, Lib.hid (by rw [← hst.out]; exact hd.out), hb.alloc hb.size _⟩
      case measure => simp [intOf]; omega
    · go_wp2_with fail
      go_ret
      obtain rfl : j = 0 := by omega
      exact ⟨by rw [hf.out, ← hd.out, digS_zero]; rfl, hb⟩
def marksS (k : Int) (n : Nat) : List ByteArray := (List.range n).map fun (j : Nat) => markS (k + (j : Int))
theorem marksS_length (k : Int) (n : Nat) : (marksS k n).length = n := by simp [marksS]
theorem marksS_at (k : Int) {n j : Nat} (h : j < n) : (marksS k n)[j]? = some (markS (k + j)) := by simp [marksS, h]
def markUpS (k : Int) (ss : List ByteArray) (j : Nat) : List ByteArray := marksS k j ++ ss.drop j
theorem markUpS_zero (k : Int) (ss : List ByteArray) : markUpS k ss 0 = ss := by simp [markUpS, marksS]
theorem markUpS_all (k : Int) (ss : List ByteArray) {j : Nat} (h : j = ss.length) : markUpS k ss j = marksS k ss.length := by subst h; simp [markUpS]
theorem markUpS_set (k : Int) (ss : List ByteArray) {j : Nat} (h : j < ss.length) : ((markUpS k ss j).map Value.string).set j (.string (markS (k + j))) = (markUpS k ss (j + 1)).map Value.string := by
  have h1 : (marksS k j).length = j := marksS_length k j
  rw [markUpS, markUpS, List.map_append, List.set_append_right _ _ (by simp [h1]), List.length_map, h1, Nat.sub_self, List.drop_eq_getElem_cons h, List.map_cons, List.set_cons_zero]
  simp [marksS, List.range_succ]
theorem markUpS_at (k : Int) (ss : List ByteArray) {j : Nat} (h : j < ss.length) : ∃ v, ((markUpS k ss j).map Value.string)[j]? = some v := by
  have h1 : (marksS k j).length = j := marksS_length k j
  exact get_some (by simp [markUpS, h1]; omega)
end Go.Proofs.YtcbjfgjlhjjpiaaDoor
