/- The walks of the laws' own functions on lists of texts: what each returns, and which rows it writes. -/
import Derived.Test.YtcbjfgjlhjjpiaaGreatDoorSame
import Derived.Test.YtcbjfgjlhjjpiaaGreatDoorData
import Derived.Deep.RegionHeld3
import Derived.Laws.IdiomStrings
namespace Go.Proofs.YtcbjfgjlhjjpiaaGreatDoor
open Go.RowKit
set_option maxRecDepth 100000
set_option linter.unusedVariables false
set_option linter.unusedSimpArgs false
set_option linter.unnecessarySimpa false

theorem Tryz.info_byte : (Tryz.prog.info? 5).map (fun i => (i.zero, i.size, i.bytes)) = some (some (.int .u8 0), 1, 1) := by kernel_rfl
theorem Tryz.info_string : (Tryz.prog.info? 9).map (fun i => (i.zero, i.size, i.bytes)) = some (some (.string ⟨#[]⟩), 1, 16) := by kernel_rfl
/-- a letter of a number -/
def digU (k : Nat) : UInt8 := UInt8.ofNat (48 + k % 10)
theorem digU_is (k : Nat) : ((digU k).toNat : Int) = 48 + (k : Int) % 10 := by
  unfold digU; rw [UInt8.toNat_ofNat', Nat.mod_eq_of_lt (by omega)]; omega
/-- the digits of a number ahead of a text -/
def digS (k : Nat) (s : ByteArray) : ByteArray := if h : k = 0 then s else digS (k / 10) (⟨#[digU k]⟩ ++ s)
termination_by k
decreasing_by omega
theorem digS_zero (s : ByteArray) : digS 0 s = s := by rw [digS]; simp
theorem digS_step {k : Nat} (h : 0 < k) (s : ByteArray) : digS k s = digS (k / 10) (⟨#[digU k]⟩ ++ s) := by rw [digS]; simp [Nat.ne_of_gt h]
/-- the mark k as a text -/
def markS (k : Int) : ByteArray := ⟨#[109]⟩ ++ digS k.toNat ⟨#[]⟩
set_option maxHeartbeats 400000 in
theorem laws_markText (k : Int) (w : World) (h0 : 1 ≤ k) (h1 : k ≤ 33554432) :
    Calls Tryz.prog 121 #[.int .i64 k] w fun e w' => e = .returned (.string (markS k)) ∧ Below w.heap.size w w' := by
  obtain ⟨n, rfl⟩ := Int.eq_ofNat_of_zero_le (show 0 ≤ k by omega)
  have hf := Lib.hid (show markS (n : Int) = ⟨#[109]⟩ ++ digS n ⟨#[]⟩ from rfl)
  go_enter Tryz.func121, Tryz.ntmps121
  go_wp2_with fail
  go_loopw [0, 3] (fun p q wr => ∃ (j : Nat) (s : ByteArray), p = .int .i64 j ∧ q = .string s ∧ s.size + j ≤ n ∧ Hid (digS j s = digS n ⟨#[]⟩) ∧ Below w.heap.size w wr) (fun p _ _ => (intOf p).toNat)
  case atStart => exact ⟨n, _, rfl, rfl, by show (0 : Nat) + n ≤ n; omega, Lib.hid rfl, Below.refl _ _⟩
  case round =>
    obtain ⟨j, s, rfl, rfl, hsz, hd, hb⟩ := hrel
    by_cases hj : 0 < j
    · have hst := Lib.hid (digS_step hj s)
      have hrow : RB (wr.alloc (.cells #[.int .u8 (48 + (j : Int) % 10)] 5)) (some ⟨wr.heap.size, 0, none⟩) [digU j] := by
        intro i v hi
        match i with
        | 0 => 
          simp only [List.map_cons, List.getElem?_cons_zero, Option.some.injEq] at hi
          subst hi
          exact ⟨_, _, rfl, by simp [go_sem, byteV, digU_is]⟩
        | i + 1 => simp at hi
      have hcv := run_text (P := Tryz.prog) _ 43 9 5 _ 1 [digU j] Tryz.underlying43 Tryz.underlying5 Tryz.underlying9 (by simp) hrow
      simp only [List.length_singleton] at hcv
      have hs1 : (⟨#[digU j]⟩ : ByteArray).size = 1 := rfl
      clear hrow
      go_wp2_with fail
      go_roundw
      case rel => exact ⟨j / 10, _, by go_num, rfl, by rw [ByteArray.size_append', hs1]; omega, Lib.hid (by rw [← hst.out]; exact hd.out), hb.alloc hb.size _⟩
      case measure => simp [intOf]; omega
    · go_wp2_with fail
      go_ret
      obtain rfl : j = 0 := by omega
      exact ⟨by rw [hf.out, ← hd.out, digS_zero]; rfl, hb⟩
def marksS (k : Int) (n : Nat) : List ByteArray := (List.range n).map fun (j : Nat) => markS (k + (j : Int))
theorem marksS_length (k : Int) (n : Nat) : (marksS k n).length = n := by simp [marksS]
theorem marksS_at (k : Int) {n j : Nat} (h : j < n) : (marksS k n)[j]? = some (markS (k + j)) := by simp [marksS, h]
def markUpS (k : Int) (ss : List ByteArray) (j : Nat) : List ByteArray := marksS k j ++ ss.drop j
theorem markUpS_zero (k : Int) (ss : List ByteArray) : markUpS k ss 0 = ss := by simp [markUpS, marksS]
theorem markUpS_all (k : Int) (ss : List ByteArray) {j : Nat} (h : j = ss.length) : markUpS k ss j = marksS k ss.length := by subst h; simp [markUpS]
theorem markUpS_set (k : Int) (ss : List ByteArray) {j : Nat} (h : j < ss.length) : ((markUpS k ss j).map Value.string).set j (.string (markS (k + j))) = (markUpS k ss (j + 1)).map Value.string := by
  have h1 : (marksS k j).length = j := marksS_length k j
  rw [markUpS, markUpS, List.map_append, List.set_append_right _ _ (by simp [h1]), List.length_map, h1, Nat.sub_self, List.drop_eq_getElem_cons h, List.map_cons, List.set_cons_zero]
  simp [marksS, List.range_succ]
theorem markUpS_at (k : Int) (ss : List ByteArray) {j : Nat} (h : j < ss.length) : ∃ v, ((markUpS k ss j).map Value.string)[j]? = some v := by
  have h1 : (marksS k j).length = j := marksS_length k j
  exact get_some (by simp [markUpS, h1]; omega)
set_option maxHeartbeats 400000 in
theorem laws_markStringS (lo hi : Nat) (a : Option Addr) (c : Nat) (ss : List ByteArray) (k : Int) (w : World) (h : OS lo hi w 9 a c ss) (h0 : 1 ≤ k) (h1 : k ≤ 16777216) (hn : ss.length ≤ 1048576) (hhi : hi ≤ w.heap.size) :
    Calls Tryz.prog 58 #[.slice a ss.length c, .int .i64 k] w fun e w' => e = .returned (.int .i64 (k + (ss.length : Int))) ∧ Within lo hi w w' ∧ OS lo hi w' 9 a c (marksS k ss.length) := by
  generalize hN : ss.length = n at *
  have hN' := Lib.hid hN
  clear hN
  have h' : OV lo hi w 9 1 a n c ((markUpS k ss 0).map Value.string) := by rw [markUpS_zero, ← hN'.out]; exact h
  go_enter Tryz.func58, Tryz.ntmps58
  go_wp2_with fail
  go_loopw [1, 5] (fun q i wr => ∃ j : Nat, j ≤ n ∧ i = .int .i64 j ∧ q = .int .i64 (k + j) ∧ OV lo hi wr 9 1 a n c ((markUpS k ss j).map Value.string) ∧ Within lo hi w wr ∧ hi ≤ wr.heap.size) (fun _ i _ => n - (intOf i).toNat)
  case atStart => exact ⟨0, by omega, rfl, by simp, h', Within.refl _ _ _, hhi⟩
  case round =>
    obtain ⟨j, hj, rfl, rfl, ho, hw, hh⟩ := hrel
    by_cases hlt : j < n
    · obtain ⟨g, rfl, hg1, hg2⟩ := ho.addr (by omega)
      obtain ⟨x, hx⟩ := markUpS_at k ss (j := j) (by rw [hN'.out]; exact hlt)
      have hm := Lib.hid (laws_markText (k + j) wr (by omega) (by omega))
      go_wp2_with fail
      refine hm.out.mono ?_
      rintro e w2 ⟨rfl, hb2⟩
      have ho2 := ho.kept hb2
      have hc2 := (ho2.1.cellAt j (by omega)).trans hx
      have hf2 := ho2.1.frozenAt j
      have hx' := Lib.hid hx
      have hw2 := Lib.hid (hw.trans (Within.of_below hb2))
      have hh2 := hb2.size
      have ho3 := Lib.hid ho2
      clear hx hb2 ho2 ho
      go_wp2_with fail
      all_goals
        go_roundw
        case rel => exact ⟨j + 1, by omega, by go_num, by go_num, by rw [← markUpS_set _ _ (by rw [hN'.out]; exact hlt)]; exact ho3.out.store j _, hw2.out.setCell hg1 hg2 _, by simp only [World.size_setCell]; omega⟩
        case measure => simp [intOf]; omega
    · go_wp2_with fail
      go_ret
      have e : j = n := by omega
      subst e
      exact ⟨rfl, hw, by rw [markUpS_all _ _ hN'.out.symm, hN'.out] at ho; unfold OS; rw [marksS_length]; exact ho⟩
set_option maxHeartbeats 400000 in
theorem laws_eqStringS_same (a b : Option Addr) (ca cb : Nat) (ss : List ByteArray) (w : World) (hx : RS w a ss) (hy : RS w b ss) (h1 : ss.length ≤ maxLen) :
    Calls Tryz.prog 57 #[.slice a ss.length ca, .slice b ss.length cb] w fun e w' => e = .returned (.bool true) ∧ Below w.heap.size w w' := by
  unfold maxLen at h1
  generalize hN : ss.length = n at *
  have hN' := Lib.hid hN
  clear hN
  go_enter Tryz.func57, Tryz.ntmps57
  go_wp2_with fail
  go_loopw [5] (fun i wr => ∃ k : Nat, k ≤ n ∧ i = .int .i64 k ∧ Below w.heap.size w wr) (fun i _ => n - (intOf i).toNat)
  case atStart => exact ⟨0, by omega, rfl, Below.refl _ _⟩
  case round =>
    obtain ⟨k, hk, rfl, hb⟩ := hrel
    by_cases hlt : k < n
    · obtain ⟨x, hxk⟩ := get_some (l := ss) (k := k) (by rw [hN'.out]; exact hlt)
      obtain ⟨b1, o1, rfl, hc1⟩ := (hx.kept hb).at hxk
      obtain ⟨b2, o2, rfl, hc2⟩ := (hy.kept hb).at hxk
      clear hxk
      go_wp2_with fail
      first | go_quiet (fail) | fail
      go_wp2_with fail
      all_goals
        go_roundw
        case rel => exact ⟨k + 1, by omega, by go_num, below_drewN hb _⟩
        case measure => simp [intOf]; omega
    · go_wp2_with fail
      go_ret
      exact ⟨rfl, hb⟩
end Go.Proofs.YtcbjfgjlhjjpiaaGreatDoor
