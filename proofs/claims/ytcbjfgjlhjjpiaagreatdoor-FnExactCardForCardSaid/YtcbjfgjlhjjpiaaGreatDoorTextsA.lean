/- The walks of the laws' own functions on lists of texts that come in: their size, their copy. -/
import Derived.Test.YtcbjfgjlhjjpiaaGreatDoorTexts
import Derived.Deep.RegionHeld3
namespace Go.Proofs.YtcbjfgjlhjjpiaaGreatDoor
open Go.RowKit
set_option maxRecDepth 100000
set_option linter.unusedVariables false
set_option linter.unusedSimpArgs false
set_option linter.unnecessarySimpa false

/-- how many things a list of texts holds: the texts, and their letters -/
def textsSz (ss : List ByteArray) : Nat := ss.length + (ss.map ByteArray.size).sum
def textsUp (ss : List ByteArray) (k : Nat) : Nat := ((ss.take k).map ByteArray.size).sum
theorem textsUp_succ {ss : List ByteArray} {k : Nat} {x : ByteArray} (h : ss[k]? = some x) : textsUp ss (k + 1) = textsUp ss k + x.size := by
  unfold textsUp; rw [List.take_add_one, h]; simp
theorem textsUp_le (ss : List ByteArray) (k : Nat) : textsUp ss k ≤ (ss.map ByteArray.size).sum := by
  have h : (ss.map ByteArray.size).sum = ((ss.take k).map ByteArray.size).sum + ((ss.drop k).map ByteArray.size).sum := by rw [← List.sum_append, ← List.map_append, List.take_append_drop]
  unfold textsUp
  omega
theorem textsUp_all {ss : List ByteArray} {k : Nat} (h : ss.length ≤ k) : textsUp ss k = (ss.map ByteArray.size).sum := by unfold textsUp; rw [List.take_of_length_le h]
theorem textsSz_at {ss : List ByteArray} {k : Nat} {x : ByteArray} (h : ss[k]? = some x) : x.size + ss.length ≤ textsSz ss := by
  have h1 := textsUp_le ss (k + 1)
  rw [textsUp_succ h] at h1
  unfold textsSz; omega
theorem textsSz_len (ss : List ByteArray) : ss.length ≤ textsSz ss := by unfold textsSz; omega
theorem textsSz_mem {us : List ByteArray} {u : ByteArray} (h : u ∈ us) (hm : textsSz us ≤ 1048576) : u.size ≤ 1048576 := by
  obtain ⟨k, hk⟩ := List.getElem?_of_mem h
  have := textsSz_at hk
  omega
set_option maxHeartbeats 1000000 in
theorem laws_szStringS (a : Option Addr) (c : Nat) (ss : List ByteArray) (left : Int) (w : World) (hx : RS w a ss) (h0 : 0 ≤ left) (h1 : left ≤ 1048576) (hn : ss.length ≤ maxLen ∧ ∀ s ∈ ss, s.size ≤ maxLen) :
    Calls Tryz.prog 55 #[.slice a ss.length c, .int .i64 left] w fun e w' => e = .returned (.int .i64 (szI left (textsSz ss))) ∧ Below w.heap.size w w' := by
  obtain ⟨hn, hns⟩ := hn
  unfold maxLen at hn
  have hns' := Lib.hid hns
  clear hns
  have hd := textsSz_len ss
  by_cases hneg : left - (ss.length : Int) < 0
  · have hs := Lib.hid (show szI left (textsSz ss) = -1 by unfold szI; rw [if_pos (by omega)])
    clear hd
    go_enter Tryz.func55, Tryz.ntmps55
    go_wp2_with fail
    go_ret
    exact ⟨ret_int (by rw [hs.out]), Below.refl _ _⟩
  · have hde := Lib.hid (show textsSz ss = ss.length + (ss.map ByteArray.size).sum from rfl)
    generalize hN : ss.length = n at *
    have hN' := Lib.hid hN
    clear hN hd
    go_enter Tryz.func55, Tryz.ntmps55
    go_wp2_with fail
    go_loopw [1, 5] (fun l i wr => ∃ k : Nat, k ≤ n ∧ i = .int .i64 k ∧ Hid ((n : Int) + textsUp ss k ≤ left) ∧ l = .int .i64 (left - n - textsUp ss k) ∧ Below w.heap.size w wr) (fun _ i _ => n - (intOf i).toNat)
    case atStart => exact ⟨0, by omega, rfl, Lib.hid (by simp [textsUp]; omega), by simp [textsUp], Below.refl _ _⟩
    case round =>
      obtain ⟨k, hk, rfl, hle, rfl, hb⟩ := hrel
      by_cases hlt : k < n
      · obtain ⟨x, hxk⟩ := get_some (l := ss) (k := k) (by rw [hN'.out]; exact hlt)
        obtain ⟨b1, o1, rfl, hc1⟩ := (hx.kept hb).at hxk
        have hsucc := Lib.hid (textsUp_succ hxk)
        have hl0 := hle.out
        generalize hL : textsUp ss k = L at *
        have hL' := Lib.hid hL
        have hlm : x.size ≤ maxLen := hns'.out x (List.mem_of_getElem? hxk)
        unfold maxLen at hlm
        clear hxk hL
        by_cases hsm : left - n - L - (x.size : Int) < 0
        · go_wp2_with fail
          first | go_quiet (fail) | skip
          go_wp2_with fail
          go_ret
          have hle2 := textsUp_le ss (k + 1)
          have h3 := hsucc.out
          have h4 := hde.out
          exact ⟨ret_int (by unfold szI; rw [if_pos (by omega)]), by first | exact hb | exact below_drewN hb _⟩
        · have hnn : 0 ≤ left - n - L - (x.size : Int) := by omega
          have hnn2 : left - n - L - (x.size : Int) ≤ 1048576 := by omega
          go_wp2_with fail
          first | go_quiet (fail) | skip
          go_wp2_with fail
          go_roundw
          case rel =>
            have h3 := hsucc.out
            exact ⟨k + 1, by omega, by go_num, Lib.hid (by omega), by rw [h3]; go_num, by first | exact hb | exact below_drewN hb _⟩
          case measure => simp [intOf]; omega
      · go_wp2_with fail
        go_ret
        have h3 := textsUp_all (ss := ss) (k := k) (by rw [hN'.out]; omega)
        have h4 := hde.out
        have h5 := hle.out
        exact ⟨ret_int (by unfold szI; rw [if_neg (by omega)]; omega), hb⟩
theorem laws_szStringS_over (a : Option Addr) (c : Nat) (x : List ByteArray) (left : Int) (w : World) (hx : RS w a x) (h0 : 0 ≤ left) (h1 : left ≤ 1048576) (hn : x.length ≤ maxLen ∧ ∀ s ∈ x, s.size ≤ maxLen) (h : left < (textsSz x : Int)) :
    Calls Tryz.prog 55 #[.slice a x.length c, .int .i64 left] w fun e w' => e = .returned (.int .i64 (-1)) ∧ Below w.heap.size w w' :=
  (laws_szStringS a c x left w hx h0 h1 hn).mono fun e w' h' => ⟨by rw [h'.1]; unfold szI; rw [if_pos (by omega)], h'.2⟩
theorem laws_szStringS_ok (a : Option Addr) (c : Nat) (x : List ByteArray) (left : Int) (w : World) (hx : RS w a x) (h0 : 0 ≤ left) (h1 : left ≤ 1048576) (hn : x.length ≤ maxLen ∧ ∀ s ∈ x, s.size ≤ maxLen) (h : (textsSz x : Int) ≤ left) :
    Calls Tryz.prog 55 #[.slice a x.length c, .int .i64 left] w fun e w' => e = .returned (.int .i64 (left - (textsSz x : Int))) ∧ Below w.heap.size w w' :=
  (laws_szStringS a c x left w hx h0 h1 hn).mono fun e w' h' => ⟨by rw [h'.1]; unfold szI; rw [if_neg (by omega)], h'.2⟩
set_option maxHeartbeats 400000 in
theorem laws_toStringS (a : Option Addr) (c : Nat) (xs : List ByteArray) (w : World) (hx : RS w a xs) (hn : textsSz xs ≤ 1048576) :
    Calls Tryz.prog 56 #[.slice a xs.length c] w fun e w' => ∃ a' c', e = .returned (.slice a' xs.length c') ∧ w'.ownsRow w.heap.size 9 1 (.slice a' xs.length c') xs.length (xs.map Value.string) ∧ Below w.heap.size w w' := by
  obtain ⟨i0, hi, hz0, hz1, hz2⟩ := info_parts Tryz.info_string
  have hdl := textsSz_len xs
  have hn1 : xs.length ≤ 1048576 := by omega
  clear hn hdl
  generalize hN : xs.length = n at *
  have hN' := Lib.hid hN
  clear hN
  have hm := Lib.hid (show n ≤ maxLen by simp [maxLen]; omega)
  go_enter Tryz.func56, Tryz.ntmps56
  go_wp2_with (at_make; refine wpList_make_full _ rfl _ _ 69 rfl w.heap.size 9 i0 (.string ⟨#[]⟩) 1 Tryz.underlying69 hi hz0 hz1 _ _ _ _ n rfl rfl rfl rfl (by rw [hz2]; omega) hm.out (by exact Nat.le_refl _) ?_; intro w1 hown hgrow)
  have hown0 : w1.ownsRow w.heap.size 9 1 (.slice (some ⟨w.heap.size, 0, none⟩) n n) n (fillV (.string ⟨#[]⟩) (xs.map Value.string) 0) := by
    rw [fillV_zero, List.length_map, hN'.out]
    simpa [Value.cells, toList_madeCells_one] using hown
  have hb0 : Below w.heap.size w w1 := (Below.refl _ _).grown hgrow (Nat.le_refl _) (by simp)
  clear hown hgrow
  go_loopw [4] (fun i wr => ∃ k : Nat, k ≤ n ∧ i = .int .i64 k ∧ wr.ownsRow w.heap.size 9 1 (.slice (some ⟨w.heap.size, 0, none⟩) n n) n (fillV (.string ⟨#[]⟩) (xs.map Value.string) k) ∧ Below w.heap.size w wr) (fun i _ => n - (intOf i).toNat)
  case atStart => exact ⟨0, by omega, rfl, hown0, hb0⟩
  case round =>
    obtain ⟨k, hk, rfl, hown, hb⟩ := hrel
    by_cases hlt : k < n
    · obtain ⟨x, hxk⟩ := get_some (l := xs) (k := k) (by rw [hN'.out]; exact hlt)
      obtain ⟨b1, o1, rfl, hc1⟩ := (hx.kept hb).at hxk
      have hc2 := (hown.cellAt k (by omega)).trans (fillV_at _ _ (by rw [List.length_map, hN'.out]; exact hlt))
      have hf2 := hown.frozenAt k
      have hxk' := Lib.hid hxk
      clear hxk
      go_wp2_with fail
      go_roundw
      case rel => exact ⟨k + 1, by omega, by go_num, by rw [← fillV_set _ _ (map_at hxk'.out)]; exact (hown.stored k _).1, hb.setCell (Nat.le_refl _) _⟩
      case measure => simp [intOf]; omega
    · go_wp2_with fail
      go_ret
      exact ⟨_, _, rfl, by rw [fillV_all _ _ (by rw [List.length_map, hN'.out]; omega)] at hown; exact hown, hb⟩
end Go.Proofs.YtcbjfgjlhjjpiaaGreatDoor
