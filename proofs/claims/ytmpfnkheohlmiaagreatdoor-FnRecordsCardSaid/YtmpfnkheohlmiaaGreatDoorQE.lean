/- The walks of the functions on cards: valid cards, blank cards. What each returns, and that memory has at most new blocks. The walks of the functions that copy columns and cards into memory of their own. The walks of the functions on single holes: what each returns, and that memory has at most new blocks. The walks of the function that lays a card over another, in both packages: what it returns, and that memory has at most new blocks. -/
import Derived.Test.YtmpfnkheohlmiaaGreatDoorQC
import Derived.Shelf.Abstract
import Derived.Laws.AppendOwnNone
import Derived.Test.YtmpfnkheohlmiaaGreatDoorQD
import Derived.Deep.RegionWith
import Derived.Deep.RegionHeld3
namespace Go.Proofs.YtmpfnkheohlmiaaGreatDoor
open Go.RowKit
set_option maxRecDepth 100000
set_option linter.unusedVariables false
set_option linter.unusedSimpArgs false
set_option linter.unnecessarySimpa false

/-- a column's number lies in 0..4095 -/
def maskB (m : Int) : Bool := inB m 0 4095
def validCardL (xs : List Int) : Bool := inB xs.length 1 20 && xs.all maskB
theorem validCard_not {xs : List Int} {k : Nat} {x : Int} (h : xs[k]? = some x) (hx : maskB x = false) : validCardL xs = false := by
  unfold validCardL; rw [all_not h hx]; simp
theorem validCard_end {xs : List Int} {k : Nat} (h : xs.length ≤ k) (hk : (xs.take k).all maskB = true) : validCardL xs = inB xs.length 1 20 := by
  unfold validCardL; rw [all_take h hk]; simp
theorem validCard_len {xs : List Int} (h : validCardL xs = true) : 1 ≤ xs.length ∧ xs.length ≤ 20 := by
  unfold validCardL at h; simp only [Bool.and_eq_true, inB_true] at h; omega
theorem validCard_out {xs : List Int} (h : inB xs.length 1 20 = false) : validCardL xs = false := by unfold validCardL; rw [h]; rfl
theorem validCard_any {xs : List Int} (h : inB xs.length 1 20 = true) : validCardL xs = !(xs.any fun m => !maskB m) := by
  unfold validCardL; rw [h, List.not_any_eq_all_not]; simp

set_option maxHeartbeats 400000 in
theorem slices_IndexFunc_ints (g : Nat) (lb : Array Value) (p : Int → Bool) (a : Option Addr) (c : Nat) (xs : List Int) (w : World) (hx : RI w a xs) (hn : xs.length ≤ maxLen)
    (eg : ∀ args w, (callFunc g args).run Tryz.prog w = .ok (.enter g args) w)
    (hg : ∀ x W, Below w.heap.size w W → Calls Tryz.prog g (#[.int .i64 x] ++ lb) W fun e w' => e = .returned (.bool (p x)) ∧ Below W.heap.size W w') :
    Calls Tryz.prog 124 #[.slice a xs.length c, .func (.func g) #[] lb] w fun e w' => e = .returned (.int .i64 (firstB p xs)) ∧ Below w.heap.size w w' := by
  unfold maxLen at hn
  generalize hN : xs.length = n at *
  have hN' := Lib.hid hN
  clear hN
  have HG := Lib.hid hg
  clear hg
  go_enter Tryz.func124, Tryz.ntmps124
  go_wp2_with fail
  go_loopw [8] (fun i wr => ∃ k : Nat, k ≤ n ∧ i = .int .i64 k ∧ Hid ((xs.take k).all (fun x => !p x) = true) ∧ Below w.heap.size w wr) (fun i _ => n - (intOf i).toNat)
  case atStart => exact ⟨0, by omega, rfl, by simp [Hid], Below.refl _ _⟩
  case round =>
    obtain ⟨k, hk, rfl, hall, hb⟩ := hrel
    by_cases hlt : k < n
    · obtain ⟨x, hxk⟩ := get_some (l := xs) (k := k) (by rw [hN'.out]; exact hlt)
      obtain ⟨b1, o1, rfl, hc1⟩ := (hx.kept hb).at hxk
      have hxk' := Lib.hid hxk
      clear hxk
      go_wp2_with fail
      refine (HG.out x _ hb).mono ?_
      rintro e w' ⟨rfl, hb'⟩
      have hb2 := bthen hb hb'
      clear hb'
      go_wp2_with fail
      · go_ret
        exact ⟨ret_int (firstB_hit hxk'.out hall.out (by assumption)).symm, hb2⟩
      · go_roundw
        case rel => exact ⟨k + 1, by omega, by go_num, all_succ hxk'.out hall.out (by simp_all), hb2⟩
        case measure => simp [intOf]; omega
    · go_wp2_with fail
      go_ret
      exact ⟨ret_int (firstB_none (by rw [hN'.out]; omega) hall.out).symm, hb⟩
theorem slices_ContainsFunc_ints (g : Nat) (lb : Array Value) (p : Int → Bool) (a : Option Addr) (c : Nat) (xs : List Int) (w : World) (hx : RI w a xs) (hn : xs.length ≤ maxLen)
    (eg : ∀ args w, (callFunc g args).run Tryz.prog w = .ok (.enter g args) w)
    (hg : ∀ x W, Below w.heap.size w W → Calls Tryz.prog g (#[.int .i64 x] ++ lb) W fun e w' => e = .returned (.bool (p x)) ∧ Below W.heap.size W w') :
    Calls Tryz.prog 90 #[.slice a xs.length c, .func (.func g) #[] lb] w fun e w' => e = .returned (.bool (xs.any p)) ∧ Below w.heap.size w w' := by
  have hc := Lib.hid (slices_IndexFunc_ints g lb p a c xs w hx hn eg hg)
  have hp := Lib.hid (firstB_ge p xs).2.2
  clear hg eg
  go_enter Tryz.func90, Tryz.ntmps90
  go_wp2_with (go_at_call 124; ((with_reducible refine hc.out.mono ?_); rintro e w' ⟨rfl, hb⟩))
  go_ret
  exact ⟨ret_bool (by rw [← hp.out]), hb⟩
theorem impl_size_ints (a : Option Addr) (c n : Nat) (w : World) : Calls Tryz.prog 123 #[.slice a n c] w fun e w' => e = .returned (.int .i64 n) ∧ w = w' := by
  go_enter Tryz.func123, Tryz.ntmps123
  go_wp2
  go_ret
  exact ⟨rfl, rfl⟩
theorem impl_columns (a : Option Addr) (c n : Nat) (w : World) : Calls Tryz.prog 89 #[.agg #[.slice a n c]] w fun e w' => e = .returned (.int .i64 n) ∧ Below w.heap.size w w' := by
  go_enter Tryz.func89, Tryz.ntmps89
  go_wp2_with (go_at_call 123; ((with_reducible refine (impl_size_ints _ _ _ _).mono ?_); rintro e w' ⟨rfl, rfl⟩))
  go_ret
  exact ⟨rfl, below_alloc _⟩
theorem impl_ValidCard_1 (x : Int) (w : World) : Calls Tryz.prog 91 #[.int .i64 x] w fun e w' => e = .returned (.bool (!maskB x)) ∧ w = w' := by
  go_enter Tryz.func91, Tryz.ntmps91
  go_wp2_with (go_at_call 62; ((with_reducible refine (impl_inside _ _ _ _).mono ?_); rintro e w' ⟨rfl, rfl⟩))
  go_ret
  exact ⟨rfl, rfl⟩
set_option maxHeartbeats 400000 in
theorem impl_ValidCard (a : Option Addr) (c : Nat) (xs : List Int) (w : World) (hx : RI w a xs) (hn : xs.length ≤ maxLen) :
    Calls Tryz.prog 40 #[.agg #[.slice a xs.length c]] w fun e w' => e = .returned (.bool (validCardL xs)) ∧ Below w.heap.size w w' := by
  have eg := Go.Proofs.enters_of Tryz.func91 (by kernel_rfl) rfl
  have hb1 := below_alloc (w := w) (.cells #[.slice a xs.length c] 32)
  cases hr : inB xs.length 1 20
  · have hf := Lib.hid (validCard_out hr)
    go_enter Tryz.func40, Tryz.ntmps40
    go_wp2_with (first | (go_at_call 89; ((with_reducible refine (impl_columns _ _ _ _).mono ?_); rintro e w' ⟨rfl, hb⟩)) | (go_at_call 62; ((with_reducible refine (impl_inside _ _ _ _).mono ?_); rintro e w' ⟨rfl, rfl⟩)))
    go_ret
    exact ⟨ret_bool (by rw [hf.out]), bthen hb1 hb⟩
  · have hv := Lib.hid (validCard_any hr)
    have hb1' := Lib.hid hb1
    clear hb1
    go_enter Tryz.func40, Tryz.ntmps40
    go_wp2_with fail
    refine (impl_columns _ _ _ _).mono ?_
    rintro e w2 ⟨rfl, hb⟩
    have hc2 : w2.cell? ⟨w.heap.size, 0, none⟩ = some (.slice a xs.length c) := keep hb (by simp [go_sem])
    have hb2 := bthen hb1'.out hb
    have hc := Lib.hid (slices_ContainsFunc_ints 91 #[] (fun m => !maskB m) a c xs w2 (hx.kept hb2) hn eg (fun x W hb => (impl_ValidCard_1 x W).mono fun _ _ h => ⟨h.1, by rw [← h.2]; exact Below.refl _ _⟩))
    have hb2' := Lib.hid hb2
    clear hb hb2
    go_wp2_with (first | (go_at_call 62; ((with_reducible refine (impl_inside _ _ _ _).mono ?_); rintro e w' ⟨rfl, rfl⟩)) | (go_at_call 90; ((with_reducible refine hc.out.mono ?_); rintro e w' ⟨rfl, hb⟩)))
    go_ret
    exact ⟨ret_bool (by rw [hv.out]), bthen hb2'.out hb⟩
set_option maxHeartbeats 400000 in
theorem spec_l02Ok_at (b o : Nat) (a : Option Addr) (c : Nat) (xs : List Int) (w : World) (hp : w.cell? ⟨b, o, none⟩ = some (.slice a xs.length c)) (hx : RI w a xs) (hn : xs.length ≤ maxLen) :
    Calls Tryz.prog 96 #[.pointer (some ⟨b, o, none⟩)] w fun e w' => e = .returned (.bool (validCardL xs)) ∧ w = w' := by
  unfold maxLen at hn
  generalize hN : xs.length = n at *
  have hN' := Lib.hid hN
  clear hN
  go_enter Tryz.func96, Tryz.ntmps96
  go_wp2_with fail
  go_loop [3] (fun i => ∃ k : Nat, k ≤ n ∧ i = .int .i64 k ∧ Hid ((xs.take k).all maskB = true)) (fun i => n - (intOf i).toNat)
  case atStart => exact ⟨0, by omega, rfl, by simp [Hid]⟩
  case round =>
    obtain ⟨k, hk, rfl, hall⟩ := hrel
    by_cases hlt : k < n
    · obtain ⟨x, hxk⟩ := get_some (l := xs) (k := k) (by rw [hN'.out]; exact hlt)
      obtain ⟨b1, o1, rfl, hc1⟩ := hx.at hxk
      have hxk' := Lib.hid hxk
      clear hxk
      go_wp2_with (go_at_call 82; ((with_reducible refine (spec_l00In _ _ _ _).mono ?_); rintro e w' ⟨rfl, rfl⟩))
      all_goals first
        | (go_round
           case rel => exact ⟨k + 1, by omega, by go_num, all_succ hxk'.out hall.out (by simp_all [maskB])⟩
           case measure => simp [intOf]; omega)
        | (go_ret; exact ⟨ret_bool (by rw [validCard_not hxk'.out (by simp_all [maskB])]), rfl⟩)
    · go_wp2_with (go_at_call 82; ((with_reducible refine (spec_l00In _ _ _ _).mono ?_); rintro e w' ⟨rfl, rfl⟩))
      go_ret
      exact ⟨ret_bool (by rw [validCard_end (by rw [hN'.out]; omega) hall.out, hN'.out]), rfl⟩
theorem spec_l02Ok (b : Nat) (a : Option Addr) (c : Nat) (xs : List Int) (w : World) (hp : w.cell? ⟨b, 0, none⟩ = some (.slice a xs.length c)) (hx : RI w a xs) (hn : xs.length ≤ maxLen) :
    Calls Tryz.prog 96 #[.pointer (some ⟨b, 0, none⟩)] w fun e w' => e = .returned (.bool (validCardL xs)) ∧ w = w' := spec_l02Ok_at b 0 a c xs w hp hx hn
theorem impl_blank (n : Nat) (w : World) (hn : n ≤ 1048576) :
    Calls Tryz.prog 32 #[.int .i64 n] w fun e w' => ∃ a' c', e = .returned (.agg #[.slice a' n c']) ∧ w'.ownsRow w.heap.size 2 1 (.slice a' n c') n ((zerosL n).map (Value.int .i64)) ∧ Below w.heap.size w w' := by
  obtain ⟨i0, hi, hz0, hz1, hz2⟩ := info_parts Tryz.info_int64
  have hm := Lib.hid (show n ≤ maxLen by simp [maxLen]; omega)
  go_enter Tryz.func32, Tryz.ntmps32
  go_wp2_with (at_make; refine wpList_make_full _ rfl _ _ 30 rfl (w.heap.size + 1) 2 i0 (.int .i64 0) 1 Tryz.underlying30 hi hz0 hz1 _ _ _ _ n rfl rfl rfl rfl (by rw [hz2]; omega) hm.out (by simp) ?_; intro w1 hown hgrow; have hb1 := below_grown hgrow; have hc1 := keep (p := ⟨w.heap.size, 0, none⟩) (v := .slice none 0 0) hb1 (by simp [go_sem]); have hf1 := keepf (p := ⟨w.heap.size, 0, none⟩) (v := .slice none 0 0) hb1 (by simp [go_sem]) (by simp [go_sem]); have hl1 := World.block_lt_of_cell? _ _ hc1; have hown' := Lib.hid hown; have hb1' := Lib.hid hb1; clear hown hgrow hb1)
  refine bodyPost_ret (v := .agg #[.slice (some ⟨w.heap.size + 1, 0, none⟩) n n]) (by simp [results, Tryz.results32, go_sem, hc1]) rfl ⟨_, _, rfl, ?_, ?_⟩
  · have ho : w1.ownsRow (w.heap.size + 1) 2 1 (.slice (some ⟨w.heap.size + 1, 0, none⟩) n n) n ((zerosL n).map (Value.int .i64)) := by
      rw [zerosL_vals]; simpa [Value.cells, toList_madeCells_one] using hown'.out
    refine own_mono (B' := w.heap.size + 1) (ownsRow_setCell_below ho ?_ _) (by omega)
    simp
  · exact (bthen (below_alloc _) hb1'.out).setCell (by simp) _
/-- a blank card's columns -/
def blankL (r : Int) : List Int := if inB r 1 20 then zerosL r.toNat else []
def blankCode (r : Int) : Int := if inB r 1 20 then 0 else 2
theorem blankL_len (r : Int) : (blankL r).length ≤ 1048576 := by
  unfold blankL
  cases h : inB r 1 20
  · simp
  · have := inB_true.1 h
    simp only [if_true]; rw [zerosL_length]; omega

end Go.Proofs.YtmpfnkheohlmiaaGreatDoor
namespace Go.Proofs.YtmpfnkheohlmiaaGreatDoor
open Go.RowKit
set_option maxRecDepth 100000
set_option linter.unusedVariables false
set_option linter.unusedSimpArgs false
set_option linter.unnecessarySimpa false

set_option maxHeartbeats 400000 in
theorem impl_copyInts (a : Option Addr) (c : Nat) (xs : List Int) (w : World) (hx : RI w a xs) (hn : xs.length ≤ 1048576) :
    Calls Tryz.prog 116 #[.slice a xs.length c] w fun e w' => ∃ a' c', e = .returned (.slice a' xs.length c') ∧ w'.ownsRow w.heap.size 2 1 (.slice a' xs.length c') xs.length (xs.map (Value.int .i64)) ∧ Below w.heap.size w w' := by
  obtain ⟨i0, hi, hz0, hz1, hz2⟩ := info_parts Tryz.info_int64
  have hb1 := below_alloc (w := w) (.cells #[] 2)
  have hown0 := World.ownsRow_lit (base := w.heap.size) (e := 2) (size := 1) w #[] 0 (Nat.le_refl _) (by simp [maxLen]) rfl
  cases a with
  | none =>
    obtain rfl := hx.none
    go_enter Tryz.func116, Tryz.ntmps116
    go_wp2_with fail
    go_ret
    exact ⟨_, _, rfl, hown0, hb1⟩
  | some ad =>
    have hnews := Lib.hid (Row.add (hx.kept hb1))
    have hm := Lib.hid (small hn)
    go_enter Tryz.func116, Tryz.ntmps116
    go_wp2_with (at_builtin; refine wpList_append_own _ rfl _ _ 30 rfl w.heap.size 2 i0 (.int .i64 0) 1 8 Tryz.underlying30 hi hz0 hz1 hz2 rfl (by decide) _ 0 [] rfl hown0 ad xs.length c (xs.map (Value.int .i64)) rfl (by simp) hnews.out (ints_one xs) (by rw [Nat.zero_add]; exact hm.out) (by omega) (by simp) ?_; intro v' w2 hown2 hgrow2 _; obtain ⟨a2, c2, hv2, _, _⟩ := own_slice hown2; subst hv2; have hown3 := Lib.hid hown2; have hgrow3 := Lib.hid hgrow2; clear hown2 hgrow2)
    go_ret
    refine ⟨a2, c2, ?_, ?_, ?_⟩
    · simp
    · simpa using hown3.out
    · exact hb1.grown hgrow3.out (by simp) (fun k hk => by cases hk; exact Nat.le_refl _)
set_option maxHeartbeats 400000 in
theorem spec_l00Own (a : Option Addr) (c : Nat) (xs : List Int) (w : World) (hx : RI w a xs) (hn : xs.length ≤ 1048576) :
    Calls Tryz.prog 109 #[.slice a xs.length c] w fun e w' => ∃ a' c', e = .returned (.slice a' xs.length c') ∧ w'.ownsRow w.heap.size 2 1 (.slice a' xs.length c') xs.length (xs.map (Value.int .i64)) ∧ Below w.heap.size w w' := by
  obtain ⟨i0, hi, hz0, hz1, hz2⟩ := info_parts Tryz.info_int64
  have hb1 := below_alloc (w := w) (.cells #[] 2)
  have hown0 := World.ownsRow_lit (base := w.heap.size) (e := 2) (size := 1) w #[] 0 (Nat.le_refl _) (by simp [maxLen]) rfl
  cases a with
  | none =>
    obtain rfl := hx.none
    go_enter Tryz.func109, Tryz.ntmps109
    go_wp2_with fail
    go_ret
    exact ⟨_, _, rfl, hown0, hb1⟩
  | some ad =>
    have hnews := Lib.hid (Row.add (hx.kept hb1))
    have hm := Lib.hid (small hn)
    go_enter Tryz.func109, Tryz.ntmps109
    go_wp2_with (at_builtin; refine wpList_append_own _ rfl _ _ 30 rfl w.heap.size 2 i0 (.int .i64 0) 1 8 Tryz.underlying30 hi hz0 hz1 hz2 rfl (by decide) _ 0 [] rfl hown0 ad xs.length c (xs.map (Value.int .i64)) rfl (by simp) hnews.out (ints_one xs) (by rw [Nat.zero_add]; exact hm.out) (by omega) (by simp) ?_; intro v' w2 hown2 hgrow2 _; obtain ⟨a2, c2, hv2, _, _⟩ := own_slice hown2; subst hv2; have hown3 := Lib.hid hown2; have hgrow3 := Lib.hid hgrow2; clear hown2 hgrow2)
    go_ret
    refine ⟨a2, c2, ?_, ?_, ?_⟩
    · simp
    · simpa using hown3.out
    · exact hb1.grown hgrow3.out (by simp) (fun k hk => by cases hk; exact Nat.le_refl _)
set_option maxHeartbeats 400000 in
theorem impl_newCard (a : Option Addr) (c : Nat) (xs : List Int) (w : World) (hx : RI w a xs) (hn : xs.length ≤ 1048576) :
    Calls Tryz.prog 80 #[.agg #[.slice a xs.length c]] w fun e w' => ∃ a' c', e = .returned (.agg #[.slice a' xs.length c']) ∧ w'.ownsRow w.heap.size 2 1 (.slice a' xs.length c') xs.length (xs.map (Value.int .i64)) ∧ Below w.heap.size w w' := by
  have hb2 := Lib.hid (below_alloc2 w (.cells #[.slice a xs.length c] 32) (.cells #[.slice none 0 0] 32))
  go_enter Tryz.func80, Tryz.ntmps80
  go_wp2_with fail
  refine (impl_copyInts a c xs _ (hx.kept hb2.out) hn).mono ?_
  rintro e w1 ⟨a1, c1, rfl, hown, hb1⟩
  (have hc0 := keep (p := ⟨w.heap.size + 1, 0, none⟩) (v := .slice none 0 0) hb1 (by simp [go_sem, *]); have hf0 := keepf (p := ⟨w.heap.size + 1, 0, none⟩) (v := .slice none 0 0) hb1 (by simp [go_sem, *]) (by simp [go_sem, *]); have hl0 := World.block_lt_of_cell? _ _ hc0)
  have hown' := Lib.hid hown
  have hb1' := Lib.hid (bthen hb2.out hb1)
  clear hown hb1
  go_wp2_with fail
  refine bodyPost_ret (v := .agg #[.slice a1 xs.length c1]) (by simp [results, Tryz.results80, go_sem, hc0]) rfl ⟨a1, c1, rfl, ?_, ?_⟩
  · exact own_mono (B' := w.heap.size + 1 + 1) (ownsRow_setCell_below (by simpa using hown'.out) (by simp) _) (by omega)
  · exact hb1'.out.setCell (by simp) _
set_option maxHeartbeats 400000 in
theorem spec_l02Own (b : Nat) (a : Option Addr) (c : Nat) (xs : List Int) (w : World) (hp : w.cell? ⟨b, 0, none⟩ = some (.slice a xs.length c)) (hx : RI w a xs) (hn : xs.length ≤ 1048576) :
    Calls Tryz.prog 59 #[.pointer (some ⟨b, 0, none⟩)] w fun e w' => ∃ a' c', e = .returned (.agg #[.slice a' xs.length c']) ∧ w'.ownsRow w.heap.size 2 1 (.slice a' xs.length c') xs.length (xs.map (Value.int .i64)) ∧ Below w.heap.size w w' := by
  have hb2 := Lib.hid (below_alloc (w := w) (.cells #[.slice none 0 0] 32))
  have hbl := World.block_lt_of_cell? w _ hp
  go_enter Tryz.func59, Tryz.ntmps59
  go_wp2_with fail
  refine (spec_l00Own a c xs _ (hx.kept hb2.out) hn).mono ?_
  rintro e w1 ⟨a1, c1, rfl, hown, hb1⟩
  (have hc0 := keep (p := ⟨w.heap.size, 0, none⟩) (v := .slice none 0 0) hb1 (by simp [go_sem, *]); have hf0 := keepf (p := ⟨w.heap.size, 0, none⟩) (v := .slice none 0 0) hb1 (by simp [go_sem, *]) (by simp [go_sem, *]); have hl0 := World.block_lt_of_cell? _ _ hc0)
  have hown' := Lib.hid hown
  have hb1' := Lib.hid (bthen hb2.out hb1)
  clear hown hb1
  go_wp2_with fail
  refine bodyPost_ret (v := .agg #[.slice a1 xs.length c1]) (by simp [results, Tryz.results59, go_sem, hc0]) rfl ⟨a1, c1, rfl, ?_, ?_⟩
  · exact own_mono (B' := w.heap.size + 1) (ownsRow_setCell_below (by simpa using hown'.out) (by simp) _) (by omega)
  · exact hb1'.out.setCell (by simp) _
end Go.Proofs.YtmpfnkheohlmiaaGreatDoor
namespace Go.Proofs.YtmpfnkheohlmiaaGreatDoor
open Go.RowKit
set_option maxRecDepth 100000
set_option linter.unusedVariables false
set_option linter.unusedSimpArgs false
set_option linter.unnecessarySimpa false

/-- the code of a card, a column and a row -/
def holeI (xs : List Int) (col row : Int) : Int := if validCardL xs then (if inB col 0 ((xs.length : Int) - 1) && !(bitI row == 0) then 0 else 2) else 1
theorem holeI_bad {xs : List Int} {col row : Int} (h : validCardL xs = false) : holeI xs col row = 1 := by unfold holeI; rw [h]; rfl
theorem holeI_range {xs : List Int} {col row : Int} (h : validCardL xs = true) (h2 : inB col 0 ((xs.length : Int) - 1) = false) : holeI xs col row = 2 := by unfold holeI; rw [h, h2]; rfl
theorem holeI_row {xs : List Int} {col row : Int} (h : validCardL xs = true) (h2 : (bitI row == 0) = true) : holeI xs col row = 2 := by unfold holeI; rw [h, h2]; simp
theorem holeI_ok {xs : List Int} {col row : Int} (h : validCardL xs = true) (h2 : inB col 0 ((xs.length : Int) - 1) = true) (h3 : (bitI row == 0) = false) : holeI xs col row = 0 := by unfold holeI; rw [h, h2, h3]; rfl
theorem holeI_zero {xs : List Int} {col row : Int} (h : holeI xs col row = 0) : validCardL xs = true ∧ inB col 0 ((xs.length : Int) - 1) = true ∧ (bitI row == 0) = false := by
  cases h1 : validCardL xs
  · rw [holeI_bad h1] at h; cases h
  · cases h2 : inB col 0 ((xs.length : Int) - 1)
    · rw [holeI_range h1 h2] at h; cases h
    · cases h3 : (bitI row == 0)
      · exact ⟨rfl, rfl, rfl⟩
      · rw [holeI_row h1 h3] at h; cases h

/-- is there a hole? -/
def hasI (xs : List Int) (col row : Int) : Bool := andI (xs.getD col.toNat 0) (bitI row) != 0
def hasHoleB (xs : List Int) (col row : Int) : Bool := if holeI xs col row == 0 then hasI xs col row else false
theorem hasHole_no {xs : List Int} {col row : Int} (h : (holeI xs col row == 0) = false) : hasHoleB xs col row = false := by unfold hasHoleB; rw [h]; rfl
theorem hasHole_yes {xs : List Int} {col row : Int} {k : Nat} {x : Int} (h : holeI xs col row = 0) (hc : col = k) (hx : xs[k]? = some x) : hasHoleB xs col row = (bits BinOp.and IntKind.i64 x (bitI row) != 0) := by
  unfold hasHoleB hasI; rw [h, hc]; simp [List.getD_eq_getElem?_getD, hx, andI]
/-- a card with a hole more -/
def punchI (xs : List Int) (col row : Int) : List Int := xs.set col.toNat (orI (xs.getD col.toNat 0) (bitI row))
def punchHoleCode (xs : List Int) (col row : Int) : Int := if holeI xs col row == 0 then (if hasI xs col row then 4 else 0) else holeI xs col row
def punchHoleL (xs : List Int) (col row : Int) : List Int := if punchHoleCode xs col row == 0 then punchI xs col row else []
theorem punchHole_bad {xs : List Int} {col row : Int} (h : (holeI xs col row == 0) = false) : punchHoleCode xs col row = holeI xs col row ∧ punchHoleL xs col row = [] := by
  have h1 : punchHoleCode xs col row = holeI xs col row := by unfold punchHoleCode; rw [h]; rfl
  exact ⟨h1, by unfold punchHoleL; rw [h1, h]; rfl⟩
theorem punchHole_has {xs : List Int} {col row : Int} {k : Nat} {x : Int} (h : holeI xs col row = 0) (hc : col = k) (hx : xs[k]? = some x) (hh : (bits BinOp.and IntKind.i64 x (bitI row) != 0) = true) : punchHoleCode xs col row = 4 ∧ punchHoleL xs col row = [] := by
  have h0 : hasI xs col row = true := by unfold hasI; rw [hc]; simpa [List.getD_eq_getElem?_getD, hx, andI] using hh
  have h1 : punchHoleCode xs col row = 4 := by unfold punchHoleCode; rw [h, h0]; rfl
  exact ⟨h1, by unfold punchHoleL; rw [h1]; rfl⟩
theorem punchHole_ok {xs : List Int} {col row : Int} {k : Nat} {x : Int} (h : holeI xs col row = 0) (hc : col = k) (hx : xs[k]? = some x) (hh : (bits BinOp.and IntKind.i64 x (bitI row) != 0) = false) : punchHoleCode xs col row = 0 ∧ punchHoleL xs col row = xs.set k (bits BinOp.or IntKind.i64 x (bitI row)) := by
  have h0 : hasI xs col row = false := by unfold hasI; rw [hc]; simpa [List.getD_eq_getElem?_getD, hx, andI] using hh
  have h1 : punchHoleCode xs col row = 0 := by unfold punchHoleCode; rw [h, h0]; rfl
  exact ⟨h1, by unfold punchHoleL punchI; rw [h1, hc]; simp [List.getD_eq_getElem?_getD, hx, orI]⟩
theorem punchHoleL_len (xs : List Int) (col row : Int) (h : xs.length ≤ 1048576) : (punchHoleL xs col row).length ≤ 1048576 := by
  unfold punchHoleL punchI; split
  · simpa using h
  · simp
end Go.Proofs.YtmpfnkheohlmiaaGreatDoor
namespace Go.Proofs.YtmpfnkheohlmiaaGreatDoor
open Go.RowKit
set_option maxRecDepth 100000
set_option linter.unusedVariables false
set_option linter.unusedSimpArgs false
set_option linter.unnecessarySimpa false

theorem Within.frozen {lo hi : Nat} {w w' : World} (h : Within lo hi w w') {p : Addr} {v : Value} (hc : w.cell? p = some v) (hf : w.frozen? p = false) (hp : p.block < lo ∨ hi ≤ p.block) : w'.frozen? p = false :=
  (World.frozen?_of_block (w := w) (h.block p.block (World.block_lt_of_cell? w p hc) (fun e => by omega))).trans hf
/-! ### a row of which the first j are new -/
def upto (f xs : List Int) (j : Nat) : List Int := f.take j ++ xs.drop j
theorem upto_zero (f xs : List Int) : upto f xs 0 = xs := by simp [upto]
theorem upto_all (f xs : List Int) {j : Nat} (h : f.length = xs.length) (hj : j = xs.length) : upto f xs j = f := by rw [upto, List.take_of_length_le (by omega), List.drop_of_length_le (by omega)]; simp
theorem upto_length (f xs : List Int) {j : Nat} (h : f.length = xs.length) (hj : j ≤ xs.length) : (upto f xs j).length = xs.length := by simp [upto]; omega
theorem upto_at (f xs : List Int) {j : Nat} {x : Int} (h : f.length = xs.length) (hx : xs[j]? = some x) : (upto f xs j)[j]? = some x := by
  have hlt := (List.getElem?_eq_some_iff.1 hx).1
  rw [upto, List.getElem?_append_right (by simp; omega)]
  simp [List.length_take, h, Nat.min_eq_left (Nat.le_of_lt hlt), hx]
theorem upto_set (f xs : List Int) {j : Nat} {v : Int} (h : f.length = xs.length) (hv : f[j]? = some v) : ((upto f xs j).map (Value.int .i64)).set j (.int .i64 v) = (upto f xs (j + 1)).map (Value.int .i64) := by
  obtain ⟨hlt, hg⟩ := List.getElem?_eq_some_iff.1 hv
  have hl : (f.take j).length = j := by simp; omega
  rw [upto, upto, List.map_append, List.set_append_right _ _ (by rw [List.length_map, hl]; exact Nat.le_refl _), List.length_map, hl, Nat.sub_self, List.drop_eq_getElem_cons (by omega), List.map_cons, List.set_cons_zero, List.take_add_one, hv]
  simp

/-- two cards, hole over hole -/
def orL (x y : List Int) : List Int := List.zipWith orI x y
theorem orL_length {x y : List Int} (h : x.length = y.length) : (orL x y).length = x.length := by simp [orL, h]
theorem orL_at {x y : List Int} {j : Nat} {u v : Int} (hu : x[j]? = some u) (hv : y[j]? = some v) : (orL x y)[j]? = some (bits BinOp.or IntKind.i64 u v) := by simp [orL, List.getElem?_zipWith, hu, hv, orI]
def overlayCode (x y : List Int) : Int := if validCardL x && validCardL y then (if x.length == y.length then 0 else 6) else 1
def overlayL (x y : List Int) : List Int := if overlayCode x y == 0 then orL x y else []
theorem overlay_bad1 {x : List Int} (y : List Int) (h : validCardL x = false) : overlayCode x y = 1 ∧ overlayL x y = [] := by
  have h1 : overlayCode x y = 1 := by unfold overlayCode; rw [h]; rfl
  exact ⟨h1, by unfold overlayL; rw [h1]; rfl⟩
theorem overlay_bad2 (x : List Int) {y : List Int} (h : validCardL y = false) : overlayCode x y = 1 ∧ overlayL x y = [] := by
  have h1 : overlayCode x y = 1 := by unfold overlayCode; rw [h]; simp
  exact ⟨h1, by unfold overlayL; rw [h1]; rfl⟩
theorem overlay_state {x y : List Int} (h : validCardL x = true) (h2 : validCardL y = true) (h3 : ¬ x.length = y.length) : overlayCode x y = 6 ∧ overlayL x y = [] := by
  have h1 : overlayCode x y = 6 := by unfold overlayCode; rw [h, h2]; simp [h3]
  exact ⟨h1, by unfold overlayL; rw [h1]; rfl⟩
theorem overlay_ok {x y : List Int} (h : validCardL x = true) (h2 : validCardL y = true) (h3 : x.length = y.length) : overlayCode x y = 0 ∧ overlayL x y = orL x y := by
  have h1 : overlayCode x y = 0 := by unfold overlayCode; rw [h, h2]; simp [h3]
  exact ⟨h1, by unfold overlayL; rw [h1]; rfl⟩
theorem overlayL_len (x y : List Int) : (overlayL x y).length ≤ 1048576 := by
  cases h : validCardL x
  · rw [(overlay_bad1 y h).2]; simp
  · cases h2 : validCardL y
    · rw [(overlay_bad2 x h2).2]; simp
    · by_cases h3 : x.length = y.length
      · rw [(overlay_ok h h2 h3).2, orL_length h3]; have := validCard_len h; omega
      · rw [(overlay_state h h2 h3).2]; simp
end Go.Proofs.YtmpfnkheohlmiaaGreatDoor
