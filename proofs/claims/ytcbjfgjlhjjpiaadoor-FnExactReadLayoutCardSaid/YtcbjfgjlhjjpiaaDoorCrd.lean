/- The walks of the functions on cards: valid cards, blank cards. What each returns, and that memory has at most new blocks. -/
import Derived.Test.YtcbjfgjlhjjpiaaDoorSame
import Derived.Shelf.Abstract
namespace Go.Proofs.YtcbjfgjlhjjpiaaDoor
open Go.RowKit
set_option maxRecDepth 100000
set_option linter.unusedVariables false
set_option linter.unusedSimpArgs false
set_option linter.unnecessarySimpa false

/-- a column's number lies in 0..4095 -/
def maskB (m : Int) : Bool := inB m 0 4095
def validCardL (xs : List Int) : Bool := inB xs.length 1 20 && xs.all maskB
theorem validCard_not {xs : List Int} {k : Nat} {x : Int} (h : xs[k]? = some x) (hx : maskB x = false) : validCardL xs = false := by
  unfold validCardL; rw [all_not h hx]; simp
theorem validCard_end {xs : List Int} {k : Nat} (h : xs.length ≤ k) (hk : (xs.take k).all maskB = true) : validCardL xs = inB xs.length 1 20 := by
  unfold validCardL; rw [all_take h hk]; simp
theorem validCard_len {xs : List Int} (h : validCardL xs = true) : 1 ≤ xs.length ∧ xs.length ≤ 20 := by
  unfold validCardL at h; simp only [Bool.and_eq_true, inB_true] at h; omega
theorem validCard_out {xs : List Int} (h : inB xs.length 1 20 = false) : validCardL xs = false := by unfold validCardL; rw [h]; rfl
theorem validCard_any {xs : List Int} (h : inB xs.length 1 20 = true) : validCardL xs = !(xs.any fun m => !maskB m) := by
  unfold validCardL; rw [h, List.not_any_eq_all_not]; simp

set_option maxHeartbeats 400000 in
theorem slices_IndexFunc_ints (g : Nat) (lb : Array Value) (p : Int → Bool) (a : Option Addr) (c : Nat) (xs : List Int) (w : World) (hx : RI w a xs) (hn : xs.length ≤ maxLen)
    (eg : ∀ args w, (callFunc g args).run Tryd.prog w = .ok (.enter g args) w)
    (hg : ∀ x W, Below w.heap.size w W → Calls Tryd.prog g (#[.int .i64 x] ++ lb) W fun e w' => e = .returned (.bool (p x)) ∧ Below W.heap.size W w') :
    Calls Tryd.prog 100 #[.slice a xs.length c, .func (.func g) #[] lb] w fun e w' => e = .returned (.int .i64 (firstB p xs)) ∧ Below w.heap.size w w' := by
  unfold maxLen at hn
  generalize hN : xs.length = n at *
  have hN' := Lib.hid hN
  clear hN
  have HG := Lib.hid hg
  clear hg
  go_enter Tryd.func100, Tryd.ntmps100
  go_wp2_with fail
  go_loopw [8] (fun i wr => ∃ k : Nat, k ≤ n ∧ i = .int .i64 k ∧ Hid ((xs.take k).all (fun x => !p x) = true) ∧ Below w.heap.size w wr) (fun i _ => n - (intOf i).toNat)
  case atStart => exact ⟨0, by omega, rfl, by simp [Hid], Below.refl _ _⟩
  case round =>
    obtain ⟨k, hk, rfl, hall, hb⟩ := hrel
    by_cases hlt : k < n
    · obtain ⟨x, hxk⟩ := get_some (l := xs) (k := k) (by rw [hN'.out]; exact hlt)
      obtain ⟨b1, o1, rfl, hc1⟩ := (hx.kept hb).at hxk
      have hxk' := Lib.hid hxk
      clear hxk
      go_wp2_with fail
      refine (HG.out x _ hb).mono ?_
      rintro e w' ⟨rfl, hb'⟩
      have hb2 := bthen hb hb'
      clear hb'
      go_wp2_with fail
      · go_ret
        exact ⟨ret_int (firstB_hit hxk'.out hall.out (by assumption)).symm, hb2⟩
      · go_roundw
        case rel => exact ⟨k + 1, by omega, by go_num, all_succ hxk'.out hall.out (by simp_all), hb2⟩
        case measure => simp [intOf]; omega
    · go_wp2_with fail
      go_ret
      exact ⟨ret_int (firstB_none (by rw [hN'.out]; omega) hall.out).symm, hb⟩
theorem slices_ContainsFunc_ints (g : Nat) (lb : Array Value) (p : Int → Bool) (a : Option Addr) (c : Nat) (xs : List Int) (w : World) (hx : RI w a xs) (hn : xs.length ≤ maxLen)
    (eg : ∀ args w, (callFunc g args).run Tryd.prog w = .ok (.enter g args) w)
    (hg : ∀ x W, Below w.heap.size w W → Calls Tryd.prog g (#[.int .i64 x] ++ lb) W fun e w' => e = .returned (.bool (p x)) ∧ Below W.heap.size W w') :
    Calls Tryd.prog 76 #[.slice a xs.length c, .func (.func g) #[] lb] w fun e w' => e = .returned (.bool (xs.any p)) ∧ Below w.heap.size w w' := by
  have hc := Lib.hid (slices_IndexFunc_ints g lb p a c xs w hx hn eg hg)
  have hp := Lib.hid (firstB_ge p xs).2.2
  clear hg eg
  go_enter Tryd.func76, Tryd.ntmps76
  go_wp2_with (go_at_call 100; ((with_reducible refine hc.out.mono ?_); rintro e w' ⟨rfl, hb⟩))
  go_ret
  exact ⟨ret_bool (by rw [← hp.out]), hb⟩
theorem impl_size_ints (a : Option Addr) (c n : Nat) (w : World) : Calls Tryd.prog 99 #[.slice a n c] w fun e w' => e = .returned (.int .i64 n) ∧ w = w' := by
  go_enter Tryd.func99, Tryd.ntmps99
  go_wp2
  go_ret
  exact ⟨rfl, rfl⟩
theorem impl_columns (a : Option Addr) (c n : Nat) (w : World) : Calls Tryd.prog 72 #[.agg #[.slice a n c]] w fun e w' => e = .returned (.int .i64 n) ∧ Below w.heap.size w w' := by
  go_enter Tryd.func72, Tryd.ntmps72
  go_wp2_with (go_at_call 99; ((with_reducible refine (impl_size_ints _ _ _ _).mono ?_); rintro e w' ⟨rfl, rfl⟩))
  go_ret
  exact ⟨rfl, below_alloc _⟩
theorem impl_ValidCard_1 (x : Int) (w : World) : Calls Tryd.prog 98 #[.int .i64 x] w fun e w' => e = .returned (.bool (!maskB x)) ∧ w = w' := by
  go_enter Tryd.func98, Tryd.ntmps98
  go_wp2_with (go_at_call 64; ((with_reducible refine (impl_inside _ _ _ _).mono ?_); rintro e w' ⟨rfl, rfl⟩))
  go_ret
  exact ⟨rfl, rfl⟩
set_option maxHeartbeats 400000 in
theorem impl_ValidCard (a : Option Addr) (c : Nat) (xs : List Int) (w : World) (hx : RI w a xs) (hn : xs.length ≤ maxLen) :
    Calls Tryd.prog 70 #[.agg #[.slice a xs.length c]] w fun e w' => e = .returned (.bool (validCardL xs)) ∧ Below w.heap.size w w' := by
  have eg := Go.Proofs.enters_of Tryd.func98 (by kernel_rfl) rfl
  have hb1 := below_alloc (w := w) (.cells #[.slice a xs.length c] 28)
  cases hr : inB xs.length 1 20
  · have hf := Lib.hid (validCard_out hr)
    go_enter Tryd.func70, Tryd.ntmps70
    go_wp2_with (first | (go_at_call 72; ((with_reducible refine (impl_columns _ _ _ _).mono ?_); rintro e w' ⟨rfl, hb⟩)) | (go_at_call 64; ((with_reducible refine (impl_inside _ _ _ _).mono ?_); rintro e w' ⟨rfl, rfl⟩)))
    go_ret
    exact ⟨ret_bool (by rw [hf.out]), bthen hb1 hb⟩
  · have hv := Lib.hid (validCard_any hr)
    have hb1' := Lib.hid hb1
    clear hb1
    go_enter Tryd.func70, Tryd.ntmps70
    go_wp2_with fail
    refine (impl_columns _ _ _ _).mono ?_
    rintro e w2 ⟨rfl, hb⟩
    have hc2 : w2.cell? ⟨w.heap.size, 0, none⟩ = some (.slice a xs.length c) := keep hb (by simp [go_sem])
    have hb2 := bthen hb1'.out hb
    have hc := Lib.hid (slices_ContainsFunc_ints 98 #[] (fun m => !maskB m) a c xs w2 (hx.kept hb2) hn eg (fun x W hb => (impl_ValidCard_1 x W).mono fun _ _ h => ⟨h.1, by rw [← h.2]; exact Below.refl _ _⟩))
    have hb2' := Lib.hid hb2
    clear hb hb2
    go_wp2_with (first | (go_at_call 64; ((with_reducible refine (impl_inside _ _ _ _).mono ?_); rintro e w' ⟨rfl, rfl⟩)) | (go_at_call 76; ((with_reducible refine hc.out.mono ?_); rintro e w' ⟨rfl, hb⟩)))
    go_ret
    exact ⟨ret_bool (by rw [hv.out]), bthen hb2'.out hb⟩
set_option maxHeartbeats 400000 in
theorem spec_l02Ok_at (b o : Nat) (a : Option Addr) (c : Nat) (xs : List Int) (w : World) (hp : w.cell? ⟨b, o, none⟩ = some (.slice a xs.length c)) (hx : RI w a xs) (hn : xs.length ≤ maxLen) :
    Calls Tryd.prog 43 #[.pointer (some ⟨b, o, none⟩)] w fun e w' => e = .returned (.bool (validCardL xs)) ∧ w = w' := by
  unfold maxLen at hn
  generalize hN : xs.length = n at *
  have hN' := Lib.hid hN
  clear hN
  go_enter Tryd.func43, Tryd.ntmps43
  go_wp2_with fail
  go_loop [3] (fun i => ∃ k : Nat, k ≤ n ∧ i = .int .i64 k ∧ Hid ((xs.take k).all maskB = true)) (fun i => n - (intOf i).toNat)
  case atStart => exact ⟨0, by omega, rfl, by simp [Hid]⟩
  case round =>
    obtain ⟨k, hk, rfl, hall⟩ := hrel
    by_cases hlt : k < n
    · obtain ⟨x, hxk⟩ := get_some (l := xs) (k := k) (by rw [hN'.out]; exact hlt)
      obtain ⟨b1, o1, rfl, hc1⟩ := hx.at hxk
      have hxk' := Lib.hid hxk
      clear hxk
      go_wp2_with (go_at_call 61; ((with_reducible refine (spec_l00In _ _ _ _).mono ?_); rintro e w' ⟨rfl, rfl⟩))
      all_goals first
        | (go_round
           case rel => exact ⟨k + 1, by omega, by go_num, all_succ hxk'.out hall.out (by simp_all [maskB])⟩
           case measure => simp [intOf]; omega)
        | (go_ret; exact ⟨ret_bool (by rw [validCard_not hxk'.out (by simp_all [maskB])]), rfl⟩)
    · go_wp2_with (go_at_call 61; ((with_reducible refine (spec_l00In _ _ _ _).mono ?_); rintro e w' ⟨rfl, rfl⟩))
      go_ret
      exact ⟨ret_bool (by rw [validCard_end (by rw [hN'.out]; omega) hall.out, hN'.out]), rfl⟩
theorem spec_l02Ok (b : Nat) (a : Option Addr) (c : Nat) (xs : List Int) (w : World) (hp : w.cell? ⟨b, 0, none⟩ = some (.slice a xs.length c)) (hx : RI w a xs) (hn : xs.length ≤ maxLen) :
    Calls Tryd.prog 43 #[.pointer (some ⟨b, 0, none⟩)] w fun e w' => e = .returned (.bool (validCardL xs)) ∧ w = w' := spec_l02Ok_at b 0 a c xs w hp hx hn
theorem spec_ValidCard (a : Option Addr) (c : Nat) (xs : List Int) (w : World) (hx : RI w a xs) (hn : xs.length ≤ maxLen) :
    Calls Tryd.prog 16 #[.agg #[.slice a xs.length c]] w fun e w' => e = .returned (.bool (validCardL xs)) ∧ Below w.heap.size w w' := by
  have hb1 := below_alloc (w := w) (.cells #[.slice a xs.length c] 28)
  have hc := Lib.hid (spec_l02Ok w.heap.size a c xs _ (by simp [go_sem]) (hx.kept hb1) hn)
  have hb1' := Lib.hid hb1
  clear hb1
  go_enter Tryd.func16, Tryd.ntmps16
  go_wp2_with (go_at_call 43; ((with_reducible refine hc.out.mono ?_); rintro e w' ⟨rfl, rfl⟩))
  go_ret
  exact ⟨rfl, hb1'.out⟩
/-- a blank card's columns -/
def blankL (r : Int) : List Int := if inB r 1 20 then zerosL r.toNat else []
def blankCode (r : Int) : Int := if inB r 1 20 then 0 else 2
theorem blankL_len (r : Int) : (blankL r).length ≤ 1048576 := by
  unfold blankL
  cases h : inB r 1 20
  · simp
  · have := inB_true.1 h
    simp only [if_true]; rw [zerosL_length]; omega

end Go.Proofs.YtcbjfgjlhjjpiaaDoor
