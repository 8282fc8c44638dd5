/- What the total of an item over a deck is. No program in sight. -/
import Derived.Test.YtcbjfgjlhjjpiaaGreatDoorFind
import Derived.Test.YtcbjfgjlhjjpiaaGreatDoorNumIn
import Derived.Test.YtcbjfgjlhjjpiaaGreatDoorDeck
namespace Go.Proofs.YtcbjfgjlhjjpiaaGreatDoor
open Go.RowKit
set_option linter.unusedVariables false
set_option linter.unusedSimpArgs false
set_option linter.unnecessarySimpa false

/-- the code of a layout and cards -/
def layI (wd : Int) (xs : List Itm) (xss : List (List Int)) (v : Bool) : Int := if validLayB wd xs then (if v then (match xss with | [] => 0 | x :: _ => if (x.length : Int) = wd then 0 else 2) else 1) else 1
theorem lay_1 {wd : Int} {xs : List Itm} (xss : List (List Int)) (v : Bool) (h : validLayB wd xs = false) : layI wd xs xss v = 1 := by unfold layI; rw [h]; rfl
theorem lay_2 (wd : Int) (xs : List Itm) (xss : List (List Int)) : layI wd xs xss false = 1 := by unfold layI; cases validLayB wd xs <;> rfl
theorem lay_nil {wd : Int} {xs : List Itm} (h : validLayB wd xs = true) : layI wd xs [] true = 0 := by unfold layI; rw [h]; rfl
theorem lay_ok {wd : Int} {xs : List Itm} {x : List Int} {r : List (List Int)} (h : validLayB wd xs = true) (h2 : (x.length : Int) = wd) : layI wd xs (x :: r) true = 0 := by unfold layI; rw [h]; simp [h2]
theorem lay_not {wd : Int} {xs : List Itm} {x : List Int} {r : List (List Int)} (h : validLayB wd xs = true) (h2 : ¬ (x.length : Int) = wd) : layI wd xs (x :: r) true = 2 := by unfold layI; rw [h]; simp [h2]
theorem lay_zero {wd : Int} {xs : List Itm} {xss : List (List Int)} {v : Bool} (h : layI wd xs xss v = 0) : validLayB wd xs = true ∧ v = true ∧ ∀ x r, xss = x :: r → (x.length : Int) = wd := by
  unfold layI at h
  cases h1 : validLayB wd xs <;> rw [h1] at h
  · simp at h
  · cases v
    · simp at h
    · refine ⟨rfl, rfl, fun x r e => ?_⟩
      subst e
      by_cases h2 : (x.length : Int) = wd
      · exact h2
      · simp [h2] at h
/-- the item of a name -/
def itemAt (xs : List Itm) (nm : ByteArray) : Option Itm := if findI xs nm < 0 then none else xs[(findI xs nm).toNat]?
theorem item_none {xs : List Itm} {nm : ByteArray} (h : findI xs nm < 0) : itemAt xs nm = none := by unfold itemAt; rw [if_pos h]
theorem item_some {xs : List Itm} {nm : ByteArray} (h : ¬ findI xs nm < 0) : ∃ (k : Nat) (x : Itm), findI xs nm = k ∧ xs[k]? = some x ∧ itemAt xs nm = some x := by
  have hg := firstB_ge (namedB nm) xs
  have hl : findI xs nm < xs.length := hg.2.1
  obtain ⟨k, hk⟩ := Int.eq_ofNat_of_zero_le (show 0 ≤ findI xs nm by omega)
  obtain ⟨x, hx⟩ := get_some (l := xs) (k := k) (by omega)
  refine ⟨k, x, hk, hx, ?_⟩
  unfold itemAt
  rw [if_neg h, hk]
  exact hx
def okN (x : Itm) (c : List Int) : Bool := (numRes (partL c x.fr x.to)).2
def valN (x : Itm) (c : List Int) : Int := (numRes (partL c x.fr x.to)).1
def sumN (x : Itm) (xss : List (List Int)) (k : Nat) : Int := ((xss.take k).map (valN x)).sum
theorem sumN_succ {x : Itm} {xss : List (List Int)} {k : Nat} {c : List Int} (h : xss[k]? = some c) : sumN x xss (k + 1) = sumN x xss k + valN x c := by
  simp [sumN, List.take_add_one, h]
def totCode (wd : Int) (xs : List Itm) (xss : List (List Int)) (nm : ByteArray) : Int :=
  if layI wd xs xss (validDeckL xss) == 0 then (match itemAt xs nm with | none => 3 | some x => if x.kind == 2 then (if xss.all (okN x) then 0 else 8) else 6) else layI wd xs xss (validDeckL xss)
def totI (wd : Int) (xs : List Itm) (xss : List (List Int)) (nm : ByteArray) : Int :=
  if totCode wd xs xss nm == 0 then (match itemAt xs nm with | none => 0 | some x => sumN x xss xss.length) else 0
theorem tot_not {wd : Int} {xs : List Itm} {xss : List (List Int)} {nm : ByteArray} {k : Int} (h : totCode wd xs xss nm = k) (hk : (k == 0) = false) : totI wd xs xss nm = 0 ∧ totCode wd xs xss nm = k := ⟨by unfold totI; rw [h, hk]; rfl, h⟩
theorem tot_lay {wd : Int} {xs : List Itm} {xss : List (List Int)} (nm : ByteArray) (h : (layI wd xs xss (validDeckL xss) == 0) = false) : totI wd xs xss nm = 0 ∧ totCode wd xs xss nm = layI wd xs xss (validDeckL xss) := tot_not (by unfold totCode; rw [h]; rfl) h
theorem tot_3 {wd : Int} {xs : List Itm} {xss : List (List Int)} {nm : ByteArray} (h : layI wd xs xss (validDeckL xss) = 0) (h2 : itemAt xs nm = none) : totI wd xs xss nm = 0 ∧ totCode wd xs xss nm = 3 := tot_not (by unfold totCode; rw [h, h2]; rfl) rfl
theorem tot_6 {wd : Int} {xs : List Itm} {xss : List (List Int)} {nm : ByteArray} {x : Itm} (h : layI wd xs xss (validDeckL xss) = 0) (h2 : itemAt xs nm = some x) (h3 : (x.kind == 2) = false) : totI wd xs xss nm = 0 ∧ totCode wd xs xss nm = 6 := tot_not (by unfold totCode; rw [h, h2]; simp [h3]) rfl
theorem tot_8 {wd : Int} {xs : List Itm} {xss : List (List Int)} {nm : ByteArray} {x : Itm} (h : layI wd xs xss (validDeckL xss) = 0) (h2 : itemAt xs nm = some x) (h3 : (x.kind == 2) = true) (h4 : xss.all (okN x) = false) : totI wd xs xss nm = 0 ∧ totCode wd xs xss nm = 8 := tot_not (by unfold totCode; rw [h, h2]; simp only [h3, h4]; rfl) rfl
theorem tot_ok {wd : Int} {xs : List Itm} {xss : List (List Int)} {nm : ByteArray} {x : Itm} (h : layI wd xs xss (validDeckL xss) = 0) (h2 : itemAt xs nm = some x) (h3 : (x.kind == 2) = true) (h4 : xss.all (okN x) = true) : totI wd xs xss nm = sumN x xss xss.length ∧ totCode wd xs xss nm = 0 := by
  have h0 : totCode wd xs xss nm = 0 := by unfold totCode; rw [h, h2]; simp only [h3, h4]; rfl
  exact ⟨by unfold totI; rw [h0, h2]; rfl, h0⟩
theorem deck_card {xss : List (List Int)} {k : Nat} {c : List Int} (h : validDeckL xss = true) (hc : xss[k]? = some c) : validCardL c = true ∧ c.length = (xss.headD []).length := by
  unfold validDeckL at h
  simp only [Bool.and_eq_true] at h
  have := List.all_eq_true.1 h.1 c (List.mem_of_getElem? hc)
  unfold deckCardB at this
  simpa using this
theorem deck_len {xss : List (List Int)} (h : validDeckL xss = true) : xss.length ≤ 40 := by
  unfold validDeckL at h
  simp only [Bool.and_eq_true, decide_eq_true_eq] at h
  exact h.2
/-- a card of a valid deck, under a layout of its width -/
theorem lay_card {wd : Int} {xs : List Itm} {xss : List (List Int)} {k : Nat} {c : List Int} {x : Itm} (h : layI wd xs xss (validDeckL xss) = 0) (hc : xss[k]? = some c) (hx : x ∈ xs) :
    validCardL c = true ∧ (c.length : Int) = wd ∧ fieldB x.fr x.to c.length = true ∧ (x.kind = 2 → x.to - x.fr ≤ 12) := by
  obtain ⟨h1, h2, h3⟩ := lay_zero h
  obtain ⟨h4, h5⟩ := deck_card h2 hc
  cases xss with
  | nil => simp at hc
  | cons y r =>
    have h6 := h3 y r rfl
    have h7 : (c.length : Int) = wd := by rw [h5]; exact h6
    have h8 := validLay_item h1 hx
    obtain ⟨q1, q2, q3⟩ := itemB_field h8
    refine ⟨h4, h7, fieldB_ok q1 q2 (by omega), fun hk => ?_⟩
    unfold itemB kindB at h8
    simp only [Bool.and_eq_true, Bool.or_eq_true, beq_iff_eq, decide_eq_true_eq] at h8
    omega
theorem numRes_bd {ys : List Int} (h1 : 1 ≤ ys.length) (h : ys.length ≤ 12) : -1000000000000 ≤ (numRes ys).1 ∧ (numRes ys).1 ≤ 1000000000000 := by
  unfold numRes
  cases hu : numUp ys (ys.length - 1) with
  | none => cases ys.getLast? <;> simp
  | some p =>
    obtain ⟨b, n⟩ := p
    cases hl : ys.getLast? with
    | none => simp
    | some m =>
      have hn := numUp_bd (ys.length - 1) (by omega) hu
      have hp := pow_12 (k := ys.length - 1) (by omega)
      have hd := digI_bd m
      have hd2 := digI_bd (clrI m)
      have hn2 : n < 100000000000 := Int.lt_of_lt_of_le hn.2 hp
      have hn0 := hn.1
      clear hn hp hu hl
      simp only
      constructor
      all_goals (repeat' split)
      all_goals (simp only; omega)
theorem sumN_bd {x : Itm} {xss : List (List Int)} (h : ∀ c ∈ xss, -1000000000000 ≤ valN x c ∧ valN x c ≤ 1000000000000) : ∀ k : Nat, -1000000000000 * (k : Int) ≤ sumN x xss k ∧ sumN x xss k ≤ 1000000000000 * (k : Int)
  | 0 => by simp [sumN]
  | k + 1 => by
    have ih := sumN_bd h k
    cases hc : xss[k]? with
    | some c => rw [sumN_succ hc]; have := h c (List.mem_of_getElem? hc); omega
    | none =>
      have e : sumN x xss (k + 1) = sumN x xss k := by simp [sumN, List.take_add_one, hc]
      rw [e]; omega
end Go.Proofs.YtcbjfgjlhjjpiaaGreatDoor
