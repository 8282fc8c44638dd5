/- The walks of the laws' own functions on decks and of the functions that ask of decks: what each returns, and that memory has at most new blocks. What the total of an item over a deck is. No program in sight. The walks of the functions that compare fields of cards: what each returns, and that memory has at most new blocks. The walks of the functions that tell the value of an item of a card. The walks of the functions that tell totals: what each returns, and that memory has at most new blocks. -/
import Derived.Test.YtmpfnkheohlmiaaGreatDoorQE
import Derived.Test.YtmpfnkheohlmiaaGreatDoorQA
import Derived.Deep.RegionHeld3
import Derived.Test.YtmpfnkheohlmiaaGreatDoorQY
import Derived.Test.YtmpfnkheohlmiaaGreatDoorNumIn
import Derived.Test.YtmpfnkheohlmiaaGreatDoorQI
import Derived.Test.YtmpfnkheohlmiaaGreatDoorQG
import Derived.Deep.RegionWith
import Derived.Test.YtmpfnkheohlmiaaGreatDoorQJ
import Derived.Lib.TrimByte
import Derived.Test.YtmpfnkheohlmiaaGreatDoorQD
import Derived.Deep.CutRange
namespace Go.Proofs.YtmpfnkheohlmiaaGreatDoor
open Go.RowKit
set_option maxRecDepth 100000
set_option linter.unusedVariables false
set_option linter.unusedSimpArgs false
set_option linter.unnecessarySimpa false

/-! ### decks that are valid, decks that are the same -/
def deckCardB (xss : List (List Int)) (xs : List Int) : Bool := validCardL xs && decide (xs.length = (xss.headD []).length)
def validDeckL (xss : List (List Int)) : Bool := xss.all (deckCardB xss) && decide (xss.length ≤ 40)
theorem deckCard_bad {xss : List (List Int)} {xs : List Int} (h : validCardL xs = false) : deckCardB xss xs = false := by unfold deckCardB; rw [h]; rfl
theorem deckCard_is {xss : List (List Int)} {xs y : List Int} (h : validCardL xs = true) (h0 : xss[0]? = some y) : deckCardB xss xs = decide (xs.length = y.length) := by
  unfold deckCardB; rw [h, List.headD_eq_head?_getD, List.head?_eq_getElem?, h0]; simp
theorem validDeck_not {xss : List (List Int)} {k : Nat} {x : List Int} (h : xss[k]? = some x) (hx : deckCardB xss x = false) : validDeckL xss = false := by
  unfold validDeckL; rw [all_not h hx]; rfl
theorem validDeck_end {xss : List (List Int)} {k : Nat} (h : xss.length ≤ k) (hk : (xss.take k).all (deckCardB xss) = true) : validDeckL xss = decide (xss.length ≤ 40) := by
  unfold validDeckL; rw [all_take h hk]; rfl
end Go.Proofs.YtmpfnkheohlmiaaGreatDoor
namespace Go.Proofs.YtmpfnkheohlmiaaGreatDoor
open Go.RowKit
set_option linter.unusedVariables false
set_option linter.unusedSimpArgs false
set_option linter.unnecessarySimpa false

/-- the code of a layout and cards -/
def layI (wd : Int) (xs : List Itm) (xss : List (List Int)) (v : Bool) : Int := if validLayB wd xs then (if v then (match xss with | [] => 0 | x :: _ => if (x.length : Int) = wd then 0 else 2) else 1) else 1
theorem lay_1 {wd : Int} {xs : List Itm} (xss : List (List Int)) (v : Bool) (h : validLayB wd xs = false) : layI wd xs xss v = 1 := by unfold layI; rw [h]; rfl
theorem lay_2 (wd : Int) (xs : List Itm) (xss : List (List Int)) : layI wd xs xss false = 1 := by unfold layI; cases validLayB wd xs <;> rfl
theorem lay_nil {wd : Int} {xs : List Itm} (h : validLayB wd xs = true) : layI wd xs [] true = 0 := by unfold layI; rw [h]; rfl
theorem lay_ok {wd : Int} {xs : List Itm} {x : List Int} {r : List (List Int)} (h : validLayB wd xs = true) (h2 : (x.length : Int) = wd) : layI wd xs (x :: r) true = 0 := by unfold layI; rw [h]; simp [h2]
theorem lay_not {wd : Int} {xs : List Itm} {x : List Int} {r : List (List Int)} (h : validLayB wd xs = true) (h2 : ¬ (x.length : Int) = wd) : layI wd xs (x :: r) true = 2 := by unfold layI; rw [h]; simp [h2]
theorem lay_zero {wd : Int} {xs : List Itm} {xss : List (List Int)} {v : Bool} (h : layI wd xs xss v = 0) : validLayB wd xs = true ∧ v = true ∧ ∀ x r, xss = x :: r → (x.length : Int) = wd := by
  unfold layI at h
  cases h1 : validLayB wd xs <;> rw [h1] at h
  · simp at h
  · cases v
    · simp at h
    · refine ⟨rfl, rfl, fun x r e => ?_⟩
      subst e
      by_cases h2 : (x.length : Int) = wd
      · exact h2
      · simp [h2] at h
/-- the item of a name -/
def itemAt (xs : List Itm) (nm : ByteArray) : Option Itm := if findI xs nm < 0 then none else xs[(findI xs nm).toNat]?
theorem item_none {xs : List Itm} {nm : ByteArray} (h : findI xs nm < 0) : itemAt xs nm = none := by unfold itemAt; rw [if_pos h]
theorem item_some {xs : List Itm} {nm : ByteArray} (h : ¬ findI xs nm < 0) : ∃ (k : Nat) (x : Itm), findI xs nm = k ∧ xs[k]? = some x ∧ itemAt xs nm = some x := by
  have hg := firstB_ge (namedB nm) xs
  have hl : findI xs nm < xs.length := hg.2.1
  obtain ⟨k, hk⟩ := Int.eq_ofNat_of_zero_le (show 0 ≤ findI xs nm by omega)
  obtain ⟨x, hx⟩ := get_some (l := xs) (k := k) (by omega)
  refine ⟨k, x, hk, hx, ?_⟩
  unfold itemAt
  rw [if_neg h, hk]
  exact hx
def okN (x : Itm) (c : List Int) : Bool := (numRes (partL c x.fr x.to)).2
def valN (x : Itm) (c : List Int) : Int := (numRes (partL c x.fr x.to)).1
def sumN (x : Itm) (xss : List (List Int)) (k : Nat) : Int := ((xss.take k).map (valN x)).sum
theorem sumN_succ {x : Itm} {xss : List (List Int)} {k : Nat} {c : List Int} (h : xss[k]? = some c) : sumN x xss (k + 1) = sumN x xss k + valN x c := by
  simp [sumN, List.take_add_one, h]
def totCode (wd : Int) (xs : List Itm) (xss : List (List Int)) (nm : ByteArray) : Int :=
  if layI wd xs xss (validDeckL xss) == 0 then (match itemAt xs nm with | none => 3 | some x => if x.kind == 2 then (if xss.all (okN x) then 0 else 8) else 6) else layI wd xs xss (validDeckL xss)
def totI (wd : Int) (xs : List Itm) (xss : List (List Int)) (nm : ByteArray) : Int :=
  if totCode wd xs xss nm == 0 then (match itemAt xs nm with | none => 0 | some x => sumN x xss xss.length) else 0
theorem tot_not {wd : Int} {xs : List Itm} {xss : List (List Int)} {nm : ByteArray} {k : Int} (h : totCode wd xs xss nm = k) (hk : (k == 0) = false) : totI wd xs xss nm = 0 ∧ totCode wd xs xss nm = k := ⟨by unfold totI; rw [h, hk]; rfl, h⟩
theorem tot_lay {wd : Int} {xs : List Itm} {xss : List (List Int)} (nm : ByteArray) (h : (layI wd xs xss (validDeckL xss) == 0) = false) : totI wd xs xss nm = 0 ∧ totCode wd xs xss nm = layI wd xs xss (validDeckL xss) := tot_not (by unfold totCode; rw [h]; rfl) h
theorem tot_3 {wd : Int} {xs : List Itm} {xss : List (List Int)} {nm : ByteArray} (h : layI wd xs xss (validDeckL xss) = 0) (h2 : itemAt xs nm = none) : totI wd xs xss nm = 0 ∧ totCode wd xs xss nm = 3 := tot_not (by unfold totCode; rw [h, h2]; rfl) rfl
theorem tot_6 {wd : Int} {xs : List Itm} {xss : List (List Int)} {nm : ByteArray} {x : Itm} (h : layI wd xs xss (validDeckL xss) = 0) (h2 : itemAt xs nm = some x) (h3 : (x.kind == 2) = false) : totI wd xs xss nm = 0 ∧ totCode wd xs xss nm = 6 := tot_not (by unfold totCode; rw [h, h2]; simp [h3]) rfl
theorem tot_8 {wd : Int} {xs : List Itm} {xss : List (List Int)} {nm : ByteArray} {x : Itm} (h : layI wd xs xss (validDeckL xss) = 0) (h2 : itemAt xs nm = some x) (h3 : (x.kind == 2) = true) (h4 : xss.all (okN x) = false) : totI wd xs xss nm = 0 ∧ totCode wd xs xss nm = 8 := tot_not (by unfold totCode; rw [h, h2]; simp only [h3, h4]; rfl) rfl
theorem tot_ok {wd : Int} {xs : List Itm} {xss : List (List Int)} {nm : ByteArray} {x : Itm} (h : layI wd xs xss (validDeckL xss) = 0) (h2 : itemAt xs nm = some x) (h3 : (x.kind == 2) = true) (h4 : xss.all (okN x) = true) : totI wd xs xss nm = sumN x xss xss.length ∧ totCode wd xs xss nm = 0 := by
  have h0 : totCode wd xs xss nm = 0 := by unfold totCode; rw [h, h2]; simp only [h3, h4]; rfl
  exact ⟨by unfold totI; rw [h0, h2]; rfl, h0⟩
theorem deck_card {xss : List (List Int)} {k : Nat} {c : List Int} (h : validDeckL xss = true) (hc : xss[k]? = some c) : validCardL c = true ∧ c.length = (xss.headD []).length := by
  unfold validDeckL at h
  simp only [Bool.and_eq_true] at h
  have := List.all_eq_true.1 h.1 c (List.mem_of_getElem? hc)
  unfold deckCardB at this
  simpa using this
theorem deck_len {xss : List (List Int)} (h : validDeckL xss = true) : xss.length ≤ 40 := by
  unfold validDeckL at h
  simp only [Bool.and_eq_true, decide_eq_true_eq] at h
  exact h.2
/-- a card of a valid deck, under a layout of its width -/
theorem lay_card {wd : Int} {xs : List Itm} {xss : List (List Int)} {k : Nat} {c : List Int} {x : Itm} (h : layI wd xs xss (validDeckL xss) = 0) (hc : xss[k]? = some c) (hx : x ∈ xs) :
    validCardL c = true ∧ (c.length : Int) = wd ∧ fieldB x.fr x.to c.length = true ∧ (x.kind = 2 → x.to - x.fr ≤ 12) := by
  obtain ⟨h1, h2, h3⟩ := lay_zero h
  obtain ⟨h4, h5⟩ := deck_card h2 hc
  cases xss with
  | nil => simp at hc
  | cons y r =>
    have h6 := h3 y r rfl
    have h7 : (c.length : Int) = wd := by rw [h5]; exact h6
    have h8 := validLay_item h1 hx
    obtain ⟨q1, q2, q3⟩ := itemB_field h8
    refine ⟨h4, h7, fieldB_ok q1 q2 (by omega), fun hk => ?_⟩
    unfold itemB kindB at h8
    simp only [Bool.and_eq_true, Bool.or_eq_true, beq_iff_eq, decide_eq_true_eq] at h8
    omega
theorem numRes_bd {ys : List Int} (h1 : 1 ≤ ys.length) (h : ys.length ≤ 12) : -1000000000000 ≤ (numRes ys).1 ∧ (numRes ys).1 ≤ 1000000000000 := by
  unfold numRes
  cases hu : numUp ys (ys.length - 1) with
  | none => cases ys.getLast? <;> simp
  | some p =>
    obtain ⟨b, n⟩ := p
    cases hl : ys.getLast? with
    | none => simp
    | some m =>
      have hn := numUp_bd (ys.length - 1) (by omega) hu
      have hp := pow_12 (k := ys.length - 1) (by omega)
      have hd := digI_bd m
      have hd2 := digI_bd (clrI m)
      have hn2 : n < 100000000000 := Int.lt_of_lt_of_le hn.2 hp
      have hn0 := hn.1
      clear hn hp hu hl
      simp only
      constructor
      all_goals (repeat' split)
      all_goals (simp only; omega)
theorem sumN_bd {x : Itm} {xss : List (List Int)} (h : ∀ c ∈ xss, -1000000000000 ≤ valN x c ∧ valN x c ≤ 1000000000000) : ∀ k : Nat, -1000000000000 * (k : Int) ≤ sumN x xss k ∧ sumN x xss k ≤ 1000000000000 * (k : Int)
  | 0 => by simp [sumN]
  | k + 1 => by
    have ih := sumN_bd h k
    cases hc : xss[k]? with
    | some c => rw [sumN_succ hc]; have := h c (List.mem_of_getElem? hc); omega
    | none =>
      have e : sumN x xss (k + 1) = sumN x xss k := by simp [sumN, List.take_add_one, hc]
      rw [e]; omega
end Go.Proofs.YtmpfnkheohlmiaaGreatDoor
namespace Go.Proofs.YtmpfnkheohlmiaaGreatDoor
open Go.RowKit
set_option maxRecDepth 100000
set_option linter.unusedVariables false
set_option linter.unusedSimpArgs false
set_option linter.unnecessarySimpa false

def sgnI (p q : Int) : Int := if p < q then -1 else 1
def cmpI (xs ys : List Int) : Int := match (xs.zip ys).find? (fun p => !(rankM p.1 == rankM p.2)) with | some p => sgnI (rankM p.1) (rankM p.2) | none => 0
def cmpC (l r : List UInt8) : Int := match (l.zip r).find? (fun p => !(rankC p.1.toNat == rankC p.2.toNat)) with | some p => sgnI (rankC p.1.toNat) (rankC p.2.toNat) | none => 0
theorem rankC_of {m : Int} (h : 0 ≤ rankM m) : rankC (chU m).toNat = rankM m := by
  obtain ⟨k, hk⟩ := Int.eq_ofNat_of_zero_le h
  have hlt : k < 40 := by have := rankM_ge m; omega
  rw [chU_is h, hk]
  exact rankC_hit hlt (char_at hk hlt).symm
theorem cmp_text : ∀ (xs ys : List Int), legalL xs = true → legalL ys = true → cmpC (textL xs) (textL ys) = cmpI xs ys
  | [], ys, _, _ => by simp [cmpC, cmpI, textL]
  | x :: r, [], _, _ => by simp [cmpC, cmpI, textL]
  | x :: r, y :: s, h1, h2 => by
    simp only [legalL, List.all_cons, Bool.and_eq_true, legalB, decide_eq_true_eq] at h1 h2
    have ih := cmp_text r s h1.2 h2.2
    have e1 := rankC_of h1.1
    have e2 := rankC_of h2.1
    unfold cmpC cmpI textL at *
    simp only [List.map_cons, List.zip_cons_cons, List.find?_cons, e1, e2]
    by_cases he : rankM x = rankM y
    · simp only [he, beq_self_eq_true, Bool.not_true]; exact ih
    · have : (!(rankM x == rankM y)) = true := by simpa using he
      rw [this]
      simp only [e1, e2]
theorem zip_at {α β : Type} {xs : List α} {ys : List β} {k : Nat} {x : α} {y : β} (hx : xs[k]? = some x) (hy : ys[k]? = some y) : (xs.zip ys)[k]? = some (x, y) := by
  simp [List.getElem?_zip_eq_some, hx, hy]
theorem cmp_hit {xs ys : List Int} {k : Nat} {x y : Int} (hx : xs[k]? = some x) (hy : ys[k]? = some y) (h : ((xs.zip ys).take k).all (fun p => rankM p.1 == rankM p.2) = true) (hne : ¬ rankM x = rankM y) : cmpI xs ys = sgnI (rankM x) (rankM y) := by
  have := (find_hit (p := fun p : Int × Int => !(rankM p.1 == rankM p.2)) (zip_at hx hy) (by simpa using h) (by simpa using hne)).2
  unfold cmpI; rw [this]
theorem cmp_none {xs ys : List Int} {k : Nat} (hk : xs.length ≤ k) (h : ((xs.zip ys).take k).all (fun p => rankM p.1 == rankM p.2) = true) : cmpI xs ys = 0 := by
  have := (find_none (p := fun p : Int × Int => !(rankM p.1 == rankM p.2)) (l := xs.zip ys) (k := k) (by rw [List.length_zip]; omega) (by simpa using h)).2
  unfold cmpI; rw [this]
theorem cmpC_hit {xs ys : List UInt8} {k : Nat} {x y : UInt8} (hx : xs[k]? = some x) (hy : ys[k]? = some y) (h : ((xs.zip ys).take k).all (fun p => rankC p.1.toNat == rankC p.2.toNat) = true) (hne : ¬ rankC x.toNat = rankC y.toNat) : cmpC xs ys = sgnI (rankC x.toNat) (rankC y.toNat) := by
  have := (find_hit (p := fun p : UInt8 × UInt8 => !(rankC p.1.toNat == rankC p.2.toNat)) (zip_at hx hy) (by simpa using h) (by simpa using hne)).2
  unfold cmpC; rw [this]
theorem cmpC_none {xs ys : List UInt8} {k : Nat} (hk : xs.length ≤ k) (h : ((xs.zip ys).take k).all (fun p => rankC p.1.toNat == rankC p.2.toNat) = true) : cmpC xs ys = 0 := by
  have := (find_none (p := fun p : UInt8 × UInt8 => !(rankC p.1.toNat == rankC p.2.toNat)) (l := xs.zip ys) (k := k) (by rw [List.length_zip]; omega) (by simpa using h)).2
  unfold cmpC; rw [this]
theorem sgn_lt {p q : Int} (h : p < q) : sgnI p q = -1 := by unfold sgnI; rw [if_pos h]
theorem sgn_gt {p q : Int} (h : q < p) : sgnI p q = 1 := by unfold sgnI; rw [if_neg (by omega)]
theorem partL_eq {xs : List Int} {f t : Nat} (h : fieldB (f : Int) (t : Int) xs.length = true) : (partL xs (f : Int) (t : Int)).length = t - f := by rw [partL_length h]; omega
set_option maxHeartbeats 400000 in
theorem impl_hasField (a : Option Addr) (c : Nat) (xs : List Int) (f t : Int) (w : World) (hx : RI w a xs) (hn : xs.length ≤ 1048576) (hcap : xs.length ≤ c) (hq : fieldB f t xs.length = true) :
    Calls Tryz.prog 93 #[.agg #[.slice a xs.length c], .agg #[.int .i64 f, .int .i64 t]] w fun e w' => e = .returned (.bool (legalL (partL xs f t))) ∧ Below w.heap.size w w' := by
  have hb2 := Lib.hid (below_alloc2 w (.cells #[.slice a xs.length c] 32) (.cells #[.int .i64 f, .int .i64 t] 61))
  obtain ⟨h1, h2, h3⟩ := fieldB_yes hq
  obtain ⟨x, hx0⟩ := get_some (l := xs) (k := 0) (by omega)
  obtain ⟨b1, o1, rfl, hc1⟩ := hx.at hx0
  obtain ⟨f, rfl⟩ := Int.eq_ofNat_of_zero_le h1
  obtain ⟨t, rfl⟩ := Int.eq_ofNat_of_zero_le (show 0 ≤ t by omega)
  have h2' : f ≤ t := by omega
  have h3' : t ≤ xs.length := by omega
  have h4' : t ≤ c := by omega
  clear hx0 hc1
  have hl := partL_eq hq
  have hc := impl_hasCharacters (some ⟨b1, o1 + f, Option.none⟩) (c - f) (partL xs f t) _ (ri_sub (hx.kept hb2.out) f ((t : Int) - f).toNat) (partL_small _ _ (small hn))
  rw [hl] at hc
  have hc' := Lib.hid hc
  clear hc hl
  go_enter Tryz.func93, Tryz.ntmps93
  go_wp2_with (go_at_call 127; ((with_reducible refine hc'.out.mono ?_); rintro e w' ⟨rfl, hb⟩))
  go_ret
  exact ⟨rfl, bthen hb2.out hb⟩
def cmpCode (xs ys : List Int) (f t : Int) : Int := if validCardL xs && validCardL ys then (if fieldB f t xs.length && fieldB f t ys.length then (if legalL (partL xs f t) && legalL (partL ys f t) then 0 else 8) else 2) else 1
def cmpFI (xs ys : List Int) (f t : Int) : Int := if cmpCode xs ys f t == 0 then cmpI (partL xs f t) (partL ys f t) else 0
theorem cf_not {xs ys : List Int} {f t : Int} {k : Int} (h : cmpCode xs ys f t = k) (hk : (k == 0) = false) : cmpFI xs ys f t = 0 ∧ cmpCode xs ys f t = k := ⟨by unfold cmpFI; rw [h, hk]; rfl, h⟩
theorem cf_v1 {xs : List Int} (ys : List Int) (f t : Int) (h : validCardL xs = false) : cmpFI xs ys f t = 0 ∧ cmpCode xs ys f t = 1 := cf_not (by unfold cmpCode; rw [h]; rfl) rfl
theorem cf_v2 (xs : List Int) {ys : List Int} (f t : Int) (h : validCardL ys = false) : cmpFI xs ys f t = 0 ∧ cmpCode xs ys f t = 1 := cf_not (by unfold cmpCode; rw [h]; simp) rfl
theorem cf_f1 {xs ys : List Int} {f t : Int} (h1 : validCardL xs = true) (h2 : validCardL ys = true) (h : fieldB f t xs.length = false) : cmpFI xs ys f t = 0 ∧ cmpCode xs ys f t = 2 := cf_not (by unfold cmpCode; rw [h1, h2, h]; rfl) rfl
theorem cf_f2 {xs ys : List Int} {f t : Int} (h1 : validCardL xs = true) (h2 : validCardL ys = true) (h : fieldB f t ys.length = false) : cmpFI xs ys f t = 0 ∧ cmpCode xs ys f t = 2 := cf_not (by unfold cmpCode; rw [h1, h2, h]; simp) rfl
theorem cf_l1 {xs ys : List Int} {f t : Int} (h1 : validCardL xs = true) (h2 : validCardL ys = true) (h3 : fieldB f t xs.length = true) (h4 : fieldB f t ys.length = true) (h : legalL (partL xs f t) = false) : cmpFI xs ys f t = 0 ∧ cmpCode xs ys f t = 8 := cf_not (by unfold cmpCode; rw [h1, h2, h3, h4, h]; rfl) rfl
theorem cf_l2 {xs ys : List Int} {f t : Int} (h1 : validCardL xs = true) (h2 : validCardL ys = true) (h3 : fieldB f t xs.length = true) (h4 : fieldB f t ys.length = true) (h : legalL (partL ys f t) = false) : cmpFI xs ys f t = 0 ∧ cmpCode xs ys f t = 8 := cf_not (by unfold cmpCode; rw [h1, h2, h3, h4, h]; simp) rfl
theorem cf_ok {xs ys : List Int} {f t : Int} (h1 : validCardL xs = true) (h2 : validCardL ys = true) (h3 : fieldB f t xs.length = true) (h4 : fieldB f t ys.length = true) (h5 : legalL (partL xs f t) = true) (h6 : legalL (partL ys f t) = true) : cmpFI xs ys f t = cmpI (partL xs f t) (partL ys f t) ∧ cmpCode xs ys f t = 0 := by
  have h : cmpCode xs ys f t = 0 := by unfold cmpCode; rw [h1, h2, h3, h4, h5, h6]; rfl
  exact ⟨by unfold cmpFI; rw [h]; rfl, h⟩
end Go.Proofs.YtmpfnkheohlmiaaGreatDoor
namespace Go.Proofs.YtmpfnkheohlmiaaGreatDoor
open Go.RowKit
set_option maxRecDepth 100000
set_option linter.unusedVariables false
set_option linter.unusedSimpArgs false
set_option linter.unnecessarySimpa false

/-- a text without the blanks at its end -/
def trimT (s : ByteArray) : ByteArray := ⟨(Lib.trimRightB s.data.toList 32).toArray⟩
def valS (x : Itm) (c : List Int) : ByteArray × Bool :=
  if x.kind == 2 then (⟨(Lib.itoa (valN x c)).toArray⟩, okN x c) else (trimT (textOrS (partL c x.fr x.to)), legalL (partL c x.fr x.to))
theorem val_num {x : Itm} (c : List Int) (h : (x.kind == 2) = true) : valS x c = (⟨(Lib.itoa (valN x c)).toArray⟩, okN x c) := by unfold valS; rw [h]; rfl
theorem val_text {x : Itm} (c : List Int) (h : (x.kind == 2) = false) : valS x c = (trimT (textOrS (partL c x.fr x.to)), legalL (partL c x.fr x.to)) := by unfold valS; rw [h]; rfl
theorem textOr_bad {xs : List Int} (h : legalL xs = false) : textOrS xs = ⟨#[]⟩ := by unfold textOrS; rw [h]; rfl
theorem textOr_good {xs : List Int} (h : legalL xs = true) : textOrS xs = textS xs := by unfold textOrS; rw [h]; rfl
theorem trimT_nil : trimT ⟨#[]⟩ = ⟨#[]⟩ := by unfold trimT Lib.trimRightB; rfl
theorem val_no {x : Itm} {c : List Int} (h : (x.kind == 2) = false) (h2 : legalL (partL c x.fr x.to) = false) : valS x c = (⟨#[]⟩, false) := by rw [val_text c h, textOr_bad h2, h2, trimT_nil]
theorem val_yes {x : Itm} {c : List Int} (h : (x.kind == 2) = false) (h2 : legalL (partL c x.fr x.to) = true) : valS x c = (trimT (textS (partL c x.fr x.to)), true) := by rw [val_text c h, textOr_good h2, h2]
/-- a text that is cut down to the bytes ahead of its last blanks -/
def CutTo (L : List UInt8) (S : ByteArray) : Prop := S.size ≤ L.length ∧ S.data.toList = L.take S.size ∧ ∀ (j : Nat) (b : UInt8), S.size ≤ j → L[j]? = some b → b = 32
theorem CutTo.start (S : ByteArray) : CutTo S.data.toList S := by
  have hl := len_bytes S
  exact ⟨by omega, by rw [List.take_of_length_le (by omega)], fun j b hj hb => by have := (List.getElem?_eq_some_iff.1 hb).1; omega⟩
theorem cut_get {L : List UInt8} {S : ByteArray} (h : CutTo L S) (h0 : S.size - 1 < S.size) : L[S.size - 1]? = some (S[S.size - 1]'h0) := by
  have e := get_bytes S (S.size - 1) h0
  rw [h.2.1, List.getElem?_take] at e
  simpa [h0] using e
theorem CutTo.next {L : List UInt8} {S : ByteArray} (h : CutTo L S) (h0 : S.size - 1 < S.size) (h1 : S[S.size - 1]'h0 = 32) : CutTo L (S.extract 0 (S.size - 1)) := by
  have hs : (S.extract 0 (S.size - 1)).size = S.size - 1 := by rw [ByteArray.size_extract]; omega
  have h2 := h.1
  refine ⟨by omega, ?_, fun j b hj hb => ?_⟩
  · rw [hs]
    have e : (S.extract 0 (S.size - 1)).data.toList = S.data.toList.take (S.size - 1) := by
      rw [ByteArray.data_extract, Array.toList_extract]; simp only [List.extract, List.drop_zero, Nat.sub_zero]
    rw [e, h.2.1, List.take_take]; congr 1; omega
  · rw [hs] at hj
    by_cases he : j = S.size - 1
    · subst he
      rw [cut_get h h0] at hb
      rw [← Option.some.inj hb]; exact h1
    · exact h.2.2 j b (by omega) hb
theorem CutTo.done {L : List UInt8} {S : ByteArray} (h : CutTo L S) (h1 : ∀ h0 : S.size - 1 < S.size, S[S.size - 1]'h0 ≠ 32) : S = ⟨(Lib.trimRightB L 32).toArray⟩ := by
  have e := Lib.trimRightB_take L 32 S.size h.1 h.2.2 (fun b hb hg => by
    have h0 : S.size - 1 < S.size := by omega
    rw [cut_get h h0] at hg
    rw [← Option.some.inj hg]; exact h1 h0)
  rw [e, ← h.2.1]
theorem cut_trim {S T : ByteArray} (h : CutTo S.data.toList T) (h1 : ∀ h0 : T.size - 1 < T.size, T[T.size - 1]'h0 ≠ 32) : T = trimT S := CutTo.done h h1
theorem valN_small {x : Itm} {ys : List Int} (hq : fieldB x.fr x.to ys.length = true) (h12 : x.to - x.fr ≤ 12) : -9223372036854775808 ≤ valN x ys ∧ valN x ys ≤ 9223372036854775807 := by
  obtain ⟨h1, h2, h3⟩ := fieldB_yes hq
  have hlen := partL_length hq
  have := numRes_bd (ys := partL ys x.fr x.to) (by omega) (by omega)
  unfold valN; omega
set_option maxHeartbeats 1000000 in
theorem impl_itemValue (x : Itm) (a : Option Addr) (c : Nat) (ys : List Int) (w : World) (hx : RI w a ys) (hn : ys.length ≤ 1048576) (hcap : ys.length ≤ c) (hq : fieldB x.fr x.to ys.length = true) (h12 : x.kind = 2 → x.to - x.fr ≤ 12) (hms : ∀ m ∈ ys, 0 ≤ m ∧ m ≤ 4095) (ht : Pow10 w) :
    Calls Tryz.prog 41 #[.agg #[.string x.name, .int .i64 x.kind, .int .i64 x.fr, .int .i64 x.to], .agg #[.slice a ys.length c]] w fun e w' => e = .returned (.tuple #[.string (valS x ys).1, .bool (valS x ys).2]) ∧ Below w.heap.size w w' := by
  have hb2 := Lib.hid (below_alloc2 w (.cells #[.string x.name, .int .i64 x.kind, .int .i64 x.fr, .int .i64 x.to] 63) (.cells #[.slice a ys.length c] 32))
  cases hk : (x.kind == 2)
  · have hhas : ∀ W : World, Below w.heap.size w W → Calls Tryz.prog 93 #[.agg #[.slice a ys.length c], .agg #[.int .i64 x.fr, .int .i64 x.to]] W fun e w' => e = .returned (.bool (legalL (partL ys x.fr x.to))) ∧ Below W.heap.size W w' := fun W hW => impl_hasField a c ys x.fr x.to W (hx.kept hW) hn hcap hq
    cases hl : legalL (partL ys x.fr x.to)
    · have hf := Lib.hid (val_no hk hl)
      rw [hl] at hhas
      go_enter Tryz.func41, Tryz.ntmps41
      go_wp2_with fail
      refine (hhas _ hb2.out).mono ?_
      rintro e w2 ⟨rfl, hb⟩
      go_wp2_with fail
      go_ret2
      exact ⟨by rw [hf.out]; rfl, bthen hb2.out hb⟩
    · have hf := Lib.hid (val_yes hk hl)
      rw [hl] at hhas
      obtain ⟨nm, kd, f, t⟩ := x
      simp only at hb2 hk hhas hl hf hq
      obtain ⟨h1, h2, h3⟩ := fieldB_yes hq
      obtain ⟨z, hz0⟩ := get_some (l := ys) (k := 0) (by omega)
      obtain ⟨b1, o1, rfl, hc1⟩ := hx.at hz0
      obtain ⟨f, rfl⟩ := Int.eq_ofNat_of_zero_le h1
      obtain ⟨t, rfl⟩ := Int.eq_ofNat_of_zero_le (show 0 ≤ t by omega)
      have h2' : f ≤ t := by omega
      have h3' : t ≤ ys.length := by omega
      have h4' : t ≤ c := by omega
      have hcf : ¬ c = f := by omega
      clear hz0 hc1
      have hpl := partL_eq hq
      have htx : ∀ W : World, Below w.heap.size w W → Calls Tryz.prog 95 #[.slice (some ⟨b1, o1 + f, none⟩) (t - f) (c - f)] W fun e w' => e = .returned (.string (textS (partL ys (f : Int) (t : Int)))) ∧ Below W.heap.size W w' := fun W hW => by
        have h := impl_textOf (some ⟨b1, o1 + f, none⟩) (c - f) (partL ys (f : Int) (t : Int)) W (ri_sub (hx.kept hW) f ((t : Int) - f).toNat) (partL_small _ _ hn) hl
        rw [hpl] at h; exact h
      have htr : ∀ W : World, Calls Tryz.prog 94 #[.string (textS (partL ys (f : Int) (t : Int))), .string ⟨#[32]⟩] W fun e w' => e = .returned (.string (trimT (textS (partL ys (f : Int) (t : Int))))) ∧ w' = W := fun W => Tryz.strings_TrimRight_one _ 32 (by decide) W (by rw [textS_size]; have := partL_small (f : Int) (t : Int) hn; omega)
      clear hl hpl hq h1 h2 h3
      go_enter Tryz.func41, Tryz.ntmps41
      go_wp2_with fail
      refine (hhas _ hb2.out).mono ?_
      rintro e w2 ⟨rfl, hb⟩
      (have hc0 := keep (p := ⟨w.heap.size, 2, none⟩) (v := .int .i64 f) hb (by simp [go_sem, *]); have hf0 := keepf (p := ⟨w.heap.size, 2, none⟩) (v := .int .i64 f) hb (by simp [go_sem, *]) (by simp [go_sem, *]); have hl0 := World.block_lt_of_cell? _ _ hc0; have hc1 := keep (p := ⟨w.heap.size, 3, none⟩) (v := .int .i64 t) hb (by simp [go_sem, *]); have hf1 := keepf (p := ⟨w.heap.size, 3, none⟩) (v := .int .i64 t) hb (by simp [go_sem, *]) (by simp [go_sem, *]); have hl1 := World.block_lt_of_cell? _ _ hc1; have hc2 := keep (p := ⟨w.heap.size + 1, 0, none⟩) (v := .slice (some ⟨b1, o1, none⟩) ys.length c) hb (by simp [go_sem, *]); have hf2 := keepf (p := ⟨w.heap.size + 1, 0, none⟩) (v := .slice (some ⟨b1, o1, none⟩) ys.length c) hb (by simp [go_sem, *]) (by simp [go_sem, *]); have hl2 := World.block_lt_of_cell? _ _ hc2)
      have hB := Lib.hid (bthen hb2.out hb)
      clear hb
      go_wp2_with fail
      refine (htx _ hB.out).mono ?_
      rintro e w3 ⟨rfl, hb3⟩
      go_wp2_with fail
      refine (htr _).mono ?_
      rintro e w4 ⟨rfl, rfl⟩
      go_wp2_with fail
      go_ret2
      exact ⟨by rw [hf.out]; rfl, bthen hB.out hb3⟩
  · have hk2 : x.kind = 2 := by simpa using hk
    have hf := Lib.hid (val_num ys hk)
    have hbd := valN_small hq (h12 hk2)
    have hnum : ∀ W : World, Below w.heap.size w W → Calls Tryz.prog 92 #[.agg #[.slice a ys.length c], .agg #[.int .i64 x.fr, .int .i64 x.to]] W fun e w' => e = .returned (.tuple #[.int .i64 (valN x ys), .bool (okN x ys)]) ∧ Below W.heap.size W w' := fun W hW => impl_numberIn a c ys x.fr x.to W (hx.kept hW) hn hcap hq (h12 hk2) hms
    clear hk2 h12
    go_enter Tryz.func41, Tryz.ntmps41
    go_wp2_with fail
    refine (hnum _ hb2.out).mono ?_
    rintro e w2 ⟨rfl, hb⟩
    have hB := Lib.hid (bthen hb2.out hb)
    clear hb
    go_wp2_with fail
    refine (impl_Decimal (valN x ys) _ hbd.1 hbd.2 (TabIs.kept ht hB.out)).mono ?_
    rintro e w3 ⟨rfl, hb3⟩
    go_wp2_with fail
    go_ret2
    exact ⟨by rw [hf.out]; rfl, bthen hB.out hb3⟩
set_option maxHeartbeats 1000000 in
theorem spec_l04Value (b1 o1 b2 o2 : Nat) (x : Itm) (a : Option Addr) (c : Nat) (ys : List Int) (w : World) (q1 : w.cell? ⟨b1, o1 + 1, none⟩ = some (.int .i64 x.kind)) (q2 : w.cell? ⟨b1, o1 + 2, none⟩ = some (.int .i64 x.fr)) (q3 : w.cell? ⟨b1, o1 + 3, none⟩ = some (.int .i64 x.to)) (hc : w.cell? ⟨b2, o2, none⟩ = some (.slice a ys.length c)) (hx : RI w a ys) (hn : ys.length ≤ 1048576) (hcap : ys.length ≤ c) (hq : fieldB x.fr x.to ys.length = true) (h12 : x.kind = 2 → x.to - x.fr ≤ 12) (hms : ∀ m ∈ ys, 0 ≤ m ∧ m ≤ 4095) :
    Calls Tryz.prog 43 #[.pointer (some ⟨b1, o1, none⟩), .pointer (some ⟨b2, o2, none⟩)] w fun e w' => e = .returned (.tuple #[.string (valS x ys).1, .bool (valS x ys).2]) ∧ Below w.heap.size w w' := by
  have hlen := partL_length hq
  obtain ⟨t1, t2, t3⟩ := fieldB_yes hq
  have hpart : ∀ W : World, Below w.heap.size w W → Calls Tryz.prog 97 #[.pointer (some ⟨b2, o2, none⟩), .agg #[.int .i64 x.fr, .int .i64 x.to]] W fun e w' => ∃ a' c', e = .returned (.slice a' (partL ys x.fr x.to).length c') ∧ RI w' a' (partL ys x.fr x.to) ∧ Below W.heap.size W w' := fun W hW => spec_l02Part_at b2 o2 a c ys x.fr x.to W (keep hW hc) (hx.kept hW) (small hn) hcap hq
  cases hk : (x.kind == 2)
  · have hf := Lib.hid (val_text ys hk)
    have htx : ∀ (W : World) (a' : Option Addr) (c' : Nat), RI W a' (partL ys x.fr x.to) → Calls Tryz.prog 99 #[.slice a' (partL ys x.fr x.to).length c'] W fun e w' => e = .returned (.tuple #[.string (textOrS (partL ys x.fr x.to)), .bool (legalL (partL ys x.fr x.to))]) ∧ Below W.heap.size W w' := fun W a' c' hr => spec_l03Text a' c' _ W hr (partL_small _ _ hn)
    have hsz : (textOrS (partL ys x.fr x.to)).size ≤ 1048576 := by
      have := partL_small x.fr x.to hn
      cases hl : legalL (partL ys x.fr x.to)
      · rw [textOr_bad hl]; simp [ByteArray.size]
      · rw [textOr_good hl, textS_size]; omega
    clear hlen t1 t2 t3 hq h12
    generalize partL ys x.fr x.to = P at *
    generalize textOrS P = T at *
    go_enter Tryz.func43, Tryz.ntmps43
    go_wp2_with fail
    refine (hpart _ (Below.refl _ _)).mono ?_
    rintro e w2 ⟨a5, c5, rfl, hr5, hb5⟩
    have z1 := keep hb5 q1
    go_wp2_with fail
    refine (htx _ a5 c5 hr5).mono ?_
    rintro e w3 ⟨rfl, hb6⟩
    have hB := Lib.hid (bthen hb5 hb6)
    clear hb5 hb6 z1
    go_wp2_with fail
    go_loop [9] (fun v => ∃ S : ByteArray, v = .string S ∧ S.size ≤ 1048576 ∧ Hid (CutTo T.data.toList S)) (fun v => match v with | .string S => S.size | _ => 0)
    case atStart => exact ⟨T, rfl, hsz, Lib.hid (CutTo.start T)⟩
    case round =>
      obtain ⟨S, rfl, hS, hcut⟩ := hrel
      by_cases h0 : 0 < S.size
      · have hl : S.size - 1 < S.size := by omega
        have hl1 : (S.size : Int) - 1 < (S.size : Int) := by omega
        have hl0 : (0 : Int) ≤ (S.size : Int) - 1 := by omega
        have hcast : (S.size : Int) - 1 = ((S.size - 1 : Nat) : Int) := by omega
        have hd : decide ((0 : Int) < (S.size : Int)) = true := by simp; omega
        by_cases hc : S[S.size - 1] = 32
        · have hnx := Lib.hid (hcut.out.next hl hc)
          have hcu : (((S[S.size - 1]'hl).toNat : Int) == 32) = true := by rw [hc]; rfl
          clear hc
          go_wp2_with fail
          go_round
          case rel => exact ⟨_, rfl, by rw [ByteArray.size_extract]; omega, hnx⟩
          case measure => show (S.extract 0 (S.size - 1)).size < S.size; rw [ByteArray.size_extract]; omega
        · have hcu : (((S[S.size - 1]'hl).toNat : Int) == 32) = false := by
            have : ¬ (S[S.size - 1]'hl).toNat = (32 : UInt8).toNat := fun e => hc (UInt8.toNat_inj.1 e)
            simp at this ⊢; omega
          have hfin := Lib.hid (cut_trim hcut.out (fun _ => hc))
          clear hc
          go_wp2_with fail
          go_ret2
          exact ⟨by rw [hf.out, ← hfin.out]; rfl, hB.out⟩
      · have hz : S.size = 0 := by omega
        have hd : decide ((0 : Int) < (S.size : Int)) = false := decide_eq_false (by omega)
        have hfin : Hid (S = trimT T) := Lib.hid (cut_trim hcut.out (fun h => absurd h (by omega)))
        go_wp2_with fail
        go_ret2
        exact ⟨by rw [hf.out, ← hfin.out]; rfl, hB.out⟩
  · have hk2 : x.kind = 2 := by simpa using hk
    have hf := Lib.hid (val_num ys hk)
    have hbd := valN_small hq (h12 hk2)
    have h12' := h12 hk2
    have hnum : ∀ (W : World) (a' : Option Addr) (c' : Nat), RI W a' (partL ys x.fr x.to) → Calls Tryz.prog 98 #[.slice a' (partL ys x.fr x.to).length c'] W fun e w' => e = .returned (.tuple #[.int .i64 (valN x ys), .bool (okN x ys)]) ∧ Below W.heap.size W w' := fun W a' c' hr => (spec_l03Number a' c' _ W hr (by omega) (by omega) (fun q hq => hms q (List.mem_of_mem_drop (List.mem_of_mem_take hq)))).mono fun _ _ h => ⟨h.1, h.2 ▸ Below.refl _ _⟩
    clear hlen t1 t2 t3 hq h12 h12' hk2
    generalize partL ys x.fr x.to = P at *
    go_enter Tryz.func43, Tryz.ntmps43
    go_wp2_with fail
    refine (hpart _ (Below.refl _ _)).mono ?_
    rintro e w2 ⟨a5, c5, rfl, hr5, hb5⟩
    have z1 := keep hb5 q1
    go_wp2_with fail
    refine (hnum _ a5 c5 hr5).mono ?_
    rintro e w3 ⟨rfl, hb6⟩
    have hB := Lib.hid (bthen hb5 hb6)
    clear hb5 hb6 z1
    go_wp2_with fail
    refine (spec_l01Dec (valN x ys) _ hbd.1 hbd.2).mono ?_
    rintro e w4 ⟨rfl, hb7⟩
    go_wp2_with fail
    go_ret2
    exact ⟨by rw [hf.out]; rfl, bthen hB.out hb7⟩
end Go.Proofs.YtmpfnkheohlmiaaGreatDoor
namespace Go.Proofs.YtmpfnkheohlmiaaGreatDoor
open Go.RowKit
set_option maxRecDepth 100000
set_option linter.unusedVariables false
set_option linter.unusedSimpArgs false
set_option linter.unnecessarySimpa false

set_option maxHeartbeats 1000000 in
theorem impl_layoutCode (wd : Int) (a : Option Addr) (c : Nat) (xs : List Itm) (b : Option Addr) (d : Nat) (xss : List (List Int)) (v : Bool) (w : World) (hx : RT w a xs) (hy : RDx w b xss) (hn : itemsSz xs ≤ 1048576) (hcap : xs.length ≤ c) (hn2 : xss.length ≤ 1048576) (hc2 : ∀ x ∈ xss, x.length ≤ 1048576) :
    Calls Tryz.prog 39 #[.agg #[.int .i64 wd, .slice a xs.length c], .slice b xss.length d, .bool v] w fun e w' => e = .returned (.int .i64 (layI wd xs xss v)) ∧ Below w.heap.size w w' := by
  have hb1 := Lib.hid (below_alloc (w := w) (.cells #[.int .i64 wd, .slice a xs.length c] 26))
  have hvl := Lib.hid (impl_ValidLayout wd a c xs _ (hx.kept hb1.out) hn hcap)
  cases hv : validLayB wd xs
  · have hf := Lib.hid (lay_1 xss v hv)
    go_enter Tryz.func39, Tryz.ntmps39
    go_wp2_with fail
    refine hvl.out.mono ?_
    rintro e w2 ⟨rfl, hb⟩
    have hB := Lib.hid (bthen hb1.out hb)
    clear hb
    go_wp2_with fail
    go_ret
    exact ⟨ret_int (by rw [hf.out]), hB.out⟩
  cases v
  · have hf := Lib.hid (lay_2 wd xs xss)
    go_enter Tryz.func39, Tryz.ntmps39
    go_wp2_with fail
    refine hvl.out.mono ?_
    rintro e w2 ⟨rfl, hb⟩
    have hB := Lib.hid (bthen hb1.out hb)
    clear hb
    go_wp2_with fail
    go_ret
    exact ⟨ret_int (by rw [hf.out]), hB.out⟩
  cases xss with
  | nil =>
    have hf := Lib.hid (lay_nil hv)
    go_enter Tryz.func39, Tryz.ntmps39
    go_wp2_with fail
    refine hvl.out.mono ?_
    rintro e w2 ⟨rfl, hb⟩
    (have hc0 := keep (p := ⟨w.heap.size, 0, none⟩) (v := .int .i64 wd) hb (by simp [go_sem, *]); have hf0 := keepf (p := ⟨w.heap.size, 0, none⟩) (v := .int .i64 wd) hb (by simp [go_sem, *]) (by simp [go_sem, *]); have hl0 := World.block_lt_of_cell? _ _ hc0; have hc1 := keep (p := ⟨w.heap.size, 1, none⟩) (v := .slice a xs.length c) hb (by simp [go_sem, *]); have hf1 := keepf (p := ⟨w.heap.size, 1, none⟩) (v := .slice a xs.length c) hb (by simp [go_sem, *]) (by simp [go_sem, *]); have hl1 := World.block_lt_of_cell? _ _ hc1)
    have hB := Lib.hid (bthen hb1.out hb)
    clear hb
    have hd1 : decide ((0 : Int) < (([] : List (List Int)).length : Int)) = false := rfl
    go_wp2_with fail
    first | go_quiet (fail) | fail
    go_wp2_with fail
    go_ret
    exact ⟨ret_int (by rw [hf.out]), by first | exact below_drewN hB.out _ | exact hB.out⟩
  | cons x r =>
    obtain ⟨b1, o1, a1, c1, rfl, hcx, hrx⟩ := hy.at (k := 0) (x := x) rfl
    rw [Nat.add_zero] at hcx
    have hxl := hc2 x (by simp)
    have hd1 : decide ((0 : Int) < ((x :: r).length : Int)) = true := by first | (simp; done) | (simp; omega)
    have hd2 : decide (0 < (x :: r).length) = true := by simp
    have hd3 : (0 : Int) < ((x :: r).length : Int) := by first | (simp; done) | (simp; omega)
    have hd4 : 0 < (x :: r).length := by simp
    have hq := Lib.hid hy
    have hq2 := Lib.hid hc2
    clear hy hc2
    by_cases he : (x.length : Int) = wd
    · have hf := Lib.hid (lay_ok (r := r) hv he)
      have hne : ((x.length : Int) != wd) = false := by simp [he]
      have he' := Lib.hid he
      clear he
      generalize hQ : (x :: r).length = q at hd1 hd2 hd3 hd4 hn2 ⊢
      clear hQ
      go_enter Tryz.func39, Tryz.ntmps39
      go_wp2_with fail
      refine hvl.out.mono ?_
      rintro e w2 ⟨rfl, hb⟩
      (have hc0 := keep (p := ⟨w.heap.size, 0, none⟩) (v := .int .i64 wd) hb (by simp [go_sem, *]); have hf0 := keepf (p := ⟨w.heap.size, 0, none⟩) (v := .int .i64 wd) hb (by simp [go_sem, *]) (by simp [go_sem, *]); have hl0 := World.block_lt_of_cell? _ _ hc0; have hc1 := keep (p := ⟨w.heap.size, 1, none⟩) (v := .slice a xs.length c) hb (by simp [go_sem, *]); have hf1 := keepf (p := ⟨w.heap.size, 1, none⟩) (v := .slice a xs.length c) hb (by simp [go_sem, *]) (by simp [go_sem, *]); have hl1 := World.block_lt_of_cell? _ _ hc1)
      have hB := Lib.hid (bthen hb1.out hb)
      have hcx2 := keep hB.out hcx
      clear hb
      go_wp2_with fail
      (first | go_region_held3 (fun W => Below w2.heap.size w2 W ∧ W.cell? ⟨w.heap.size, 0, none⟩ = some (.int .i64 wd) ∧ W.cell? ⟨b1, o1, none⟩ = some (.slice a1 x.length c1)) (first | exact held2 (below_drewN (Below.refl _ _) 1) hc0 hcx2 | (rename Below w2.heap.size w2 _ ∧ _ => hH; refine held2 ?_ hc0 hcx2; (refine bthen hH.1 ?_; assumption))) (first | (go_at_call 89; ((with_reducible refine (impl_columns a1 c1 x.length _).mono ?_); rintro e wq0 ⟨rfl, hbq⟩))) | fail)
      all_goals
        have hHb := And.left ‹Below w2.heap.size w2 _ ∧ _›
        go_wp2_with fail
        go_ret
        exact ⟨ret_int (by rw [hf.out]), bthen hB.out hHb⟩
    · have hf := Lib.hid (lay_not (r := r) hv he)
      have hne : ((x.length : Int) != wd) = true := by simp [he]
      clear he
      generalize hQ : (x :: r).length = q at hd1 hd2 hd3 hd4 hn2 ⊢
      clear hQ
      go_enter Tryz.func39, Tryz.ntmps39
      go_wp2_with fail
      refine hvl.out.mono ?_
      rintro e w2 ⟨rfl, hb⟩
      (have hc0 := keep (p := ⟨w.heap.size, 0, none⟩) (v := .int .i64 wd) hb (by simp [go_sem, *]); have hf0 := keepf (p := ⟨w.heap.size, 0, none⟩) (v := .int .i64 wd) hb (by simp [go_sem, *]) (by simp [go_sem, *]); have hl0 := World.block_lt_of_cell? _ _ hc0; have hc1 := keep (p := ⟨w.heap.size, 1, none⟩) (v := .slice a xs.length c) hb (by simp [go_sem, *]); have hf1 := keepf (p := ⟨w.heap.size, 1, none⟩) (v := .slice a xs.length c) hb (by simp [go_sem, *]) (by simp [go_sem, *]); have hl1 := World.block_lt_of_cell? _ _ hc1)
      have hB := Lib.hid (bthen hb1.out hb)
      have hcx2 := keep hB.out hcx
      clear hb
      go_wp2_with fail
      (first | go_region_held3 (fun W => Below w2.heap.size w2 W ∧ W.cell? ⟨w.heap.size, 0, none⟩ = some (.int .i64 wd) ∧ W.cell? ⟨b1, o1, none⟩ = some (.slice a1 x.length c1)) (first | exact held2 (below_drewN (Below.refl _ _) 1) hc0 hcx2 | (rename Below w2.heap.size w2 _ ∧ _ => hH; refine held2 ?_ hc0 hcx2; (refine bthen hH.1 ?_; assumption))) (first | (go_at_call 89; ((with_reducible refine (impl_columns a1 c1 x.length _).mono ?_); rintro e wq0 ⟨rfl, hbq⟩))) | fail)
      all_goals
        have hHb := And.left ‹Below w2.heap.size w2 _ ∧ _›
        go_wp2_with fail
        go_ret
        exact ⟨ret_int (by rw [hf.out]), bthen hB.out hHb⟩
end Go.Proofs.YtmpfnkheohlmiaaGreatDoor
