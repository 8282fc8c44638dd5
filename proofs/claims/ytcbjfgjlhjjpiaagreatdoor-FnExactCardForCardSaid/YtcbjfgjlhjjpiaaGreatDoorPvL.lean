/- What a value of an item punches; cards of values: plain. No program in sight. -/
import Derived.Test.YtcbjfgjlhjjpiaaGreatDoorReadL
import Derived.Test.YtcbjfgjlhjjpiaaGreatDoorPutN
import Derived.Test.YtcbjfgjlhjjpiaaGreatDoorPunch
import Derived.Test.YtcbjfgjlhjjpiaaGreatDoorRec
namespace Go.Proofs.YtcbjfgjlhjjpiaaGreatDoor
open Go.RowKit
set_option linter.unusedVariables false
set_option linter.unusedSimpArgs false
set_option linter.unnecessarySimpa false

def sizeX (x : Itm) : Nat := (x.to - x.fr).toNat
def endsB (s : ByteArray) : Bool := s.data.toList.getLast? == some 32
def numOk (s : ByteArray) : Bool := readL s.data.toList && inB (readI s.data.toList) (-999999999999) 999999999999
def pvCode (x : Itm) (s : ByteArray) : Int :=
  if x.kind == 2 then (if numOk s then (if decide (Lib.nDigits (readI s.data.toList).natAbs ≤ sizeX x) then 0 else 5) else 7)
  else (if charsB s && !endsB s then (if x.to - x.fr < (s.size : Int) then 5 else 0) else 7)
def pvL (x : Itm) (s : ByteArray) : List Int :=
  if x.kind == 2 then numL (sizeX x) (readI s.data.toList).natAbs (decide (readI s.data.toList < 0)) else punchUp s (sizeX x) s.size
def pvP (x : Itm) (s : ByteArray) : List Int := if pvCode x s == 0 then pvL x s else []
def pvR (ys : List Int) (x : Itm) (s : ByteArray) : List Int := if pvCode x s == 0 then putL ys x.fr.toNat (pvL x s) else []
theorem pv_not {x : Itm} {s : ByteArray} {k : Int} (ys : List Int) (h : pvCode x s = k) (hk : (k == 0) = false) : pvCode x s = k ∧ pvP x s = [] ∧ pvR ys x s = [] := ⟨h, by unfold pvP; rw [h, hk]; rfl, by unfold pvR; rw [h, hk]; rfl⟩
theorem pv_yes {x : Itm} {s : ByteArray} (ys : List Int) (h : pvCode x s = 0) : pvCode x s = 0 ∧ pvP x s = pvL x s ∧ pvR ys x s = putL ys x.fr.toNat (pvL x s) := ⟨h, by unfold pvP; rw [h]; rfl, by unfold pvR; rw [h]; rfl⟩
theorem pvn_7 {x : Itm} {s : ByteArray} (ys : List Int) (hk : (x.kind == 2) = true) (h : numOk s = false) : pvCode x s = 7 ∧ pvP x s = [] ∧ pvR ys x s = [] := pv_not ys (by unfold pvCode; rw [hk, h]; rfl) rfl
theorem pvn_5 {x : Itm} {s : ByteArray} (ys : List Int) (hk : (x.kind == 2) = true) (h : numOk s = true) (h2 : ¬ Lib.nDigits (readI s.data.toList).natAbs ≤ sizeX x) : pvCode x s = 5 ∧ pvP x s = [] ∧ pvR ys x s = [] := pv_not ys (by unfold pvCode; rw [hk, h, decide_eq_false h2]; rfl) rfl
theorem pvn_0 {x : Itm} {s : ByteArray} (ys : List Int) (hk : (x.kind == 2) = true) (h : numOk s = true) (h2 : Lib.nDigits (readI s.data.toList).natAbs ≤ sizeX x) : pvCode x s = 0 ∧ pvP x s = numL (sizeX x) (readI s.data.toList).natAbs (decide (readI s.data.toList < 0)) ∧ pvR ys x s = putL ys x.fr.toNat (numL (sizeX x) (readI s.data.toList).natAbs (decide (readI s.data.toList < 0))) := by
  have hl : pvL x s = numL (sizeX x) (readI s.data.toList).natAbs (decide (readI s.data.toList < 0)) := by unfold pvL; rw [hk]; rfl
  have := pv_yes (x := x) (s := s) ys (by unfold pvCode; rw [hk, h, decide_eq_true h2]; rfl)
  rw [hl] at this; exact this
theorem pvt_7 {x : Itm} {s : ByteArray} (ys : List Int) (hk : (x.kind == 2) = false) (h : charsB s = false) : pvCode x s = 7 ∧ pvP x s = [] ∧ pvR ys x s = [] := pv_not ys (by unfold pvCode; rw [hk, h]; rfl) rfl
theorem pvt_e {x : Itm} {s : ByteArray} (ys : List Int) (hk : (x.kind == 2) = false) (h : charsB s = true) (h2 : endsB s = true) : pvCode x s = 7 ∧ pvP x s = [] ∧ pvR ys x s = [] := pv_not ys (by unfold pvCode; rw [hk, h, h2]; rfl) rfl
theorem pvt_5 {x : Itm} {s : ByteArray} (ys : List Int) (hk : (x.kind == 2) = false) (h : charsB s = true) (h2 : endsB s = false) (h3 : x.to - x.fr < (s.size : Int)) : pvCode x s = 5 ∧ pvP x s = [] ∧ pvR ys x s = [] := pv_not ys (by unfold pvCode; rw [hk, h, h2, if_pos h3]; rfl) rfl
theorem pvt_0 {x : Itm} {s : ByteArray} (ys : List Int) (hk : (x.kind == 2) = false) (h : charsB s = true) (h2 : endsB s = false) (h3 : ¬ x.to - x.fr < (s.size : Int)) : pvCode x s = 0 ∧ pvP x s = punchUp s (sizeX x) s.size ∧ pvR ys x s = putL ys x.fr.toNat (punchUp s (sizeX x) s.size) := by
  have hl : pvL x s = punchUp s (sizeX x) s.size := by unfold pvL; rw [hk]; rfl
  have := pv_yes (x := x) (s := s) ys (by unfold pvCode; rw [hk, h, h2, if_neg h3]; rfl)
  rw [hl] at this; exact this
theorem pvL_len {x : Itm} {s : ByteArray} (h : pvCode x s = 0) (hw : x.fr ≤ x.to) : (pvL x s).length = sizeX x := by
  unfold pvL
  cases hk : (x.kind == 2)
  · show (punchUp s (sizeX x) s.size).length = _
    refine punchUp_length s (Nat.le_refl _) ?_
    unfold pvCode at h
    rw [hk] at h
    simp only [Bool.false_eq_true, if_false] at h
    split at h
    · split at h
      · cases h
      · unfold sizeX; omega
    · cases h
  · exact numL_length _ _ _
theorem pvR_len {ys : List Int} {x : Itm} {s : ByteArray} (h : fieldB x.fr x.to ys.length = true) (h0 : pvCode x s = 0) : (putL ys x.fr.toNat (pvL x s)).length = ys.length := by
  obtain ⟨h1, h2, h3⟩ := fieldB_yes h
  exact putL_length (by rw [pvL_len h0 (by omega)]; unfold sizeX; omega)

/-! ### an item of a card changed -/
def chgCode (wd : Int) (xs : List Itm) (ys : List Int) (nm s : ByteArray) : Int :=
  if layI wd xs [ys] (validCardL ys) == 0 then (match xs[(findI xs nm).toNat]? with | some x => if findI xs nm < 0 then 3 else pvCode x s | none => 3) else layI wd xs [ys] (validCardL ys)
def chgL (wd : Int) (xs : List Itm) (ys : List Int) (nm s : ByteArray) : List Int :=
  if chgCode wd xs ys nm s == 0 then (match xs[(findI xs nm).toNat]? with | some x => pvR ys x s | none => []) else []
theorem chg_not {wd : Int} {xs : List Itm} {ys : List Int} {nm s : ByteArray} {k : Int} (h : chgCode wd xs ys nm s = k) (hk : (k == 0) = false) : chgL wd xs ys nm s = [] ∧ chgCode wd xs ys nm s = k := ⟨by unfold chgL; rw [h, hk]; rfl, h⟩
theorem chg_lay {wd : Int} {xs : List Itm} {ys : List Int} (nm s : ByteArray) (h : (layI wd xs [ys] (validCardL ys) == 0) = false) : chgL wd xs ys nm s = [] ∧ chgCode wd xs ys nm s = layI wd xs [ys] (validCardL ys) := chg_not (by unfold chgCode; rw [h]; rfl) h
theorem chg_3 {wd : Int} {xs : List Itm} {ys : List Int} {nm : ByteArray} (s : ByteArray) (h : layI wd xs [ys] (validCardL ys) = 0) (h2 : findI xs nm < 0) : chgL wd xs ys nm s = [] ∧ chgCode wd xs ys nm s = 3 := chg_not (by unfold chgCode; rw [h]; simp only [beq_self_eq_true, if_true]; cases xs[(findI xs nm).toNat]? with | none => rfl | some x => simp [h2]) rfl
theorem chg_pv {wd : Int} {xs : List Itm} {ys : List Int} {nm s : ByteArray} {x : Itm} {k : Nat} (h : layI wd xs [ys] (validCardL ys) = 0) (h2 : findI xs nm = (k : Int)) (hx : xs[k]? = some x) : chgL wd xs ys nm s = pvR ys x s ∧ chgCode wd xs ys nm s = pvCode x s := by
  have e : chgCode wd xs ys nm s = pvCode x s := by
    unfold chgCode
    rw [h, h2, Int.toNat_natCast, hx]
    simp only [beq_self_eq_true, if_true]
    rw [if_neg (by omega)]
  refine ⟨?_, e⟩
  unfold chgL
  rw [e, h2, Int.toNat_natCast, hx]
  unfold pvR
  cases hc : (pvCode x s == 0)
  · rfl
  · simp only [hc, if_true]
theorem pvR_small {ys : List Int} {x : Itm} {s : ByteArray} {n : Nat} (hw : x.fr ≤ x.to) (h : ys.length ≤ n) (hx : x.to ≤ ys.length) (h0 : 0 ≤ x.fr) : (pvR ys x s).length ≤ n := by
  unfold pvR
  split
  · rename_i hc
    have h1 := pvL_len (show pvCode x s = 0 by simpa using hc) hw
    rw [putL_length (by rw [h1]; unfold sizeX; omega)]; exact h
  · simp

/-! ### the card of all values -/
def zipV (xs : List Itm) (vs : List ByteArray) : List (Itm × ByteArray) := xs.zip vs
def okV (p : Itm × ByteArray) : Bool := pvCode p.1 p.2 == 0
def firstC (xs : List Itm) (vs : List ByteArray) : Int := match (zipV xs vs).find? (fun p => !okV p) with | some p => pvCode p.1 p.2 | none => 0
def cfUp (n : Nat) (xs : List Itm) (vs : List ByteArray) (k : Nat) : List Int := ((zipV xs vs).take k).foldl (fun ys p => putL ys p.1.fr.toNat (pvL p.1 p.2)) (zerosL n)
theorem zipV_at {xs : List Itm} {vs : List ByteArray} {k : Nat} {x : Itm} {v : ByteArray} (hx : xs[k]? = some x) (hv : vs[k]? = some v) : (zipV xs vs)[k]? = some (x, v) := by
  unfold zipV; rw [List.getElem?_zip_eq_some]; exact ⟨hx, hv⟩
theorem cfUp_zero (n : Nat) (xs : List Itm) (vs : List ByteArray) : cfUp n xs vs 0 = zerosL n := rfl
theorem cfUp_succ {n : Nat} {xs : List Itm} {vs : List ByteArray} {k : Nat} {x : Itm} {v : ByteArray} (hx : xs[k]? = some x) (hv : vs[k]? = some v) : cfUp n xs vs (k + 1) = putL (cfUp n xs vs k) x.fr.toNat (pvL x v) := by
  unfold cfUp; rw [List.take_add_one, zipV_at hx hv, List.foldl_append]; rfl
theorem first_hit {xs : List Itm} {vs : List ByteArray} {k : Nat} {x : Itm} {v : ByteArray} (hx : xs[k]? = some x) (hv : vs[k]? = some v) (ha : ((zipV xs vs).take k).all okV = true) (hb : okV (x, v) = false) : firstC xs vs = pvCode x v := by
  have := (find_hit (p := fun p => !okV p) (zipV_at hx hv) (by simpa using ha) (by simp [hb])).2
  unfold firstC; rw [this]
theorem first_none {xs : List Itm} {vs : List ByteArray} {k : Nat} (h : (zipV xs vs).length ≤ k) (ha : ((zipV xs vs).take k).all okV = true) : firstC xs vs = 0 := by
  have := (find_none (p := fun p => !okV p) h (by simpa using ha)).2
  unfold firstC; rw [this]
def cfCode (wd : Int) (xs : List Itm) (vs : List ByteArray) : Int := if validLayB wd xs then (if vs.length = xs.length then firstC xs vs else 2) else 1
def cfL (wd : Int) (xs : List Itm) (vs : List ByteArray) : List Int := if cfCode wd xs vs == 0 then cfUp wd.toNat xs vs xs.length else []
theorem cfv_not {wd : Int} {xs : List Itm} {vs : List ByteArray} {k : Int} (h : cfCode wd xs vs = k) (hk : (k == 0) = false) : cfL wd xs vs = [] ∧ cfCode wd xs vs = k := ⟨by unfold cfL; rw [h, hk]; rfl, h⟩
theorem cfv_1 {wd : Int} {xs : List Itm} (vs : List ByteArray) (h : validLayB wd xs = false) : cfL wd xs vs = [] ∧ cfCode wd xs vs = 1 := cfv_not (by unfold cfCode; rw [h]; rfl) rfl
theorem cfv_2 {wd : Int} {xs : List Itm} {vs : List ByteArray} (h : validLayB wd xs = true) (h2 : ¬ vs.length = xs.length) : cfL wd xs vs = [] ∧ cfCode wd xs vs = 2 := cfv_not (by unfold cfCode; rw [h]; simp [h2]) rfl
theorem cfv_bad {wd : Int} {xs : List Itm} {vs : List ByteArray} {k : Nat} {x : Itm} {v : ByteArray} (h : validLayB wd xs = true) (h2 : vs.length = xs.length) (hx : xs[k]? = some x) (hv : vs[k]? = some v) (ha : ((zipV xs vs).take k).all okV = true) (hb : okV (x, v) = false) : cfL wd xs vs = [] ∧ cfCode wd xs vs = pvCode x v := by
  refine cfv_not ?_ hb
  unfold cfCode; rw [h, if_pos h2]; exact first_hit hx hv ha hb
theorem cfv_ok {wd : Int} {xs : List Itm} {vs : List ByteArray} (h : validLayB wd xs = true) (h2 : vs.length = xs.length) (ha : ((zipV xs vs).take xs.length).all okV = true) : cfL wd xs vs = cfUp wd.toNat xs vs xs.length ∧ cfCode wd xs vs = 0 := by
  have e : cfCode wd xs vs = 0 := by
    unfold cfCode; rw [h, if_pos h2]
    exact first_none (by unfold zipV; rw [List.length_zip]; omega) ha
  exact ⟨by unfold cfL; rw [e]; rfl, e⟩
end Go.Proofs.YtcbjfgjlhjjpiaaGreatDoor
