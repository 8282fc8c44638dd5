/- What a value of an item punches; cards of values: plain. No program in sight. A number that is punched is read again: plain. No program in sight. Records: a value that is punched is read again, and what other fields hold is left as it was: plain. No program in sight. -/
import Derived.Test.YtmpfnkheohlmiaaGreatDoorQJ
import Derived.Test.YtmpfnkheohlmiaaGreatDoorQF
import Derived.Test.YtmpfnkheohlmiaaGreatDoorQL
import Derived.Test.YtmpfnkheohlmiaaGreatDoorNumIn
import Derived.Test.YtmpfnkheohlmiaaGreatDoorQG
namespace Go.Proofs.YtmpfnkheohlmiaaGreatDoor
open Go.RowKit
set_option linter.unusedVariables false
set_option linter.unusedSimpArgs false
set_option linter.unnecessarySimpa false

def sizeX (x : Itm) : Nat := (x.to - x.fr).toNat
def endsB (s : ByteArray) : Bool := s.data.toList.getLast? == some 32
def numOk (s : ByteArray) : Bool := readL s.data.toList && inB (readI s.data.toList) (-999999999999) 999999999999
def pvCode (x : Itm) (s : ByteArray) : Int :=
  if x.kind == 2 then (if numOk s then (if decide (Lib.nDigits (readI s.data.toList).natAbs ≤ sizeX x) then 0 else 5) else 7)
  else (if charsB s && !endsB s then (if x.to - x.fr < (s.size : Int) then 5 else 0) else 7)
def pvL (x : Itm) (s : ByteArray) : List Int :=
  if x.kind == 2 then numL (sizeX x) (readI s.data.toList).natAbs (decide (readI s.data.toList < 0)) else punchUp s (sizeX x) s.size
def pvP (x : Itm) (s : ByteArray) : List Int := if pvCode x s == 0 then pvL x s else []
def pvR (ys : List Int) (x : Itm) (s : ByteArray) : List Int := if pvCode x s == 0 then putL ys x.fr.toNat (pvL x s) else []
theorem pv_not {x : Itm} {s : ByteArray} {k : Int} (ys : List Int) (h : pvCode x s = k) (hk : (k == 0) = false) : pvCode x s = k ∧ pvP x s = [] ∧ pvR ys x s = [] := ⟨h, by unfold pvP; rw [h, hk]; rfl, by unfold pvR; rw [h, hk]; rfl⟩
theorem pv_yes {x : Itm} {s : ByteArray} (ys : List Int) (h : pvCode x s = 0) : pvCode x s = 0 ∧ pvP x s = pvL x s ∧ pvR ys x s = putL ys x.fr.toNat (pvL x s) := ⟨h, by unfold pvP; rw [h]; rfl, by unfold pvR; rw [h]; rfl⟩
theorem pvn_7 {x : Itm} {s : ByteArray} (ys : List Int) (hk : (x.kind == 2) = true) (h : numOk s = false) : pvCode x s = 7 ∧ pvP x s = [] ∧ pvR ys x s = [] := pv_not ys (by unfold pvCode; rw [hk, h]; rfl) rfl
theorem pvn_5 {x : Itm} {s : ByteArray} (ys : List Int) (hk : (x.kind == 2) = true) (h : numOk s = true) (h2 : ¬ Lib.nDigits (readI s.data.toList).natAbs ≤ sizeX x) : pvCode x s = 5 ∧ pvP x s = [] ∧ pvR ys x s = [] := pv_not ys (by unfold pvCode; rw [hk, h, decide_eq_false h2]; rfl) rfl
theorem pvn_0 {x : Itm} {s : ByteArray} (ys : List Int) (hk : (x.kind == 2) = true) (h : numOk s = true) (h2 : Lib.nDigits (readI s.data.toList).natAbs ≤ sizeX x) : pvCode x s = 0 ∧ pvP x s = numL (sizeX x) (readI s.data.toList).natAbs (decide (readI s.data.toList < 0)) ∧ pvR ys x s = putL ys x.fr.toNat (numL (sizeX x) (readI s.data.toList).natAbs (decide (readI s.data.toList < 0))) := by
  have hl : pvL x s = numL (sizeX x) (readI s.data.toList).natAbs (decide (readI s.data.toList < 0)) := by unfold pvL; rw [hk]; rfl
  have := pv_yes (x := x) (s := s) ys (by unfold pvCode; rw [hk, h, decide_eq_true h2]; rfl)
  rw [hl] at this; exact this
theorem pvt_7 {x : Itm} {s : ByteArray} (ys : List Int) (hk : (x.kind == 2) = false) (h : charsB s = false) : pvCode x s = 7 ∧ pvP x s = [] ∧ pvR ys x s = [] := pv_not ys (by unfold pvCode; rw [hk, h]; rfl) rfl
theorem pvt_e {x : Itm} {s : ByteArray} (ys : List Int) (hk : (x.kind == 2) = false) (h : charsB s = true) (h2 : endsB s = true) : pvCode x s = 7 ∧ pvP x s = [] ∧ pvR ys x s = [] := pv_not ys (by unfold pvCode; rw [hk, h, h2]; rfl) rfl
theorem pvt_5 {x : Itm} {s : ByteArray} (ys : List Int) (hk : (x.kind == 2) = false) (h : charsB s = true) (h2 : endsB s = false) (h3 : x.to - x.fr < (s.size : Int)) : pvCode x s = 5 ∧ pvP x s = [] ∧ pvR ys x s = [] := pv_not ys (by unfold pvCode; rw [hk, h, h2, if_pos h3]; rfl) rfl
theorem pvt_0 {x : Itm} {s : ByteArray} (ys : List Int) (hk : (x.kind == 2) = false) (h : charsB s = true) (h2 : endsB s = false) (h3 : ¬ x.to - x.fr < (s.size : Int)) : pvCode x s = 0 ∧ pvP x s = punchUp s (sizeX x) s.size ∧ pvR ys x s = putL ys x.fr.toNat (punchUp s (sizeX x) s.size) := by
  have hl : pvL x s = punchUp s (sizeX x) s.size := by unfold pvL; rw [hk]; rfl
  have := pv_yes (x := x) (s := s) ys (by unfold pvCode; rw [hk, h, h2, if_neg h3]; rfl)
  rw [hl] at this; exact this
theorem pvL_len {x : Itm} {s : ByteArray} (h : pvCode x s = 0) (hw : x.fr ≤ x.to) : (pvL x s).length = sizeX x := by
  unfold pvL
  cases hk : (x.kind == 2)
  · show (punchUp s (sizeX x) s.size).length = _
    refine punchUp_length s (Nat.le_refl _) ?_
    unfold pvCode at h
    rw [hk] at h
    simp only [Bool.false_eq_true, if_false] at h
    split at h
    · split at h
      · cases h
      · unfold sizeX; omega
    · cases h
  · exact numL_length _ _ _
theorem pvR_len {ys : List Int} {x : Itm} {s : ByteArray} (h : fieldB x.fr x.to ys.length = true) (h0 : pvCode x s = 0) : (putL ys x.fr.toNat (pvL x s)).length = ys.length := by
  obtain ⟨h1, h2, h3⟩ := fieldB_yes h
  exact putL_length (by rw [pvL_len h0 (by omega)]; unfold sizeX; omega)

/-! ### an item of a card changed -/
def chgCode (wd : Int) (xs : List Itm) (ys : List Int) (nm s : ByteArray) : Int :=
  if layI wd xs [ys] (validCardL ys) == 0 then (match xs[(findI xs nm).toNat]? with | some x => if findI xs nm < 0 then 3 else pvCode x s | none => 3) else layI wd xs [ys] (validCardL ys)
def chgL (wd : Int) (xs : List Itm) (ys : List Int) (nm s : ByteArray) : List Int :=
  if chgCode wd xs ys nm s == 0 then (match xs[(findI xs nm).toNat]? with | some x => pvR ys x s | none => []) else []
theorem chg_not {wd : Int} {xs : List Itm} {ys : List Int} {nm s : ByteArray} {k : Int} (h : chgCode wd xs ys nm s = k) (hk : (k == 0) = false) : chgL wd xs ys nm s = [] ∧ chgCode wd xs ys nm s = k := ⟨by unfold chgL; rw [h, hk]; rfl, h⟩
theorem chg_lay {wd : Int} {xs : List Itm} {ys : List Int} (nm s : ByteArray) (h : (layI wd xs [ys] (validCardL ys) == 0) = false) : chgL wd xs ys nm s = [] ∧ chgCode wd xs ys nm s = layI wd xs [ys] (validCardL ys) := chg_not (by unfold chgCode; rw [h]; rfl) h
theorem chg_3 {wd : Int} {xs : List Itm} {ys : List Int} {nm : ByteArray} (s : ByteArray) (h : layI wd xs [ys] (validCardL ys) = 0) (h2 : findI xs nm < 0) : chgL wd xs ys nm s = [] ∧ chgCode wd xs ys nm s = 3 := chg_not (by unfold chgCode; rw [h]; simp only [beq_self_eq_true, if_true]; cases xs[(findI xs nm).toNat]? with | none => rfl | some x => simp [h2]) rfl
theorem chg_pv {wd : Int} {xs : List Itm} {ys : List Int} {nm s : ByteArray} {x : Itm} {k : Nat} (h : layI wd xs [ys] (validCardL ys) = 0) (h2 : findI xs nm = (k : Int)) (hx : xs[k]? = some x) : chgL wd xs ys nm s = pvR ys x s ∧ chgCode wd xs ys nm s = pvCode x s := by
  have e : chgCode wd xs ys nm s = pvCode x s := by
    unfold chgCode
    rw [h, h2, Int.toNat_natCast, hx]
    simp only [beq_self_eq_true, if_true]
    rw [if_neg (by omega)]
  refine ⟨?_, e⟩
  unfold chgL
  rw [e, h2, Int.toNat_natCast, hx]
  unfold pvR
  cases hc : (pvCode x s == 0)
  · rfl
  · simp only [hc, if_true]
theorem pvR_small {ys : List Int} {x : Itm} {s : ByteArray} {n : Nat} (hw : x.fr ≤ x.to) (h : ys.length ≤ n) (hx : x.to ≤ ys.length) (h0 : 0 ≤ x.fr) : (pvR ys x s).length ≤ n := by
  unfold pvR
  split
  · rename_i hc
    have h1 := pvL_len (show pvCode x s = 0 by simpa using hc) hw
    rw [putL_length (by rw [h1]; unfold sizeX; omega)]; exact h
  · simp

/-! ### the card of all values -/
def zipV (xs : List Itm) (vs : List ByteArray) : List (Itm × ByteArray) := xs.zip vs
def okV (p : Itm × ByteArray) : Bool := pvCode p.1 p.2 == 0
def firstC (xs : List Itm) (vs : List ByteArray) : Int := match (zipV xs vs).find? (fun p => !okV p) with | some p => pvCode p.1 p.2 | none => 0
def cfUp (n : Nat) (xs : List Itm) (vs : List ByteArray) (k : Nat) : List Int := ((zipV xs vs).take k).foldl (fun ys p => putL ys p.1.fr.toNat (pvL p.1 p.2)) (zerosL n)
theorem zipV_at {xs : List Itm} {vs : List ByteArray} {k : Nat} {x : Itm} {v : ByteArray} (hx : xs[k]? = some x) (hv : vs[k]? = some v) : (zipV xs vs)[k]? = some (x, v) := by
  unfold zipV; rw [List.getElem?_zip_eq_some]; exact ⟨hx, hv⟩
theorem cfUp_zero (n : Nat) (xs : List Itm) (vs : List ByteArray) : cfUp n xs vs 0 = zerosL n := rfl
theorem cfUp_succ {n : Nat} {xs : List Itm} {vs : List ByteArray} {k : Nat} {x : Itm} {v : ByteArray} (hx : xs[k]? = some x) (hv : vs[k]? = some v) : cfUp n xs vs (k + 1) = putL (cfUp n xs vs k) x.fr.toNat (pvL x v) := by
  unfold cfUp; rw [List.take_add_one, zipV_at hx hv, List.foldl_append]; rfl
theorem first_hit {xs : List Itm} {vs : List ByteArray} {k : Nat} {x : Itm} {v : ByteArray} (hx : xs[k]? = some x) (hv : vs[k]? = some v) (ha : ((zipV xs vs).take k).all okV = true) (hb : okV (x, v) = false) : firstC xs vs = pvCode x v := by
  have := (find_hit (p := fun p => !okV p) (zipV_at hx hv) (by simpa using ha) (by simp [hb])).2
  unfold firstC; rw [this]
theorem first_none {xs : List Itm} {vs : List ByteArray} {k : Nat} (h : (zipV xs vs).length ≤ k) (ha : ((zipV xs vs).take k).all okV = true) : firstC xs vs = 0 := by
  have := (find_none (p := fun p => !okV p) h (by simpa using ha)).2
  unfold firstC; rw [this]
def cfCode (wd : Int) (xs : List Itm) (vs : List ByteArray) : Int := if validLayB wd xs then (if vs.length = xs.length then firstC xs vs else 2) else 1
def cfL (wd : Int) (xs : List Itm) (vs : List ByteArray) : List Int := if cfCode wd xs vs == 0 then cfUp wd.toNat xs vs xs.length else []
theorem cfv_not {wd : Int} {xs : List Itm} {vs : List ByteArray} {k : Int} (h : cfCode wd xs vs = k) (hk : (k == 0) = false) : cfL wd xs vs = [] ∧ cfCode wd xs vs = k := ⟨by unfold cfL; rw [h, hk]; rfl, h⟩
theorem cfv_1 {wd : Int} {xs : List Itm} (vs : List ByteArray) (h : validLayB wd xs = false) : cfL wd xs vs = [] ∧ cfCode wd xs vs = 1 := cfv_not (by unfold cfCode; rw [h]; rfl) rfl
theorem cfv_2 {wd : Int} {xs : List Itm} {vs : List ByteArray} (h : validLayB wd xs = true) (h2 : ¬ vs.length = xs.length) : cfL wd xs vs = [] ∧ cfCode wd xs vs = 2 := cfv_not (by unfold cfCode; rw [h]; simp [h2]) rfl
theorem cfv_bad {wd : Int} {xs : List Itm} {vs : List ByteArray} {k : Nat} {x : Itm} {v : ByteArray} (h : validLayB wd xs = true) (h2 : vs.length = xs.length) (hx : xs[k]? = some x) (hv : vs[k]? = some v) (ha : ((zipV xs vs).take k).all okV = true) (hb : okV (x, v) = false) : cfL wd xs vs = [] ∧ cfCode wd xs vs = pvCode x v := by
  refine cfv_not ?_ hb
  unfold cfCode; rw [h, if_pos h2]; exact first_hit hx hv ha hb
theorem cfv_ok {wd : Int} {xs : List Itm} {vs : List ByteArray} (h : validLayB wd xs = true) (h2 : vs.length = xs.length) (ha : ((zipV xs vs).take xs.length).all okV = true) : cfL wd xs vs = cfUp wd.toNat xs vs xs.length ∧ cfCode wd xs vs = 0 := by
  have e : cfCode wd xs vs = 0 := by
    unfold cfCode; rw [h, if_pos h2]
    exact first_none (by unfold zipV; rw [List.length_zip]; omega) ha
  exact ⟨by unfold cfL; rw [e]; rfl, e⟩
end Go.Proofs.YtmpfnkheohlmiaaGreatDoor
namespace Go.Proofs.YtmpfnkheohlmiaaGreatDoor
open Go.RowKit
set_option maxRecDepth 100000
set_option linter.unusedVariables false
set_option linter.unusedSimpArgs false
set_option linter.unnecessarySimpa false

theorem dig_fin : ∀ d : Fin 10, digI (bitI d.val) = d.val ∧ ¬ bitI d.val = 0 ∧ negB (bitI d.val) = false ∧ negB (bits BinOp.or IntKind.i64 (bitI d.val) 2) = true ∧ clrI (bits BinOp.or IntKind.i64 (bitI d.val) 2) = bitI d.val ∧ 0 ≤ bitI d.val ∧ bitI d.val ≤ 4095 := by decide +kernel
theorem dig_at {d : Nat} (h : d < 10) : digI (bitI (d : Int)) = d ∧ ¬ bitI (d : Int) = 0 ∧ negB (bitI (d : Int)) = false ∧ negB (bits BinOp.or IntKind.i64 (bitI (d : Int)) 2) = true ∧ clrI (bits BinOp.or IntKind.i64 (bitI (d : Int)) 2) = bitI (d : Int) ∧ 0 ≤ bitI (d : Int) ∧ bitI (d : Int) ≤ 4095 := dig_fin ⟨d, h⟩
theorem digs_at {u wd k : Nat} (h : k < wd) : (digs u wd)[k]? = some (bitI ((u / 10 ^ (wd - 1 - k) % 10 : Nat) : Int)) := by
  unfold digs
  rw [List.getElem?_map, List.getElem?_range h]; rfl
theorem digs_mask {u wd : Nat} {x : Int} (h : x ∈ digs u wd) : MaskP x := by
  unfold digs at h
  obtain ⟨j, _, rfl⟩ := List.mem_map.1 h
  obtain ⟨_, _, _, _, _, h1, h2⟩ := dig_at (show u / 10 ^ (wd - 1 - j) % 10 < 10 by omega)
  exact ⟨h1, h2⟩
theorem numL_mask {wd u : Nat} {neg : Bool} {x : Int} (hw : 1 ≤ wd) (h : x ∈ numL wd u neg) : MaskP x := by
  unfold numL signL at h
  split at h
  · rcases List.mem_or_eq_of_mem_set h with h | h
    · exact digs_mask h
    · rw [h]
      refine or_mask ?_ ⟨by omega, by omega⟩
      have hl := digs_length u wd
      rw [hl, List.getD_eq_getElem?_getD, digs_at (by omega)]
      obtain ⟨_, _, _, _, _, h1, h2⟩ := dig_at (show u / 10 ^ (wd - 1 - (wd - 1)) % 10 < 10 by omega)
      exact ⟨h1, h2⟩
  · exact digs_mask h
/-- the first k columns of a number -/
theorem numUp_digs {u wd : Nat} (hu : u < 10 ^ wd) : ∀ k, k ≤ wd → numUp (digs u wd) k = some (decide (0 < k), ((u / 10 ^ (wd - k) : Nat) : Int))
  | 0, _ => by
    rw [numUp_zero, Nat.sub_zero, Nat.div_eq_of_lt hu]; rfl
  | k + 1, hk => by
    have hd : u / 10 ^ (wd - 1 - k) % 10 < 10 := by omega
    obtain ⟨h1, h2, _⟩ := dig_at hd
    have hz : ((bitI ((u / 10 ^ (wd - 1 - k) % 10 : Nat) : Int) == 0) && !(decide (0 < k))) = false := by
      rw [show (bitI ((u / 10 ^ (wd - 1 - k) % 10 : Nat) : Int) == 0) = false from beq_false_of_ne h2]; rfl
    rw [numUp_succ (digs_at (by omega)), numUp_digs hu k (by omega), step_dig hz (by rw [h1]; omega), h1]
    have e : u / 10 ^ (wd - k) = u / 10 ^ (wd - 1 - k) / 10 := by
      have e0 : wd - k = (wd - 1 - k) + 1 := by omega
      rw [e0, Nat.pow_succ, Nat.div_div_eq_div_mul]
    rw [e, show wd - (k + 1) = wd - 1 - k by omega, decide_eq_true (show 0 < k + 1 by omega)]
    generalize u / 10 ^ (wd - 1 - k) = q
    congr 2
    push_cast
    omega
theorem num_back {u wd : Nat} {neg : Bool} (hw : 1 ≤ wd) (hu : Lib.nDigits u ≤ wd) (hn : neg = true → 0 < u) : numRes (numL wd u neg) = (if neg then -(u : Int) else u, true) := by
  have hu10 : u < 10 ^ wd := Nat.lt_of_lt_of_le (Lib.lt_pow_nDigits u) (Nat.pow_le_pow_right (by decide) hu)
  obtain ⟨k, rfl⟩ : ∃ k, wd = k + 1 := ⟨wd - 1, by omega⟩
  have hl := digs_length u (k + 1)
  have hd : u % 10 < 10 := by omega
  obtain ⟨h1, h2, h3, h4, h5, _⟩ := dig_at hd
  have hlast : (digs u (k + 1))[k]? = some (bitI ((u % 10 : Nat) : Int)) := by
    rw [digs_at (by omega), show k + 1 - 1 - k = 0 by omega, Nat.pow_zero, Nat.div_one]
  have hup := numUp_digs hu10 k (by omega)
  rw [show k + 1 - k = 1 by omega, Nat.pow_one] at hup
  have hsum : 10 * ((u / 10 : Nat) : Int) + ((u % 10 : Nat) : Int) = (u : Int) := by push_cast; omega
  cases neg with
  | false =>
    show numRes (digs u (k + 1)) = _
    rw [numRes_of hl hlast, hup]
    simp only [h3, h1, hsum]
    rw [show (bitI ((u % 10 : Nat) : Int) == 0) = false from beq_false_of_ne h2]
    simp only [Bool.false_and, Bool.false_eq_true, if_false]
    rw [if_neg (by omega)]
  | true =>
    have hpos := hn rfl
    have e : numL (k + 1) u true = (digs u (k + 1)).set k (bits BinOp.or IntKind.i64 (bitI ((u % 10 : Nat) : Int)) 2) := by
      show signL true (digs u (k + 1)) = _
      unfold signL
      rw [if_pos rfl, hl, Nat.add_sub_cancel, List.getD_eq_getElem?_getD, hlast]; rfl
    have hl2 : (numL (k + 1) u true).length = k + 1 := numL_length _ _ _
    have hlast2 : (numL (k + 1) u true)[k]? = some (bits BinOp.or IntKind.i64 (bitI ((u % 10 : Nat) : Int)) 2) := by
      rw [e, List.getElem?_set]; simp [hl]
    have hup2 : numUp (numL (k + 1) u true) k = numUp (digs u (k + 1)) k := by
      rw [e]; unfold numUp; rw [List.take_set_of_le (Nat.le_refl _)]
    rw [numRes_of hl2 hlast2, hup2, hup]
    simp only [h4, h5, h1, hsum, if_true]
    rw [if_neg (by omega), if_neg (by omega)]
theorem part_put {xs l : List Int} {f t : Nat} (h1 : f ≤ t) (h2 : t ≤ xs.length) (hl : l.length = t - f) : partL (putL xs f l) (f : Int) (t : Int) = l := by
  unfold partL putL
  rw [Int.toNat_natCast, show ((t : Int) - (f : Int)).toNat = l.length by omega, List.append_assoc]
  rw [List.drop_append_of_le_length (by rw [List.length_take]; omega)]
  rw [show List.drop f (List.take f xs) = [] by rw [List.drop_eq_nil_iff, List.length_take]; omega]
  simp
theorem put_other {xs l : List Int} {f j : Nat} (h2 : f + l.length ≤ xs.length) (h : j < f ∨ f + l.length ≤ j) : (putL xs f l)[j]? = xs[j]? := by
  unfold putL
  rcases h with h | h
  · rw [List.append_assoc, List.getElem?_append_left (by rw [List.length_take]; omega), List.getElem?_take, if_pos h]
  · rw [List.getElem?_append_right (by rw [List.length_append, List.length_take]; omega), List.length_append, List.length_take, List.getElem?_drop]
    congr 1; omega
theorem put_mask {xs l : List Int} {f : Nat} (hx : ∀ x ∈ xs, MaskP x) (hl : ∀ x ∈ l, MaskP x) : ∀ x ∈ putL xs f l, MaskP x := by
  intro x h
  unfold putL at h
  rcases List.mem_append.1 h with h | h
  · rcases List.mem_append.1 h with h | h
    · exact hx x (List.mem_of_mem_take h)
    · exact hl x h
  · exact hx x (List.mem_of_mem_drop h)
/-- all that the law asks of a number that is punched -/
theorem punched_num {xs : List Int} {f t : Nat} {n : Int} (hv : validCardL xs = true) (hP : ∀ x ∈ xs, MaskP x) (h1 : f < t) (h2 : t ≤ xs.length) (hn0 : -999999999999 ≤ n) (hn1 : n ≤ 999999999999) :
    (pnCode xs f t n = 5 ∧ 10 ≤ n.natAbs) ∨ (pnCode xs f t n = 0 ∧ (pnL xs f t n).length = xs.length ∧ (t - f ≤ 12 → numInI (pnL xs f t n) f t = n ∧ numInCode (pnL xs f t n) f t = 0) ∧ validCardL (pnL xs f t n) = true ∧ ∀ j, (j < f ∨ t ≤ j) → (pnL xs f t n)[j]? = xs[j]?) := by
  have hfi : fieldI xs f t = 0 := field_ok hv (fieldB_ok (by omega) (by omega) (by omega))
  have hin : inB n (-999999999999) 999999999999 = true := inB_true.2 ⟨hn0, hn1⟩
  have hwd : ((t : Int) - (f : Int)).toNat = t - f := by omega
  by_cases hfit : Lib.nDigits n.natAbs ≤ t - f
  · obtain ⟨p1, p2⟩ := pn_ok hfi hin (by rw [hwd]; exact hfit)
    rw [hwd, Int.toNat_natCast] at p2
    have hll := numL_length (t - f) n.natAbs (decide (n < 0))
    have hlen : (pnL xs f t n).length = xs.length := by rw [p2]; exact putL_length (by omega)
    have hvd : validCardL (pnL xs f t n) = true := by
      have := validCard_len hv
      refine card_valid (by omega) (by omega) ?_
      rw [p2]
      exact put_mask hP (fun x hx => numL_mask (by omega) hx)
    refine .inr ⟨p1, hlen, fun h12 => ?_, hvd, fun j hj => ?_⟩
    · have hfd : fieldI (pnL xs f t n) f t = 0 := field_ok hvd (fieldB_ok (by omega) (by omega) (by omega))
      have hpp : partL (pnL xs f t n) f t = numL (t - f) n.natAbs (decide (n < 0)) := by rw [p2]; exact part_put (by omega) h2 hll
      have hbk := num_back (u := n.natAbs) (neg := decide (n < 0)) (show 1 ≤ t - f by omega) hfit (fun h => by have := of_decide_eq_true h; omega)
      obtain ⟨q1, q2⟩ := ni_ok hfd (by omega) (by rw [hpp, hbk])
      refine ⟨?_, q2⟩
      rw [q1, hpp, hbk]
      simp only
      by_cases hneg : n < 0
      · rw [decide_eq_true hneg, if_pos rfl]; omega
      · rw [decide_eq_false hneg, if_neg (by decide)]; omega
    · rw [p2]; exact put_other (by omega) (by rcases hj with h | h; exact .inl h; exact .inr (by omega))
  · obtain ⟨p1, _⟩ := pn_full hfi hin (by rw [hwd]; exact hfit)
    refine .inl ⟨p1, ?_⟩
    rcases Nat.lt_or_ge n.natAbs 10 with h | h
    · rw [Lib.nDigits_small h] at hfit; omega
    · exact h
end Go.Proofs.YtmpfnkheohlmiaaGreatDoor
namespace Go.Proofs.YtmpfnkheohlmiaaGreatDoor
open Go.RowKit
set_option maxRecDepth 100000
set_option linter.unusedVariables false
set_option linter.unusedSimpArgs false
set_option linter.unnecessarySimpa false

theorem code0_maskP (u : UInt8) : MaskP (code0 u.toNat) := code0_mask u
theorem punchUp_mask {s : ByteArray} {n k : Nat} : ∀ x ∈ punchUp s n k, MaskP x := by
  intro x hx
  unfold punchUp at hx
  rcases List.mem_append.1 hx with h | h
  · obtain ⟨c, _, rfl⟩ := List.mem_map.1 h
    exact code0_maskP c
  · rw [List.eq_of_mem_replicate h]; exact ⟨by decide, by decide⟩
theorem punchUp_legal {s : ByteArray} (h : charsB s = true) (n : Nat) : legalL (punchUp s n s.size) = true := by
  unfold legalL
  rw [List.all_eq_true]
  intro x hx
  unfold charsB at h
  rw [List.all_eq_true] at h
  unfold punchUp at hx
  rcases List.mem_append.1 hx with hx | hx
  · obtain ⟨c, hc, rfl⟩ := List.mem_map.1 hx
    exact decide_eq_true (char_back c (h c (List.mem_of_mem_take hc))).2.1
  · rw [List.eq_of_mem_replicate hx]; exact decide_eq_true blank_char.1
theorem punchUp_text {s : ByteArray} (h : charsB s = true) (n : Nat) : textL (punchUp s n s.size) = s.data.toList ++ List.replicate (n - s.size) 32 := by
  unfold charsB at h
  rw [List.all_eq_true] at h
  unfold textL punchUp
  rw [List.take_of_length_le (by rw [len_bytes]; exact Nat.le_refl _), List.map_append, List.map_map, List.map_replicate, blank_char.2]
  congr 1
  have : ∀ c ∈ s.data.toList, (chU ∘ fun c : UInt8 => code0 c.toNat) c = id c := by
    intro c hc
    obtain ⟨q1, q2, _⟩ := char_back c (h c hc)
    have := chU_is q2
    rw [q1] at this
    exact UInt8.toNat_inj.1 (by exact Int.ofNat_inj.1 this)
  rw [List.map_congr_left this, List.map_id]
theorem trim_back {l : List UInt8} (h : ¬ l.getLast? = some 32) (n : Nat) : Lib.trimRightB (l ++ List.replicate n 32) 32 = l := by
  rw [Lib.trimRightB_take (l ++ List.replicate n 32) 32 l.length (by simp) ?_ ?_]
  · simp
  · intro j b hj hb
    rw [List.getElem?_append_right hj] at hb
    exact List.eq_of_mem_replicate (List.mem_of_getElem? hb)
  · intro b h0 hb e
    rw [List.getElem?_append_left (by omega)] at hb
    apply h
    rw [List.getLast?_eq_getElem?, hb, e]
theorem bytes_back (s : ByteArray) : (⟨s.data.toList.toArray⟩ : ByteArray) = s := by
  apply ByteArray.ext; simp
theorem pv_zero {x : Itm} {s : ByteArray} (h : pvCode x s = 0) : ((x.kind == 2) = true ∧ numOk s = true ∧ Lib.nDigits (readI s.data.toList).natAbs ≤ sizeX x) ∨ ((x.kind == 2) = false ∧ charsB s = true ∧ endsB s = false ∧ (s.size : Int) ≤ x.to - x.fr) := by
  unfold pvCode at h
  cases hk : (x.kind == 2) <;> rw [hk] at h
  · simp only [Bool.false_eq_true, if_false] at h
    split at h
    · rename_i hc
      simp only [Bool.and_eq_true, Bool.not_eq_true'] at hc
      split at h
      · cases h
      · exact .inr ⟨rfl, hc.1, hc.2, by omega⟩
    · cases h
  · simp only [if_true] at h
    split at h
    · rename_i hc
      split at h
      · rename_i hd
        exact .inl ⟨rfl, hc, of_decide_eq_true hd⟩
      · cases h
    · cases h
/-- a value that is punched is read again -/
theorem val_back {x : Itm} {ys : List Int} {v : ByteArray} (h0 : 0 ≤ x.fr) (h1 : x.fr < x.to) (h2 : x.to ≤ ys.length) (h : pvCode x v = 0) : valS x (putL ys x.fr.toNat (pvL x v)) = (v, true) := by
  have hlen := pvL_len h (by omega)
  have hpart : partL (putL ys x.fr.toNat (pvL x v)) x.fr x.to = pvL x v := by
    have := part_put (xs := ys) (l := pvL x v) (f := x.fr.toNat) (t := x.to.toNat) (by omega) (by omega) (by rw [hlen]; unfold sizeX; omega)
    rwa [show ((x.fr.toNat : Nat) : Int) = x.fr by omega, show ((x.to.toNat : Nat) : Int) = x.to by omega] at this
  rcases pv_zero h with ⟨hk, hn, hd⟩ | ⟨hk, hc, he, hs⟩
  · have hl : pvL x v = numL (sizeX x) (readI v.data.toList).natAbs (decide (readI v.data.toList < 0)) := by unfold pvL; rw [hk]; rfl
    have hbk := num_back (wd := sizeX x) (u := (readI v.data.toList).natAbs) (neg := decide (readI v.data.toList < 0)) (by unfold sizeX; omega) hd (fun h => by have := of_decide_eq_true h; omega)
    rw [val_num _ hk]
    unfold valN okN
    rw [hpart, hl, hbk]
    have hr : readL v.data.toList = true := by unfold numOk at hn; simp only [Bool.and_eq_true] at hn; exact hn.1
    have hri : (if decide (readI v.data.toList < 0) = true then -(((readI v.data.toList).natAbs : Nat) : Int) else (((readI v.data.toList).natAbs : Nat) : Int)) = valL v.data.toList := by
      rw [readI_is hr rfl]
      split
      · rename_i hh; have := of_decide_eq_true hh; omega
      · rename_i hh; have : ¬ valL v.data.toList < 0 := fun e => hh (decide_eq_true e); omega
    simp only [hri]
    rw [← (readL_of hr).2, bytes_back]
  · have hl : pvL x v = punchUp v (sizeX x) v.size := by unfold pvL; rw [hk]; rfl
    rw [val_yes hk (by rw [hpart, hl]; exact punchUp_legal hc _), hpart, hl]
    congr 1
    unfold trimT textS
    simp only
    rw [punchUp_text hc, trim_back (by unfold endsB at he; intro e; rw [e] at he; simp at he), bytes_back]
/-- what a field that does not meet the punched one holds is left -/
theorem val_other {x y : Itm} {ys l : List Int} (h0 : 0 ≤ x.fr) (h1 : x.fr < x.to) (h2 : x.to ≤ ys.length) (hl : l.length = sizeX x) (g0 : 0 ≤ y.fr) (g1 : y.fr < y.to) (hm : y.to ≤ x.fr ∨ x.to ≤ y.fr) : valS y (putL ys x.fr.toNat l) = valS y ys := by
  have hp : partL (putL ys x.fr.toNat l) y.fr y.to = partL ys y.fr y.to := by
    apply List.ext_getElem?
    intro j
    unfold partL
    rw [List.getElem?_take, List.getElem?_take]
    by_cases hj : j < (y.to - y.fr).toNat
    · rw [if_pos hj, if_pos hj, List.getElem?_drop, List.getElem?_drop]
      refine put_other (by rw [hl]; unfold sizeX; omega) ?_
      rw [hl]; unfold sizeX
      omega
    · rw [if_neg hj, if_neg hj]
  unfold valS valN okN
  rw [hp]
theorem pvL_mask {x : Itm} {v : ByteArray} (hw : x.fr < x.to) : ∀ m ∈ pvL x v, MaskP m := by
  intro m hm
  unfold pvL at hm
  split at hm
  · exact numL_mask (by unfold sizeX; omega) hm
  · exact punchUp_mask m hm
theorem mask_of {xs : List Int} (h : validCardL xs = true) : ∀ x ∈ xs, MaskP x := by
  intro x hx
  unfold validCardL at h
  simp only [Bool.and_eq_true, List.all_eq_true] at h
  exact inB_true.1 (h.2 x hx)
theorem meet_no {x y : Itm} (h : clashB x y = false) : x.to ≤ y.fr ∨ y.to ≤ x.fr := by
  unfold clashB at h
  simp only [Bool.or_eq_false_iff] at h
  have h := h.2
  unfold meetB at h
  by_cases h1 : x.fr < y.to
  · by_cases h2 : y.fr < x.to
    · rw [decide_eq_true h1, decide_eq_true h2] at h; cases h
    · exact .inl (by omega)
  · exact .inr (by omega)
/-- two items of a valid layout have no column in common -/
theorem apart_two {wd : Int} {xs : List Itm} (h : validLayB wd xs = true) {i k : Nat} {x y : Itm} (hx : xs[k]? = some x) (hy : xs[i]? = some y) (hne : i ≠ k) : y.to ≤ x.fr ∨ x.to ≤ y.fr := by
  obtain ⟨_, _, _, w4⟩ := validLay_is h
  rcases Nat.lt_or_gt_of_ne hne with hlt | hlt
  · have h2 := (w4 k x hx).2
    rw [List.any_eq_false] at h2
    have h3 := h2 y (List.mem_of_getElem? (show (xs.take k)[i]? = some y by rw [List.getElem?_take, if_pos hlt, hy]))
    rcases meet_no (by simpa using h3) with h | h
    · exact .inr h
    · exact .inl h
  · have h2 := (w4 i y hy).2
    rw [List.any_eq_false] at h2
    have h3 := h2 x (List.mem_of_getElem? (show (xs.take i)[k]? = some x by rw [List.getElem?_take, if_pos hlt, hx]))
    exact meet_no (by simpa using h3)
theorem recL_at {xs : List Itm} {ys : List Int} {i : Nat} {x : Itm} (h : xs[i]? = some x) : (recL xs ys xs.length)[i]? = some (valS x ys).1 := by
  unfold recL; rw [List.take_of_length_le (Nat.le_refl _), List.getElem?_map, h]; rfl
theorem recL_length (xs : List Itm) (ys : List Int) : (recL xs ys xs.length).length = xs.length := by
  unfold recL; rw [List.take_of_length_le (Nat.le_refl _), List.length_map]
theorem rec_zero {wd : Int} {xs : List Itm} {ys : List Int} (h : recCode wd xs ys = 0) : layI wd xs [ys] (validCardL ys) = 0 ∧ xs.all (itemOk ys) = true := by
  unfold recCode at h
  cases hL : (layI wd xs [ys] (validCardL ys) == 0)
  · rw [hL] at h
    simp only [Bool.false_eq_true, if_false] at h
    rw [h] at hL; simp at hL
  · rw [hL] at h
    simp only [if_true] at h
    split at h
    · rename_i ha; exact ⟨by simpa using hL, ha⟩
    · cases h
theorem chg_zero {wd : Int} {xs : List Itm} {ys : List Int} {nm s : ByteArray} (h : chgCode wd xs ys nm s = 0) : ∃ (k : Nat) (x : Itm), layI wd xs [ys] (validCardL ys) = 0 ∧ findI xs nm = k ∧ xs[k]? = some x ∧ pvCode x s = 0 ∧ chgL wd xs ys nm s = putL ys x.fr.toNat (pvL x s) := by
  cases hL : (layI wd xs [ys] (validCardL ys) == 0)
  · have h2 := (chg_lay (nm := nm) (s := s) hL).2
    rw [h2] at h; rw [h] at hL; simp at hL
  · have hL0 : layI wd xs [ys] (validCardL ys) = 0 := by simpa using hL
    by_cases hf : findI xs nm < 0
    · have h2 := (chg_3 (s := s) hL0 hf).2
      rw [h2] at h; cases h
    · obtain ⟨k, x, hk, hx, _⟩ := item_some hf
      obtain ⟨e1, e2⟩ := chg_pv (s := s) hL0 hk hx
      rw [e2] at h
      exact ⟨k, x, hL0, hk, hx, h, by rw [e1, (pv_yes ys h).2.2]⟩
/-- all that the law asks of a card of which an item is changed -/
theorem chg_law {wd : Int} {xs : List Itm} {ys : List Int} {nm v : ByteArray} (h : chgCode wd xs ys nm v = 0) :
    ∃ k : Nat, itemNamedCode wd xs nm = 0 ∧ itemNamedI wd xs nm = k ∧ k < xs.length ∧ (recCode wd xs ys = 0 → recCode wd xs (chgL wd xs ys nm v) = 0 ∧ (recR wd xs ys).length = xs.length ∧ (recR wd xs (chgL wd xs ys nm v)).length = xs.length ∧ ∀ (i : Nat) (s t : ByteArray), (recR wd xs ys)[i]? = some s → (recR wd xs (chgL wd xs ys nm v))[i]? = some t → (i = k → t = v) ∧ (i ≠ k → t = s)) := by
  obtain ⟨k, x, hL, hk, hx, hp, he⟩ := chg_zero h
  obtain ⟨hv, hc, hw⟩ := lay_zero hL
  have hwl := hw ys [] rfl
  have hxm := List.mem_of_getElem? hx
  obtain ⟨f1, f2, f3⟩ := itemB_field (validLay_item hv hxm)
  have hkl := (List.getElem?_eq_some_iff.1 hx).1
  refine ⟨k, by unfold itemNamedCode; rw [hv, hk]; simp, by unfold itemNamedI; rw [hv, hk]; simp only [if_true]; rw [if_neg (by omega)], hkl, fun hr => ?_⟩
  obtain ⟨_, hall⟩ := rec_zero hr
  have hpl := pvL_len hp (by omega)
  have hvb := val_back f1 f2 (by omega) hp (ys := ys)
  rw [← he] at hvb
  have hoth : ∀ (i : Nat) (y : Itm), xs[i]? = some y → i ≠ k → valS y (chgL wd xs ys nm v) = valS y ys := by
    intro i y hy hne
    rw [he]
    obtain ⟨g1, g2, g3⟩ := itemB_field (validLay_item hv (List.mem_of_getElem? hy))
    exact val_other f1 f2 (by omega) hpl g1 g2 (apart_two hv hx hy hne)
  have hlen : (chgL wd xs ys nm v).length = ys.length := by rw [he]; exact putL_length (by rw [hpl]; unfold sizeX; omega)
  have hvl := validCard_len hc
  have hcv : validCardL (chgL wd xs ys nm v) = true := by
    refine card_valid (by omega) (by omega) ?_
    rw [he]
    exact put_mask (mask_of hc) (pvL_mask f2)
  have hL2 : layI wd xs [chgL wd xs ys nm v] (validCardL (chgL wd xs ys nm v)) = 0 := by rw [hcv]; exact lay_ok hv (by rw [hlen]; exact hwl)
  have hall2 : xs.all (itemOk (chgL wd xs ys nm v)) = true := by
    rw [List.all_eq_true] at hall ⊢
    intro y hy
    obtain ⟨i, hi⟩ := List.mem_iff_getElem?.1 hy
    by_cases hne : i = k
    · subst hne
      rw [hx] at hi
      obtain rfl := Option.some.inj hi
      unfold itemOk; rw [hvb]
    · have := hall y hy
      unfold itemOk at this ⊢
      rw [hoth i y hi hne]; exact this
  have r1 := rec_ok hL hall
  have r2 := rec_ok hL2 hall2
  refine ⟨r2.2, by rw [r1.1, recL_length], by rw [r2.1, recL_length], fun i s t hs ht => ?_⟩
  have hil : i < xs.length := by
    have := (List.getElem?_eq_some_iff.1 hs).1
    rwa [r1.1, recL_length] at this
  obtain ⟨y, hy⟩ := get_some (l := xs) (k := i) hil
  rw [r1.1, recL_at hy] at hs
  rw [r2.1, recL_at hy] at ht
  have hs := Option.some.inj hs
  have ht := Option.some.inj ht
  refine ⟨fun e => ?_, fun e => ?_⟩
  · subst e
    rw [hx] at hy
    obtain rfl := Option.some.inj hy
    rw [hvb] at ht
    exact ht.symm
  · rw [hoth i y hy e] at ht
    rw [← ht, ← hs]
theorem cf_zero {wd : Int} {xs : List Itm} {vs : List ByteArray} (h : cfCode wd xs vs = 0) : validLayB wd xs = true ∧ vs.length = xs.length ∧ (zipV xs vs).all okV = true ∧ cfL wd xs vs = cfUp wd.toNat xs vs xs.length := by
  have hl : cfL wd xs vs = cfUp wd.toNat xs vs xs.length := by unfold cfL; rw [h]; rfl
  unfold cfCode at h
  cases hv : validLayB wd xs <;> rw [hv] at h
  · cases h
  · simp only [if_true] at h
    split at h
    · rename_i hn
      refine ⟨rfl, hn, ?_, hl⟩
      unfold firstC at h
      cases hf : (zipV xs vs).find? (fun p => !okV p) with
      | none =>
        rw [List.find?_eq_none] at hf
        rw [List.all_eq_true]
        intro p hp
        have := hf p hp
        simpa using this
      | some p =>
        rw [hf] at h
        have := List.find?_some hf
        unfold okV at this
        simp only at h
        rw [h] at this
        simp at this
    · cases h
/-- all that the law asks of a card of values -/
theorem cf_law {wd : Int} {xs : List Itm} {vs : List ByteArray} (h : cfCode wd xs vs = 0) : recCode wd xs (cfL wd xs vs) = 0 ∧ recR wd xs (cfL wd xs vs) = vs := by
  obtain ⟨hv, hn, hall, he⟩ := cf_zero h
  obtain ⟨w1, w2, w3, w4⟩ := validLay_is hv
  obtain ⟨n, rfl⟩ := Int.eq_ofNat_of_zero_le (show 0 ≤ wd by omega)
  rw [Int.toNat_natCast] at he
  have step : ∀ k, k ≤ xs.length → (cfUp n xs vs k).length = n ∧ (∀ m ∈ cfUp n xs vs k, MaskP m) ∧ ∀ (i : Nat) (y : Itm) (v : ByteArray), i < k → xs[i]? = some y → vs[i]? = some v → valS y (cfUp n xs vs k) = (v, true) := by
    intro k
    induction k with
    | zero =>
      intro _
      rw [cfUp_zero]
      refine ⟨by unfold zerosL; simp, fun m hm => ?_, fun i y v hi => by omega⟩
      unfold zerosL at hm
      rw [List.eq_of_mem_replicate hm]; exact ⟨by decide, by decide⟩
    | succ k ih =>
      intro hk
      obtain ⟨i1, i2, i3⟩ := ih (by omega)
      obtain ⟨x, hx⟩ := get_some (l := xs) (k := k) (by omega)
      obtain ⟨v, hvk⟩ := get_some (l := vs) (k := k) (by omega)
      obtain ⟨f1, f2, f3⟩ := itemB_field (w4 k x hx).1
      rw [List.all_eq_true] at hall
      have hp : pvCode x v = 0 := by
        have := hall (x, v) (List.mem_of_getElem? (zipV_at hx hvk))
        unfold okV at this
        simpa using this
      have hpl := pvL_len hp (by omega)
      rw [cfUp_succ hx hvk]
      refine ⟨by rw [putL_length (by rw [hpl]; unfold sizeX; omega)]; exact i1, put_mask i2 (pvL_mask f2), fun i y u hi hy hu => ?_⟩
      by_cases hne : i = k
      · subst hne
        rw [hx] at hy
        obtain rfl := Option.some.inj hy
        rw [hvk] at hu
        obtain rfl := Option.some.inj hu
        exact val_back f1 f2 (by omega) hp
      · obtain ⟨g1, g2, g3⟩ := itemB_field (w4 i y hy).1
        rw [val_other f1 f2 (by omega) hpl g1 g2 (apart_two hv hx hy hne)]
        exact i3 i y u (by omega) hy hu
  obtain ⟨s1, s2, s3⟩ := step xs.length (Nat.le_refl _)
  rw [← he] at s1 s2 s3
  have hcv : validCardL (cfL n xs vs) = true := card_valid (by omega) (by omega) s2
  have hL : layI n xs [cfL n xs vs] (validCardL (cfL n xs vs)) = 0 := by rw [hcv]; exact lay_ok hv (by rw [s1])
  have hok : xs.all (itemOk (cfL n xs vs)) = true := by
    rw [List.all_eq_true]
    intro y hy
    obtain ⟨i, hi⟩ := List.mem_iff_getElem?.1 hy
    have hil := (List.getElem?_eq_some_iff.1 hi).1
    obtain ⟨v, hvi⟩ := get_some (l := vs) (k := i) (by omega)
    unfold itemOk; rw [s3 i y v hil hi hvi]
  obtain ⟨r1, r2⟩ := rec_ok hL hok
  refine ⟨r2, ?_⟩
  rw [r1]
  apply List.ext_getElem?
  intro i
  by_cases hi : i < xs.length
  · obtain ⟨y, hy⟩ := get_some (l := xs) (k := i) hi
    obtain ⟨v, hvi⟩ := get_some (l := vs) (k := i) (by omega)
    rw [recL_at hy, hvi, s3 i y v hi hy hvi]
  · rw [List.getElem?_eq_none (by rw [recL_length]; omega), List.getElem?_eq_none (by omega)]
theorem cfL_20 (wd : Int) (xs : List Itm) (vs : List ByteArray) : (cfL wd xs vs).length ≤ 20 := by
  by_cases h : cfCode wd xs vs = 0
  · obtain ⟨h1, h2⟩ := cf_law h
    obtain ⟨h3, _⟩ := rec_zero h1
    obtain ⟨_, h4, _⟩ := lay_zero h3
    exact (validCard_len h4).2
  · unfold cfL
    rw [if_neg (by simpa using h)]; simp
end Go.Proofs.YtmpfnkheohlmiaaGreatDoor
