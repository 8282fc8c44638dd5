/- What a program card, a card and keys give: the columns that are punched, and the codes. No program in sight. -/
import Derived.Test.YtoeohebobmkobaaKeys
import Derived.Test.YtoeohebobmkobaaRead
namespace Go.Proofs.Ytoeohebobmkobaa
open Go.RowKit
set_option linter.unusedVariables false
set_option linter.unusedSimpArgs false
set_option linter.unnecessarySimpa false

/-- the key of a column -/
def keyAt (l ks : List UInt8) (i : Nat) : UInt8 := ks.getD (keysN (l.take i)) 0
def colAt (l ks : List UInt8) (xs : List Int) (i : Nat) : Int := if keyedB (l.getD i 0).toNat then code0 (keyAt l ks i).toNat else if (l.getD i 0).toNat = 100 then xs.getD i 0 else 0
def badAt (l ks : List UInt8) (i : Nat) : Int := if keyedB (l.getD i 0).toNat then (if charB (keyAt l ks i).toNat then (if (l.getD i 0).toNat = 110 ∧ digitB (keyAt l ks i).toNat = false then 10 else 0) else 7) else 0
theorem getD_of {α : Type} {l : List α} {i : Nat} {c d : α} (h : l[i]? = some c) : l.getD i d = c := by rw [List.getD_eq_getElem?_getD, h]; rfl
theorem at_bad7 {l ks : List UInt8} {i : Nat} {c q : UInt8} (h : l[i]? = some c) (hk : ks[keysN (l.take i)]? = some q) (hc : keyedB c.toNat = true) (hq : charB q.toNat = false) : badAt l ks i = 7 := by
  unfold badAt keyAt; rw [getD_of h, getD_of hk, hc, hq]; rfl
theorem at_bad10 {l ks : List UInt8} {i : Nat} {c q : UInt8} (h : l[i]? = some c) (hk : ks[keysN (l.take i)]? = some q) (hc : c.toNat = 110) (hq : charB q.toNat = true) (hd : digitB q.toNat = false) : badAt l ks i = 10 := by
  unfold badAt keyAt; rw [getD_of h, getD_of hk, hq, hd, hc]; simp [keyedB]
theorem at_key {l ks : List UInt8} {i : Nat} {c q : UInt8} (xs : List Int) (h : l[i]? = some c) (hk : ks[keysN (l.take i)]? = some q) (hc : keyedB c.toNat = true) (hq : charB q.toNat = true) (hd : ¬ (c.toNat = 110 ∧ digitB q.toNat = false)) : badAt l ks i = 0 ∧ colAt l ks xs i = code0 q.toNat := by
  unfold badAt colAt keyAt; rw [getD_of h, getD_of hk, hc, hq]; simp only [if_true]; exact ⟨by rw [if_neg hd], trivial⟩
theorem at_dup {l ks : List UInt8} {i : Nat} {c : UInt8} {xs : List Int} {x : Int} (h : l[i]? = some c) (hx : xs[i]? = some x) (hc : keyedB c.toNat = false) (hq : c.toNat = 100) : badAt l ks i = 0 ∧ colAt l ks xs i = x := by
  unfold badAt colAt; rw [getD_of h, getD_of hx, hc, hq]; exact ⟨rfl, rfl⟩
theorem at_skip {l ks : List UInt8} {i : Nat} {c : UInt8} (xs : List Int) (h : l[i]? = some c) (hc : keyedB c.toNat = false) (hq : ¬ c.toNat = 100) : badAt l ks i = 0 ∧ colAt l ks xs i = 0 := by
  unfold badAt colAt; rw [getD_of h, hc]; simp [hq]
/-- the columns, the first k of them punched -/
def progUp (l ks : List UInt8) (xs : List Int) (n k : Nat) : List Int := (List.range k).map (colAt l ks xs) ++ List.replicate (n - k) 0
theorem progUp_length (l ks : List UInt8) (xs : List Int) {n k : Nat} (h : k ≤ n) : (progUp l ks xs n k).length = n := by simp [progUp]; omega
theorem progUp_zero (l ks : List UInt8) (xs : List Int) (n : Nat) : progUp l ks xs n 0 = zerosL n := by simp [progUp, zerosL]
theorem progUp_set (l ks : List UInt8) (xs : List Int) {n k : Nat} (h : k < n) : ((progUp l ks xs n k).map (Value.int .i64)).set k (.int .i64 (colAt l ks xs k)) = (progUp l ks xs n (k + 1)).map (Value.int .i64) := by
  have h1 : ((List.range k).map (colAt l ks xs)).length = k := by simp
  rw [← List.map_set, progUp, progUp, List.set_append_right _ _ (by omega), h1, Nat.sub_self, List.range_succ]
  obtain ⟨m, hm⟩ : ∃ m, n - k = m + 1 := ⟨n - k - 1, by omega⟩
  rw [hm, List.replicate_succ, List.set_cons_zero, show n - (k + 1) = m by omega]
  simp
theorem progUp_skip {l ks : List UInt8} {xs : List Int} {n k : Nat} (h : k < n) (h0 : colAt l ks xs k = 0) : progUp l ks xs n (k + 1) = progUp l ks xs n k := by
  rw [progUp, progUp, List.range_succ]
  obtain ⟨m, hm⟩ : ∃ m, n - k = m + 1 := ⟨n - k - 1, by omega⟩
  rw [hm, List.replicate_succ, show n - (k + 1) = m by omega]
  simp [h0]
theorem progUp_at (l ks : List UInt8) (xs : List Int) {n k j : Nat} (h : k ≤ n) (hj : j < n) : ∃ v, ((progUp l ks xs n k).map (Value.int .i64))[j]? = some v :=
  get_some (by rw [List.length_map, progUp_length l ks xs h]; exact hj)
/-- the code of keys for a program card -/
def pchk (l ks : List UInt8) : Int := if ks.length = keysN l then (((List.range l.length).find? fun i => !(badAt l ks i == 0)).map (badAt l ks)).getD 0 else 5
def okUp (l ks : List UInt8) (k : Nat) : Bool := (List.range k).all fun i => badAt l ks i == 0
theorem okUp_succ {l ks : List UInt8} {k : Nat} (h : okUp l ks k = true) (h0 : badAt l ks k = 0) : okUp l ks (k + 1) = true := by
  unfold okUp at *; rw [List.range_succ, List.all_append, h]; simp [h0]
theorem find_ok {l ks : List UInt8} : ∀ {n : Nat}, okUp l ks n = true → ((List.range n).find? fun i => !(badAt l ks i == 0)) = none := by
  intro n h
  rw [List.find?_eq_none]; unfold okUp at h; rw [List.all_eq_true] at h
  intro x hx; rw [h x hx]; simp
theorem pchk_ok {l ks : List UInt8} (h : ks.length = keysN l) (h0 : okUp l ks l.length = true) : pchk l ks = 0 := by
  unfold pchk; rw [if_pos h, find_ok h0]; rfl
theorem pchk_full {l ks : List UInt8} (h : ¬ ks.length = keysN l) : pchk l ks = 5 := by unfold pchk; rw [if_neg h]
theorem pchk_hit {l ks : List UInt8} {k : Nat} {b : Int} (h : ks.length = keysN l) (hk : k < l.length) (h0 : okUp l ks k = true) (hb : badAt l ks k = b) (hb0 : ¬ b = 0) : pchk l ks = b := by
  unfold pchk; rw [if_pos h]
  have e : List.range l.length = List.range k ++ k :: (List.range' (k + 1) (l.length - (k + 1))) := by
    obtain ⟨m, hm⟩ : ∃ m, l.length = k + (m + 1) := ⟨l.length - k - 1, by omega⟩
    rw [hm, List.range_eq_range', ← List.range'_append_1, List.range'_succ, Nat.zero_add, show k + (m + 1) - (k + 1) = m by omega, List.range_eq_range']
  have hbb : (!(badAt l ks k == 0)) = true := by rw [hb]; simp [hb0]
  rw [e, List.find?_append, find_ok h0, Option.none_or, List.find?_cons, hbb]
  simp [hb]
theorem pchk_zero {l ks : List UInt8} (h : pchk l ks = 0) : ks.length = keysN l ∧ ∀ i, i < l.length → badAt l ks i = 0 := by
  unfold pchk at h
  split at h
  · rename_i hl
    refine ⟨hl, fun i hi => ?_⟩
    cases hf : ((List.range l.length).find? fun i => !(badAt l ks i == 0)) with
    | none =>
      rw [List.find?_eq_none] at hf
      simpa using hf i (by simpa using hi)
    | some j =>
      rw [hf] at h
      have := List.find?_some hf
      simp at h this
      exact absurd h this
  · omega
theorem pchk_range (l ks : List UInt8) : 0 ≤ pchk l ks ∧ pchk l ks ≤ 10 := by
  have hb : ∀ i, 0 ≤ badAt l ks i ∧ badAt l ks i ≤ 10 := fun i => by unfold badAt; repeat (first | split | omega)
  unfold pchk
  split
  · cases hf : ((List.range l.length).find? fun i => !(badAt l ks i == 0)) with
    | none => simp
    | some j => exact hb j
  · omega
theorem keysN_pre {l : List UInt8} {i : Nat} {c : UInt8} (h : l[i]? = some c) (hc : keyedB c.toNat = true) : keysN (l.take i) < keysN l := by
  have h1 := keysN_yes h hc
  have h2 : keysN l = keysN (l.take (i + 1)) + keysN (l.drop (i + 1)) := by
    unfold keysN
    conv => lhs; rw [← List.take_append_drop (i + 1) l]
    simp only [List.count_append]; omega
  omega
/-- what is punched -/
def punchedC (s u : ByteArray) : Int := pchk s.data.toList u.data.toList
def punchedL (s u : ByteArray) (xs : List Int) : List Int := if punchedC s u == 0 then progUp s.data.toList u.data.toList xs s.size s.size else []
theorem punched_bad {s u : ByteArray} {c : Int} (xs : List Int) (h : punchedC s u = c) (h0 : ¬ c = 0) : punchedL s u xs = [] := by unfold punchedL; rw [h]; simp [h0]
theorem punched_ok {s u : ByteArray} (xs : List Int) (h : punchedC s u = 0) : punchedL s u xs = progUp s.data.toList u.data.toList xs s.size s.size := by unfold punchedL; rw [h]; rfl
theorem punchedL_le (s u : ByteArray) (xs : List Int) : (punchedL s u xs).length ≤ s.size := by
  unfold punchedL; split
  · rw [progUp_length _ _ _ (Nat.le_refl _)]; exact Nat.le_refl _
  · simp
/-- the code of a program card and a card -/
def progI (s : ByteArray) (xs : List Int) : Int := if validProgL s.data.toList then (if validCardL xs then (if xs.length = s.size then 0 else 2) else 1) else 1
def progII (s : ByteArray) (xs ys : List Int) : Int := if validProgL s.data.toList then (if validCardL xs then (if validCardL ys then (if xs.length = s.size then (if ys.length = s.size then 0 else 2) else 2) else 1) else 1) else 1
theorem progI_p {s : ByteArray} (xs : List Int) (h : validProgL s.data.toList = false) : progI s xs = 1 := by unfold progI; rw [h]; rfl
theorem progI_c {s : ByteArray} {xs : List Int} (h : validProgL s.data.toList = true) (h1 : validCardL xs = false) : progI s xs = 1 := by unfold progI; rw [h, h1]; rfl
theorem progI_n {s : ByteArray} {xs : List Int} (h : validProgL s.data.toList = true) (h1 : validCardL xs = true) (h2 : ¬ xs.length = s.size) : progI s xs = 2 := by unfold progI; rw [h, h1]; simp [h2]
theorem progI_ok {s : ByteArray} {xs : List Int} (h : validProgL s.data.toList = true) (h1 : validCardL xs = true) (h2 : xs.length = s.size) : progI s xs = 0 := by unfold progI; rw [h, h1]; simp [h2]
theorem progI_zero {s : ByteArray} {xs : List Int} (h : progI s xs = 0) : validProgL s.data.toList = true ∧ validCardL xs = true ∧ xs.length = s.size := by
  unfold progI at h
  cases h1 : validProgL s.data.toList <;> rw [h1] at h <;> simp at h
  cases h2 : validCardL xs <;> rw [h2] at h <;> simp at h
  exact ⟨rfl, rfl, h⟩
theorem progII_p {s : ByteArray} (xs ys : List Int) (h : validProgL s.data.toList = false) : progII s xs ys = 1 := by unfold progII; rw [h]; rfl
theorem progII_c {s : ByteArray} {xs : List Int} (ys : List Int) (h : validProgL s.data.toList = true) (h1 : validCardL xs = false) : progII s xs ys = 1 := by unfold progII; rw [h, h1]; rfl
theorem progII_d {s : ByteArray} {xs ys : List Int} (h : validProgL s.data.toList = true) (h1 : validCardL xs = true) (h3 : validCardL ys = false) : progII s xs ys = 1 := by unfold progII; rw [h, h1, h3]; rfl
theorem progII_n {s : ByteArray} {xs ys : List Int} (h : validProgL s.data.toList = true) (h1 : validCardL xs = true) (h3 : validCardL ys = true) (h2 : ¬ xs.length = s.size) : progII s xs ys = 2 := by unfold progII; rw [h, h1, h3]; simp [h2]
theorem progII_m {s : ByteArray} {xs ys : List Int} (h : validProgL s.data.toList = true) (h1 : validCardL xs = true) (h3 : validCardL ys = true) (h2 : xs.length = s.size) (h4 : ¬ ys.length = s.size) : progII s xs ys = 2 := by unfold progII; rw [h, h1, h3]; simp [h2, h4]
theorem progII_ok {s : ByteArray} {xs ys : List Int} (h : validProgL s.data.toList = true) (h1 : validCardL xs = true) (h3 : validCardL ys = true) (h2 : xs.length = s.size) (h4 : ys.length = s.size) : progII s xs ys = 0 := by unfold progII; rw [h, h1, h3]; simp [h2, h4]
theorem progII_zero {s : ByteArray} {xs ys : List Int} (h : progII s xs ys = 0) : validProgL s.data.toList = true ∧ validCardL xs = true ∧ validCardL ys = true ∧ xs.length = s.size ∧ ys.length = s.size := by
  unfold progII at h
  cases h1 : validProgL s.data.toList <;> rw [h1] at h <;> simp at h
  cases h2 : validCardL xs <;> rw [h2] at h <;> simp at h
  cases h3 : validCardL ys <;> rw [h3] at h <;> simp at h
  by_cases h4 : xs.length = s.size <;> simp [h4] at h
  exact ⟨rfl, rfl, rfl, h4, h⟩
/-- PunchByProgram -/
def pbpCode (s u : ByteArray) (xs : List Int) : Int := if progI s xs == 0 then punchedC s u else progI s xs
def pbpL (s u : ByteArray) (xs : List Int) : List Int := if pbpCode s u xs == 0 then punchedL s u xs else []
theorem pbp_bad {s : ByteArray} (u : ByteArray) {xs : List Int} (h : (progI s xs == 0) = false) : pbpCode s u xs = progI s xs ∧ pbpL s u xs = [] := by
  have h1 : pbpCode s u xs = progI s xs := by unfold pbpCode; rw [h]; rfl
  exact ⟨h1, by unfold pbpL; rw [h1, h]; rfl⟩
theorem pbp_ok {s : ByteArray} (u : ByteArray) {xs : List Int} (h : progI s xs = 0) : pbpCode s u xs = punchedC s u ∧ pbpL s u xs = punchedL s u xs := by
  have h1 : pbpCode s u xs = punchedC s u := by unfold pbpCode; rw [h]; rfl
  refine ⟨h1, ?_⟩
  unfold pbpL punchedL; rw [h1]; split <;> rfl
theorem pbpL_len (s u : ByteArray) (xs : List Int) (h : s.size ≤ 1048576) : (pbpL s u xs).length ≤ 1048576 := by
  have := punchedL_le s u xs
  unfold pbpL; split
  · omega
  · simp
/-- VerifyCard -/
def wrongI (xs ys : List Int) : Int := firstB (fun p => !(p.1 == p.2)) (xs.zip ys)
def verCode (s u : ByteArray) (xs ys : List Int) : Int := if progII s xs ys == 0 then punchedC s u else progII s xs ys
def verI (s u : ByteArray) (xs ys : List Int) : Int := if verCode s u xs ys == 0 then wrongI (punchedL s u xs) ys else 0
theorem ver_bad {s : ByteArray} (u : ByteArray) {xs ys : List Int} (h : (progII s xs ys == 0) = false) : verCode s u xs ys = progII s xs ys ∧ verI s u xs ys = 0 := by
  have h1 : verCode s u xs ys = progII s xs ys := by unfold verCode; rw [h]; rfl
  exact ⟨h1, by unfold verI; rw [h1, h]; rfl⟩
theorem ver_code {s : ByteArray} (u : ByteArray) {xs ys : List Int} (h : progII s xs ys = 0) (h2 : (punchedC s u == 0) = false) : verCode s u xs ys = punchedC s u ∧ verI s u xs ys = 0 := by
  have h1 : verCode s u xs ys = punchedC s u := by unfold verCode; rw [h]; rfl
  exact ⟨h1, by unfold verI; rw [h1, h2]; rfl⟩
theorem ver_ok {s : ByteArray} (u : ByteArray) {xs ys : List Int} (h : progII s xs ys = 0) (h2 : punchedC s u = 0) : verCode s u xs ys = 0 ∧ verI s u xs ys = wrongI (punchedL s u xs) ys := by
  have h1 : verCode s u xs ys = punchedC s u := by unfold verCode; rw [h]; rfl
  exact ⟨by rw [h1, h2], by unfold verI; rw [h1, h2]; rfl⟩
/-- KeysFor: do the keys of a column give it? -/
def kfAt (l : List UInt8) (xs ys : List Int) (i : Nat) : Bool :=
  if keyedB (l.getD i 0).toNat then legalB (ys.getD i 0) && !(decide ((l.getD i 0).toNat = 110) && !digitB (charM (ys.getD i 0)))
  else if (l.getD i 0).toNat = 100 then ys.getD i 0 == xs.getD i 0 else ys.getD i 0 == 0
def kfUp (l : List UInt8) (xs ys : List Int) (k : Nat) : Bool := (List.range k).all (kfAt l xs ys)
def keysUp (l : List UInt8) (ys : List Int) (k : Nat) : List UInt8 := ((List.range k).filter fun i => keyedB (l.getD i 0).toNat).map fun i => chU (ys.getD i 0)
theorem keysUp_yes {l : List UInt8} {ys : List Int} {k : Nat} {c : UInt8} {y : Int} (h : l[k]? = some c) (hy : ys[k]? = some y) (hc : keyedB c.toNat = true) : keysUp l ys (k + 1) = keysUp l ys k ++ [chU y] := by
  unfold keysUp; rw [List.range_succ, List.filter_append, List.map_append, List.filter_cons_of_pos (by rw [getD_of h]; exact hc)]
  simp only [List.filter_nil, List.map_cons, List.map_nil]; rw [getD_of hy]
theorem keysUp_no {l : List UInt8} {k : Nat} {c : UInt8} (ys : List Int) (h : l[k]? = some c) (hc : keyedB c.toNat = false) : keysUp l ys (k + 1) = keysUp l ys k := by
  unfold keysUp; rw [List.range_succ, List.filter_append, List.map_append, List.filter_cons_of_neg (by rw [getD_of h, hc]; simp)]
  simp
theorem keysUp_length {l : List UInt8} (ys : List Int) : ∀ {k : Nat}, k ≤ l.length → (keysUp l ys k).length = keysN (l.take k)
  | 0, _ => by simp [keysUp, keysN]
  | k + 1, h => by
    obtain ⟨c, hc⟩ := get_some (l := l) (k := k) (by omega)
    have ih := keysUp_length (l := l) ys (k := k) (by omega)
    cases hk : keyedB c.toNat
    · rw [keysUp_no ys hc hk, keysN_no hc hk, ih]
    · rw [keysN_yes hc hk, ← ih]
      unfold keysUp; rw [List.range_succ, List.filter_append, List.map_append, List.filter_cons_of_pos (by rw [getD_of hc]; exact hk)]
      simp
theorem keysUp_le (l : List UInt8) (ys : List Int) (k : Nat) : (keysUp l ys k).length ≤ k := by
  unfold keysUp; rw [List.length_map]; exact Nat.le_trans (List.length_filter_le _ _) (by simp)
theorem keysUp_pre (l : List UInt8) (ys : List Int) (k m : Nat) : ∃ r, keysUp l ys (k + m) = keysUp l ys k ++ r := by
  induction m with
  | zero => exact ⟨[], by simp⟩
  | succ m ih =>
    obtain ⟨r, hr⟩ := ih
    exact ⟨r ++ (([k + m].filter fun i => keyedB (l.getD i 0).toNat).map fun i => chU (ys.getD i 0)), by
      rw [← List.append_assoc, ← hr]; unfold keysUp; rw [← Nat.add_assoc, List.range_succ, List.filter_append, List.map_append]⟩
theorem keyAt_keysUp {l : List UInt8} {ys : List Int} {i : Nat} {c : UInt8} {y : Int} (h : l[i]? = some c) (hy : ys[i]? = some y) (hc : keyedB c.toNat = true) : keyAt l (keysUp l ys l.length) i = chU y := by
  have hi := (List.getElem?_eq_some_iff.1 h).1
  obtain ⟨r, hr⟩ := keysUp_pre l ys (i + 1) (l.length - (i + 1))
  rw [show i + 1 + (l.length - (i + 1)) = l.length by omega, keysUp_yes h hy hc] at hr
  unfold keyAt
  have hl := keysUp_length (l := l) ys (k := i) (by omega)
  rw [hr, ← hl, List.append_assoc, List.getD_eq_getElem?_getD, List.getElem?_append_right (Nat.le_refl _), Nat.sub_self]
  rfl
theorem chU_all (m : Int) : ((chU m).toNat : Int) = charM m := by
  by_cases h : 0 ≤ rankM m
  · exact chU_is h
  · unfold chU; rw [charM_none (by omega)]; rfl
theorem charB_charM (m : Int) : charB (charM m) = legalB m := by
  by_cases h : 0 ≤ rankM m
  · rw [(charM_is h).2.2.2]; unfold legalB; simp [h]
  · rw [charM_none (by omega)]; unfold legalB; simp [h]; decide +kernel
theorem code0_charM {m : Int} (h : legalB m = true) : code0 (charM m) = m := by
  have h0 : 0 ≤ rankM m := by simpa [legalB] using h
  obtain ⟨h1, _, _, h4⟩ := charM_is h0
  rw [code0_yes h4, h1]
theorem kf_at {l : List UInt8} {xs ys : List Int} {i : Nat} (hy : ys.length = l.length) (hi : i < l.length) :
    kfAt l xs ys i = true ↔ badAt l (keysUp l ys l.length) i = 0 ∧ colAt l (keysUp l ys l.length) xs i = ys.getD i 0 := by
  obtain ⟨c, hc⟩ := get_some (l := l) (k := i) hi
  obtain ⟨y, hyi⟩ := get_some (l := ys) (k := i) (by omega)
  unfold kfAt badAt colAt
  rw [getD_of hc, getD_of hyi]
  cases hk : keyedB c.toNat
  · by_cases h100 : c.toNat = 100
    · simp only [Bool.false_eq_true, if_false, h100, if_true, beq_iff_eq, true_and]; exact ⟨Eq.symm, Eq.symm⟩
    · simp only [Bool.false_eq_true, if_false, h100, beq_iff_eq, true_and]; exact ⟨Eq.symm, Eq.symm⟩
  · rw [keyAt_keysUp hc hyi hk, chU_all, charB_charM]
    cases hl : legalB y
    · simp
    · rw [code0_charM hl]
      generalize digitB (charM y) = d
      generalize c.toNat = q
      by_cases h110 : q = 110
      · cases d <;> simp [h110]
      · simp [h110]
theorem kf_iff {l : List UInt8} {xs ys : List Int} (hy : ys.length = l.length) : kfUp l xs ys l.length = true ↔ pchk l (keysUp l ys l.length) = 0 ∧ progUp l (keysUp l ys l.length) xs l.length l.length = ys := by
  have hlen : (keysUp l ys l.length).length = keysN l := by rw [keysUp_length ys (Nat.le_refl _), List.take_length]
  constructor
  · intro h
    have h1 : ∀ i, i < l.length → kfAt l xs ys i = true := fun i hi => by unfold kfUp at h; rw [List.all_eq_true] at h; exact h i (by simpa using hi)
    refine ⟨pchk_ok hlen (by unfold okUp; rw [List.all_eq_true]; intro i hi; simp [((kf_at hy (by simpa using hi)).1 (h1 i (by simpa using hi))).1]), ?_⟩
    apply List.ext_getElem?
    intro i
    by_cases hi : i < l.length
    · unfold progUp
      rw [Nat.sub_self, List.replicate_zero, List.append_nil, List.getElem?_map, List.getElem?_range hi]
      obtain ⟨y, hyi⟩ := get_some (l := ys) (k := i) (by omega)
      rw [hyi]
      have := ((kf_at hy hi).1 (h1 i hi)).2
      rw [getD_of hyi] at this
      simp [this]
    · rw [List.getElem?_eq_none (by rw [progUp_length _ _ _ (Nat.le_refl _)]; omega), List.getElem?_eq_none (by omega)]
  · rintro ⟨h1, h2⟩
    unfold kfUp; rw [List.all_eq_true]
    intro i hi
    have hi' : i < l.length := by simpa using hi
    refine (kf_at hy hi').2 ⟨(pchk_zero h1).2 i hi', ?_⟩
    have h3 : (progUp l (keysUp l ys l.length) xs l.length l.length)[i]? = ys[i]? := by rw [h2]
    unfold progUp at h3
    rw [Nat.sub_self, List.replicate_zero, List.append_nil, List.getElem?_map, List.getElem?_range hi'] at h3
    obtain ⟨y, hyi⟩ := get_some (l := ys) (k := i) (by omega)
    rw [hyi] at h3
    rw [getD_of hyi]
    simpa using h3
def kfS (s : ByteArray) (ys : List Int) : ByteArray := ⟨(keysUp s.data.toList ys s.size).toArray⟩
def kfCode (s : ByteArray) (xs ys : List Int) : Int := if progII s xs ys == 0 then (if kfUp s.data.toList xs ys s.size then 0 else 3) else progII s xs ys
def kfT (s : ByteArray) (xs ys : List Int) : ByteArray := if kfCode s xs ys == 0 then kfS s ys else ⟨#[]⟩
theorem kfc_bad {s : ByteArray} {xs ys : List Int} (h : (progII s xs ys == 0) = false) : kfCode s xs ys = progII s xs ys ∧ kfT s xs ys = ⟨#[]⟩ := by
  have h1 : kfCode s xs ys = progII s xs ys := by unfold kfCode; rw [h]; rfl
  exact ⟨h1, by unfold kfT; rw [h1, h]; rfl⟩
theorem kfc_not {s : ByteArray} {xs ys : List Int} (h : progII s xs ys = 0) (h2 : kfUp s.data.toList xs ys s.size = false) : kfCode s xs ys = 3 ∧ kfT s xs ys = ⟨#[]⟩ := by
  have h1 : kfCode s xs ys = 3 := by unfold kfCode; rw [h, h2]; rfl
  exact ⟨h1, by unfold kfT; rw [h1]; rfl⟩
theorem kfc_ok {s : ByteArray} {xs ys : List Int} (h : progII s xs ys = 0) (h2 : kfUp s.data.toList xs ys s.size = true) : kfCode s xs ys = 0 ∧ kfT s xs ys = kfS s ys := by
  have h1 : kfCode s xs ys = 0 := by unfold kfCode; rw [h, h2]; rfl
  exact ⟨h1, by unfold kfT; rw [h1]; rfl⟩
theorem kf_not_at {l : List UInt8} {xs ys : List Int} {k : Nat} (h : k < l.length) (h2 : kfAt l xs ys k = false) : kfUp l xs ys l.length = false := by
  unfold kfUp; rw [List.all_eq_false]; exact ⟨k, by simpa using h, by simp [h2]⟩
theorem kfUp_succ {l : List UInt8} {xs ys : List Int} {k : Nat} (h : kfUp l xs ys k = true) (h2 : kfAt l xs ys k = true) : kfUp l xs ys (k + 1) = true := by
  unfold kfUp at *; rw [List.range_succ, List.all_append, h]; simp [h2]
end Go.Proofs.Ytoeohebobmkobaa
