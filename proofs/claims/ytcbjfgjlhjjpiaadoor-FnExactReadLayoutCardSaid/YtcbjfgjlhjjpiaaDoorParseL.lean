/- A layout read back out of its text, in plain Lean. No program in sight. -/
import Derived.Test.YtcbjfgjlhjjpiaaDoorTextL
import Derived.Test.YtcbjfgjlhjjpiaaDoorReadL
import Derived.Test.YtcbjfgjlhjjpiaaDoorSplitL
namespace Go.Proofs.YtcbjfgjlhjjpiaaDoor
open Go.RowKit
set_option linter.unusedVariables false
set_option linter.unusedSimpArgs false
set_option linter.unnecessarySimpa false

/-! ### cutting and joining -/
theorem cutL_self (c : UInt8) : ∀ (l : List UInt8), (∀ b ∈ l, b ≠ c) → cutL c l = [l]
  | [], _ => rfl
  | b :: l, h => by
    unfold cutL
    rw [if_neg (h b (by simp)), cutL_self c l (fun d hd => h d (by simp [hd]))]
theorem cutL_cons (c : UInt8) : ∀ (a r : List UInt8), (∀ b ∈ a, b ≠ c) → cutL c (a ++ c :: r) = a :: cutL c r
  | [], r, _ => by show cutL c (c :: r) = _; rw [cutL, if_pos rfl]
  | b :: a, r, h => by
    rw [List.cons_append]
    rw [cutL, if_neg (h b (by simp)), cutL_cons c a r (fun d hd => h d (by simp [hd]))]
def joinC (c : UInt8) : List (List UInt8) → List UInt8
  | [] => []
  | [p] => p
  | p :: q :: r => p ++ c :: joinC c (q :: r)
theorem joinC_cons (c : UInt8) (p : List UInt8) : ∀ (r : List (List UInt8)), r ≠ [] → joinC c (p :: r) = p ++ c :: joinC c r
  | [], h => absurd rfl h
  | q :: r, _ => rfl
theorem join_cut (c : UInt8) : ∀ l, joinC c (cutL c l) = l
  | [] => rfl
  | b :: l => by
    have ih := join_cut c l
    unfold cutL
    by_cases hb : b = c
    · rw [if_pos hb, joinC_cons c [] _ (cutL_ne c l), ih, hb]; rfl
    · rw [if_neg hb]
      cases h : cutL c l with
      | nil => exact absurd h (cutL_ne c l)
      | cons p r =>
        rw [h] at ih
        simp only
        cases r with
        | nil => simp only [joinC] at ih ⊢; rw [ih]
        | cons q r => simp only [joinC] at ih ⊢; rw [← ih]; rfl

/-! ### the bytes of numbers and names -/
theorem natD_all : ∀ (l : List UInt8) (acc n : Nat), natD acc l = some n → ∀ c ∈ l, 48 ≤ c.toNat ∧ c.toNat ≤ 57
  | [], _, _, _ => by simp
  | d :: r, acc, n, h => by
    unfold natD at h
    split at h
    · rename_i hd
      intro c hc
      rcases List.mem_cons.1 hc with rfl | hc
      · exact hd
      · exact natD_all r _ n h c hc
    · cases h
theorem dec_bytes {u : Nat} {c : UInt8} (h : c ∈ Lib.decDigits u) : 48 ≤ c.toNat ∧ c.toNat ≤ 57 := natD_all _ 0 u (natD_dec u) c h
theorem itoa_nat (u : Nat) : Lib.itoa (u : Int) = Lib.decDigits u := Lib.itoa_nonneg u
theorem itoa_bytes {v : Int} (h0 : 0 ≤ v) {c : UInt8} (h : c ∈ Lib.itoa v) : 48 ≤ c.toNat ∧ c.toNat ≤ 57 := by
  obtain ⟨u, rfl⟩ := Int.eq_ofNat_of_zero_le h0
  rw [itoa_nat] at h
  exact dec_bytes h
theorem ne_byte {c d : UInt8} (h : c.toNat ≠ d.toNat) : c ≠ d := fun e => h (by rw [e])
theorem itoa_ne {v : Int} (h0 : 0 ≤ v) {d : UInt8} (hd : d.toNat < 48) : ∀ b ∈ Lib.itoa v, b ≠ d := fun b hb => ne_byte (by have := (itoa_bytes h0 hb).1; omega)
theorem name_bytes {x : Itm} {wd : Int} (h : itemB x wd = true) {c : UInt8} (hc : c ∈ x.name.data.toList) : 45 ≤ c.toNat := by
  unfold itemB nameIs isNameL at h
  simp only [Bool.and_eq_true] at h
  have := List.all_eq_true.1 h.1.1.2 c hc
  unfold nameB smallB digitB at this
  simp only [Bool.or_eq_true, Bool.and_eq_true, decide_eq_true_eq, beq_iff_eq] at this
  omega
theorem kind_bytes (k : Int) {c : UInt8} (hc : c ∈ kindL k) : 97 ≤ c.toNat := by
  unfold kindL at hc
  split at hc <;> simp only [List.mem_cons, List.mem_nil_iff, or_false] at hc <;> rcases hc with rfl | rfl | rfl | rfl | rfl | rfl <;> decide
theorem nd2 {u : Nat} (h : u ≤ 99) : Lib.nDigits u ≤ 2 := by
  by_cases h1 : u < 10
  · rw [Lib.nDigits_small h1]; omega
  · rw [Lib.nDigits_big h1, Lib.nDigits_small (by omega)]; omega
theorem read_itoa {v : Int} (h0 : 0 ≤ v) (h1 : v ≤ 99) : readL (Lib.itoa v) = true ∧ readI (Lib.itoa v) = v := by
  have hl : (absL (Lib.itoa v)).length ≤ 18 := by
    rw [absL_itoa, Lib.decDigits_length]
    have := nd2 (u := v.natAbs) (by omega)
    omega
  obtain ⟨h2, h3⟩ := readL_is hl rfl
  exact ⟨h2, readI_is h2 h3⟩
theorem read_back {l : List UInt8} (h : readL l = true) : l = Lib.itoa (readI l) := by
  obtain ⟨_, h2⟩ := readL_of h
  rw [readI_is h rfl]; exact h2

/-! ### one line -/
def rangeL (x : Itm) : List UInt8 := Lib.itoa x.fr ++ 45 :: Lib.itoa x.to
def lineC (x : Itm) : List UInt8 := x.name.data.toList ++ 32 :: (kindL x.kind ++ 32 :: rangeL x)
theorem line_cut (x : Itm) : lineL x = lineC x ++ [10] := by unfold lineL lineC rangeL; simp
def kindP (k : List UInt8) : Int := if k = [116, 101, 120, 116] then 1 else if k = [110, 117, 109, 98, 101, 114] then 2 else 0
theorem kindP_1 : kindP [116, 101, 120, 116] = 1 := by decide +kernel
theorem kindP_2 : kindP [110, 117, 109, 98, 101, 114] = 2 := by decide +kernel
theorem kindP_0 {k : List UInt8} (h1 : k ≠ [116, 101, 120, 116]) (h2 : k ≠ [110, 117, 109, 98, 101, 114]) : kindP k = 0 := by unfold kindP; rw [if_neg h1, if_neg h2]
theorem kind_back {k : Int} (h : k = 1 ∨ k = 2) : kindP (kindL k) = k := by rcases h with rfl | rfl <;> decide +kernel
theorem kind_forth {l : List UInt8} (h : kindP l = 1 ∨ kindP l = 2) : kindL (kindP l) = l := by
  unfold kindP at *
  split
  · rename_i e; rw [e]; decide +kernel
  · rename_i e
    rw [if_neg e] at h
    split
    · rename_i e2; rw [e2]; decide +kernel
    · rename_i e2; rw [if_neg e2] at h; omega
def lineOk (l : List UInt8) : Bool := match cutL 32 l with
  | [_, _, r] => (match cutL 45 r with | [a, b] => readL a && readL b | _ => false)
  | _ => false
def lineX (l : List UInt8) : Itm := match cutL 32 l with
  | [n, k, r] => (match cutL 45 r with | [a, b] => ⟨⟨n.toArray⟩, kindP k, readI a, readI b⟩ | _ => ⟨⟨#[]⟩, 0, 0, 0⟩)
  | _ => ⟨⟨#[]⟩, 0, 0, 0⟩
theorem line_words {x : Itm} {wd : Int} (h : itemB x wd = true) : cutL 32 (lineC x) = [x.name.data.toList, kindL x.kind, rangeL x] ∧ cutL 45 (rangeL x) = [Lib.itoa x.fr, Lib.itoa x.to] := by
  obtain ⟨h1, h2, h3⟩ := itemB_field h
  constructor
  · unfold lineC
    rw [cutL_cons 32 _ _ (fun b hb => ne_byte (by have := name_bytes h hb; show b.toNat ≠ 32; omega)), cutL_cons 32 _ _ (fun b hb => ne_byte (by have := kind_bytes _ hb; show b.toNat ≠ 32; omega)), cutL_self]
    intro b hb
    unfold rangeL at hb
    rcases List.mem_append.1 hb with hb | hb
    · exact itoa_ne h1 (by decide) b hb
    · rcases List.mem_cons.1 hb with rfl | hb
      · decide
      · exact itoa_ne (by omega) (by decide) b hb
  · unfold rangeL
    rw [cutL_cons 45 _ _ (itoa_ne h1 (by decide)), cutL_self 45 _ (itoa_ne (by omega) (by decide))]
theorem line_read {x : Itm} {wd : Int} (h : itemB x wd = true) (hw : wd ≤ 20) : lineOk (lineC x) = true ∧ lineX (lineC x) = x := by
  obtain ⟨h1, h2, h3⟩ := itemB_field h
  obtain ⟨e1, e2⟩ := line_words h
  obtain ⟨r1, r2⟩ := read_itoa h1 (by omega)
  obtain ⟨q1, q2⟩ := read_itoa (v := x.to) (by omega) (by omega)
  have hk := kind_back (item_kind h)
  constructor
  · unfold lineOk; simp only [e1, e2, r1, q1]; rfl
  · unfold lineX; simp only [e1, e2, r2, q2, hk]
theorem line_shape {l : List UInt8} (h : lineOk l = true) : ∃ n k a b, cutL 32 l = [n, k, a ++ 45 :: b] ∧ cutL 45 (a ++ 45 :: b) = [a, b] ∧ readL a = true ∧ readL b = true ∧ lineX l = ⟨⟨n.toArray⟩, kindP k, readI a, readI b⟩ := by
  unfold lineOk at h
  split at h
  · rename_i n k r e
    split at h
    · rename_i a b e2
      simp only [Bool.and_eq_true] at h
      have hr : r = a ++ 45 :: b := by have := join_cut 45 r; rw [e2] at this; exact this.symm
      subst hr
      refine ⟨n, k, a, b, e, e2, h.1, h.2, ?_⟩
      unfold lineX; simp only [e, e2]
    · cases h
  · cases h
theorem line_print {l : List UInt8} {wd : Int} (h : lineOk l = true) (hi : itemB (lineX l) wd = true) : lineC (lineX l) = l := by
  obtain ⟨n, k, a, b, e, e2, h1, h2, hx⟩ := line_shape h
  have hj := join_cut 32 l
  rw [e] at hj
  have hk := item_kind hi
  rw [hx] at hk ⊢
  have hkf := kind_forth hk
  unfold lineC rangeL
  simp only at hkf ⊢
  rw [hkf, ← read_back h1, ← read_back h2]
  exact hj

/-! ### the whole text -/
def headC (wd : Int) : List UInt8 := [119, 105, 100, 116, 104, 32] ++ Lib.itoa wd
theorem head_cut (wd : Int) : headL wd = headC wd ++ [10] := rfl
theorem headC_ne {wd : Int} (h : 0 ≤ wd) : ∀ b ∈ headC wd, b ≠ 10 := by
  intro b hb
  unfold headC at hb
  rcases List.mem_append.1 hb with hb | hb
  · have : ∀ c ∈ ([119, 105, 100, 116, 104, 32] : List UInt8), c ≠ 10 := by decide +kernel
    exact this b hb
  · exact itoa_ne h (by decide) b hb
theorem lineC_ne {x : Itm} {wd : Int} (h : itemB x wd = true) : ∀ b ∈ lineC x, b ≠ 10 := by
  obtain ⟨h1, h2, h3⟩ := itemB_field h
  intro b hb
  unfold lineC rangeL at hb
  rcases List.mem_append.1 hb with hb | hb
  · exact ne_byte (by have := name_bytes h hb; show b.toNat ≠ 10; omega)
  · rcases List.mem_cons.1 hb with rfl | hb
    · decide
    · rcases List.mem_append.1 hb with hb | hb
      · exact ne_byte (by have := kind_bytes _ hb; show b.toNat ≠ 10; omega)
      · rcases List.mem_cons.1 hb with rfl | hb
        · decide
        · rcases List.mem_append.1 hb with hb | hb
          · exact itoa_ne h1 (by decide) b hb
          · rcases List.mem_cons.1 hb with rfl | hb
            · decide
            · exact itoa_ne (by omega) (by decide) b hb
theorem lines_cut {wd : Int} : ∀ (xs : List Itm), (∀ x ∈ xs, itemB x wd = true) → cutL 10 (xs.flatMap lineL) = xs.map lineC ++ [[]]
  | [], _ => rfl
  | x :: r, h => by
    rw [List.flatMap_cons, line_cut, List.append_assoc]
    show cutL 10 (lineC x ++ 10 :: r.flatMap lineL) = _
    rw [cutL_cons 10 _ _ (lineC_ne (h x (by simp))), lines_cut r (fun y hy => h y (by simp [hy]))]
    rfl
theorem text_lines {wd : Int} {xs : List Itm} (h : validLayB wd xs = true) : cutL 10 (layTextL wd xs) = headC wd :: (xs.map lineC ++ [[]]) := by
  obtain ⟨w1, w2, _, _⟩ := validLay_is h
  unfold layTextL layUp linesL
  rw [List.take_length, head_cut, List.append_assoc]
  show cutL 10 (headC wd ++ 10 :: xs.flatMap lineL) = _
  rw [cutL_cons 10 _ _ (headC_ne (by omega)), lines_cut xs (fun x hx => validLay_item h hx)]
theorem head_words {wd : Int} (h : 0 ≤ wd) : cutL 32 (headC wd) = [[119, 105, 100, 116, 104], Lib.itoa wd] := by
  show cutL 32 ([119, 105, 100, 116, 104] ++ 32 :: Lib.itoa wd) = _
  rw [cutL_cons 32 _ _ (by decide +kernel), cutL_self 32 _ (itoa_ne h (by decide))]
/-- what the lines ahead of the last, behind the first, give -/
def midL (s : List UInt8) : List (List UInt8) := (cutL 10 s).tail.dropLast
def headP (s : List UInt8) : List UInt8 := (cutL 10 s).headD []
def shapeP (s : List UInt8) : Bool := decide (2 ≤ (cutL 10 s).length) && decide ((cutL 10 s).length ≤ 14) && decide ((cutL 10 s).getLast? = some []) && decide (7 ≤ (headP s).length) && decide ((headP s).take 6 = [119, 105, 100, 116, 104, 32])
def layOk (s : List UInt8) : Bool := shapeP s && readL ((headP s).drop 6) && (midL s).all lineOk && validLayB (readI ((headP s).drop 6)) ((midL s).map lineX)
def layW (s : List UInt8) : Int := if layOk s then readI ((headP s).drop 6) else 0
def layX (s : List UInt8) : List Itm := if layOk s then (midL s).map lineX else []
theorem lay_no {s : List UInt8} (h : layOk s = false) : layW s = 0 ∧ layX s = [] := ⟨by unfold layW; rw [h]; rfl, by unfold layX; rw [h]; rfl⟩
theorem lay_yes {s : List UInt8} (h : layOk s = true) : layW s = readI ((headP s).drop 6) ∧ layX s = (midL s).map lineX := ⟨by unfold layW; rw [h]; rfl, by unfold layX; rw [h]; rfl⟩
theorem itoa_pos (v : Int) : 1 ≤ (Lib.itoa v).length := by
  unfold Lib.itoa
  split
  · simp
  · rw [Lib.decDigits_length]; exact Lib.nDigits_pos _
/-- a text of a valid layout is read back -/
theorem lay_read {wd : Int} {xs : List Itm} (h : validLayB wd xs = true) : layOk (layTextL wd xs) = true ∧ layW (layTextL wd xs) = wd ∧ layX (layTextL wd xs) = xs := by
  obtain ⟨w1, w2, hl, _⟩ := validLay_is h
  have hc := text_lines h
  have hh : headP (layTextL wd xs) = headC wd := by unfold headP; rw [hc]; rfl
  have hm : midL (layTextL wd xs) = xs.map lineC := by unfold midL; rw [hc]; simp
  have hd : (headC wd).drop 6 = Lib.itoa wd := rfl
  obtain ⟨r1, r2⟩ := read_itoa (v := wd) (by omega) (by omega)
  have hx : (xs.map lineC).map lineX = xs := by
    rw [List.map_map]
    have : ∀ x ∈ xs, (lineX ∘ lineC) x = x := fun x hx => (line_read (validLay_item h hx) w2).2
    conv => rhs; rw [← List.map_id xs]
    exact List.map_congr_left this
  have hs : shapeP (layTextL wd xs) = true := by
    unfold shapeP
    rw [hh, hc]
    have h7 : 7 ≤ (headC wd).length := by have := itoa_pos wd; unfold headC; simp only [List.length_append, List.length_cons, List.length_nil]; omega
    rw [decide_eq_true h7, decide_eq_true (show (headC wd).take 6 = [119, 105, 100, 116, 104, 32] from rfl)]
    rw [decide_eq_true (show 2 ≤ (headC wd :: (List.map lineC xs ++ [[]])).length by simp), decide_eq_true (show (headC wd :: (List.map lineC xs ++ [[]])).length ≤ 14 by simp; omega)]
    rw [decide_eq_true (show (headC wd :: (List.map lineC xs ++ [[]])).getLast? = some [] by rw [← List.cons_append, List.getLast?_concat])]
    rfl
  have hok : layOk (layTextL wd xs) = true := by
    unfold layOk
    rw [hs, hh, hd, r1, r2, hm, hx, h]
    have : (xs.map lineC).all lineOk = true := by
      rw [List.all_eq_true]
      intro l hl
      obtain ⟨x, hx, rfl⟩ := List.mem_map.1 hl
      exact (line_read (validLay_item h hx) w2).1
    rw [this]; rfl
  obtain ⟨e1, e2⟩ := lay_yes hok
  exact ⟨hok, by rw [e1, hh, hd, r2], by rw [e2, hm, hx]⟩
theorem flat_join : ∀ (L : List (List UInt8)), joinC 10 (L ++ [[]]) = L.flatMap (fun l => l ++ [10])
  | [] => rfl
  | l :: r => by
    rw [List.cons_append, joinC_cons 10 l _ (by simp), flat_join r]; simp
/-- what is read has that text -/
theorem lay_print {s : List UInt8} (h : layOk s = true) : validLayB (layW s) (layX s) = true ∧ layTextL (layW s) (layX s) = s := by
  obtain ⟨e1, e2⟩ := lay_yes h
  rw [e1, e2]
  unfold layOk at h
  simp only [Bool.and_eq_true] at h
  obtain ⟨⟨⟨hs, hr⟩, ha⟩, hv⟩ := h
  refine ⟨hv, ?_⟩
  unfold shapeP at hs
  simp only [Bool.and_eq_true, decide_eq_true_eq] at hs
  obtain ⟨⟨⟨⟨s1, s2⟩, s3⟩, s4⟩, s5⟩ := hs
  obtain ⟨h0, r, hc⟩ : ∃ h0 r, cutL 10 s = h0 :: r := by
    cases hq : cutL 10 s with
    | nil => rw [hq] at s1; simp at s1
    | cons p r => exact ⟨p, r, rfl⟩
  have hh : headP s = h0 := by unfold headP; rw [hc]; rfl
  have hm : midL s = r.dropLast := by unfold midL; rw [hc]; rfl
  rw [hc] at s1 s3
  have hrne : r ≠ [] := fun e => by subst e; simp at s1
  have hrl : r = r.dropLast ++ [[]] := by
    obtain ⟨ys, hy⟩ := List.getLast?_eq_some_iff.1 s3
    cases ys with
    | nil => simp only [List.nil_append, List.cons.injEq] at hy; exact absurd hy.2 hrne
    | cons y ys =>
      simp only [List.cons_append, List.cons.injEq] at hy
      rw [hy.2]; simp
  have hj := join_cut 10 s
  rw [hc, joinC_cons 10 h0 r hrne, hrl, flat_join] at hj
  rw [hh] at s5 hr hv ⊢
  rw [hm] at ha hv ⊢
  have hhd : headL (readI (h0.drop 6)) = h0 ++ [10] := by
    rw [head_cut]; unfold headC
    rw [← read_back hr, ← s5, List.take_append_drop]
  have hln : ∀ l ∈ r.dropLast, lineL (lineX l) = l ++ [10] := fun l hl => by
    rw [line_cut, line_print (List.all_eq_true.1 ha l hl) (validLay_item hv (List.mem_map_of_mem hl))]
  unfold layTextL layUp linesL
  rw [List.take_length, hhd]
  have hfl : (r.dropLast.map lineX).flatMap lineL = r.dropLast.flatMap (fun l => l ++ [10]) := by
    rw [List.flatMap_map]
    generalize r.dropLast = D at hln
    clear hj hrl ha hv hm
    induction D with
    | nil => rfl
    | cons d D ih => rw [List.flatMap_cons, List.flatMap_cons, hln d (by simp), ih (fun l hl => hln l (by simp [hl]))]
  rw [hfl]
  rw [← hj]; simp
theorem lay_iff {s : List UInt8} {wd : Int} {xs : List Itm} (hv : validLayB wd xs = true) (he : layTextL wd xs = s) : layOk s = true ∧ layW s = wd ∧ layX s = xs := by
  subst he; exact lay_read hv
end Go.Proofs.YtcbjfgjlhjjpiaaDoor
