/- The text of a layout, in plain Lean. No program in sight. Texts cut at a byte. No program in sight. A layout read back out of its text, in plain Lean. No program in sight. What the lines of a layout's text say while they are read: plain. No program in sight. -/
import Derived.Test.YtmpfnkheohlmiaaGreatDoorValid
import Derived.Test.YtmpfnkheohlmiaaGreatDoorQJ
import Derived.Lib.ItoaLen
import Derived.Test.YtmpfnkheohlmiaaGreatDoorQA
import Derived.Lib.SplitLaws
import Derived.Lib.IndexMore
namespace Go.Proofs.YtmpfnkheohlmiaaGreatDoor
open Go.RowKit
set_option linter.unusedVariables false
set_option linter.unusedSimpArgs false
set_option linter.unnecessarySimpa false

def kindL (k : Int) : List UInt8 := if k == 2 then [110, 117, 109, 98, 101, 114] else [116, 101, 120, 116]
def lineL (x : Itm) : List UInt8 := x.name.data.toList ++ [32] ++ kindL x.kind ++ [32] ++ Lib.itoa x.fr ++ [45] ++ Lib.itoa x.to ++ [10]
def headL (wd : Int) : List UInt8 := [119, 105, 100, 116, 104, 32] ++ Lib.itoa wd ++ [10]
def linesL (xs : List Itm) (k : Nat) : List UInt8 := (xs.take k).flatMap lineL
def layUp (wd : Int) (xs : List Itm) (k : Nat) : List UInt8 := headL wd ++ linesL xs k
theorem layUp_zero (wd : Int) (xs : List Itm) : layUp wd xs 0 = headL wd := by unfold layUp linesL; simp
theorem layUp_succ {wd : Int} {xs : List Itm} {k : Nat} {x : Itm} (h : xs[k]? = some x) : layUp wd xs (k + 1) = layUp wd xs k ++ lineL x := by
  unfold layUp linesL
  rw [List.take_add_one, h, List.flatMap_append, List.append_assoc]; simp
def layTextL (wd : Int) (xs : List Itm) : List UInt8 := layUp wd xs xs.length
def layoutText (wd : Int) (xs : List Itm) : ByteArray := if validLayB wd xs then ⟨(layTextL wd xs).toArray⟩ else ⟨#[]⟩
theorem lt_no {wd : Int} {xs : List Itm} (h : validLayB wd xs = false) : layoutText wd xs = ⟨#[]⟩ := by unfold layoutText; rw [h]; rfl
theorem lt_yes {wd : Int} {xs : List Itm} (h : validLayB wd xs = true) : layoutText wd xs = ⟨(layUp wd xs xs.length).toArray⟩ := by unfold layoutText; rw [h]; rfl
theorem item_name {x : Itm} {wd : Int} (h : itemB x wd = true) : x.name.size ≤ 12 := by
  unfold itemB nameIs isNameL at h
  simp only [Bool.and_eq_true, decide_eq_true_eq] at h
  have := h.1.1.1.1.2
  rwa [len_bytes] at this
theorem item_kind {x : Itm} {wd : Int} (h : itemB x wd = true) : x.kind = 1 ∨ x.kind = 2 := by
  unfold itemB kindB at h
  simp only [Bool.and_eq_true, Bool.or_eq_true, beq_iff_eq] at h
  rcases h.2 with h | h
  · exact .inl h
  · exact .inr h.1
theorem kindL_len (k : Int) : (kindL k).length ≤ 6 := by unfold kindL; split <;> simp
theorem lineL_len {x : Itm} {wd : Int} (h : itemB x wd = true) (hw : wd ≤ 20) : (lineL x).length ≤ 64 := by
  obtain ⟨h1, h2, h3⟩ := itemB_field h
  have a1 := item_name h
  have a2 := kindL_len x.kind
  have a3 := Lib.itoa_length_le x.fr (by omega) (by omega)
  have a4 := Lib.itoa_length_le x.to (by omega) (by omega)
  have a5 := len_bytes x.name
  unfold lineL
  simp only [List.length_append, List.length_singleton]; omega
theorem layUp_len {wd : Int} {xs : List Itm} (h : validLayB wd xs = true) : ∀ k, k ≤ xs.length → (layUp wd xs k).length ≤ 28 + 64 * k
  | 0, _ => by
    obtain ⟨w1, w2, _, _⟩ := validLay_is h
    have := Lib.itoa_length_le wd (by omega) (by omega)
    rw [layUp_zero]; unfold headL
    simp only [List.length_append, List.length_cons, List.length_nil]; omega
  | k + 1, hk => by
    obtain ⟨w1, w2, _, _⟩ := validLay_is h
    obtain ⟨x, hx⟩ : ∃ x, xs[k]? = some x := ⟨xs[k], List.getElem?_eq_getElem (by omega)⟩
    have ih := layUp_len h k (by omega)
    have hl := lineL_len (validLay_item h (List.mem_of_getElem? hx)) w2
    rw [layUp_succ hx, List.length_append]; omega
theorem ba_app (a b : List UInt8) : (⟨a.toArray⟩ : ByteArray) ++ ⟨b.toArray⟩ = ⟨(a ++ b).toArray⟩ := by
  apply ByteArray.ext
  rw [ByteArray.data_append]
  simp
theorem ba_size (a : List UInt8) : (⟨a.toArray⟩ : ByteArray).size = a.length := by show a.toArray.size = _; simp
theorem ba_self (s : ByteArray) : s = ⟨s.data.toList.toArray⟩ := by apply ByteArray.ext; simp
end Go.Proofs.YtmpfnkheohlmiaaGreatDoor
namespace Go.Proofs.YtmpfnkheohlmiaaGreatDoor
open Go.RowKit
set_option linter.unusedVariables false
set_option linter.unusedSimpArgs false
set_option linter.unnecessarySimpa false

/-- the parts between bytes -/
def cutL (c : UInt8) : List UInt8 → List (List UInt8)
  | [] => [[]]
  | b :: l => if b = c then [] :: cutL c l else (match cutL c l with | [] => [[b]] | h :: t => (b :: h) :: t)
theorem cutL_ne (c : UInt8) : ∀ l, cutL c l ≠ []
  | [] => by simp [cutL]
  | b :: l => by
    unfold cutL
    split
    · simp
    · split <;> simp
theorem cutL_last (c : UInt8) (l : List UInt8) : ∃ d p, cutL c l = d ++ [p] := by
  rcases List.eq_nil_or_concat (cutL c l) with h | ⟨d, p, h⟩
  · exact absurd h (cutL_ne c l)
  · exact ⟨d, p, by simpa using h⟩
theorem cutL_snoc (c b : UInt8) : ∀ (l : List UInt8) (d : List (List UInt8)) (p : List UInt8), cutL c l = d ++ [p] → cutL c (l ++ [b]) = if b = c then d ++ [p, []] else d ++ [p ++ [b]]
  | [], d, p, h => by
    have hd : d = [] := by
      cases d with
      | nil => rfl
      | cons x r => simp [cutL] at h
    subst hd
    simp only [cutL, List.nil_append, List.cons.injEq, and_true] at h
    subst h
    by_cases hb : b = c
    · simp [cutL, hb]
    · simp [cutL, hb]
  | a :: l, d, p, h => by
    obtain ⟨d', p', h'⟩ := cutL_last c l
    have ih := cutL_snoc c b l d' p' h'
    simp only [List.cons_append]
    unfold cutL at h ⊢
    by_cases ha : a = c
    · rw [if_pos ha] at h ⊢
      rw [h'] at h
      have hd : d = [] :: d' ∧ p = p' := by
        have h2 : ([] :: d') ++ [p'] = d ++ [p] := by simpa using h
        obtain ⟨h3, h4⟩ := List.append_inj' h2 rfl
        exact ⟨h3.symm, by simpa using h4.symm⟩
      obtain ⟨rfl, rfl⟩ := hd
      rw [ih]
      split <;> simp
    · rw [if_neg ha] at h ⊢
      cases d' with
      | nil =>
        rw [h'] at h
        simp only [List.nil_append] at h ih
        have hd : d = [] ∧ p = a :: p' := by
          cases d with
          | nil => simpa using h.symm
          | cons x r => simp at h
        obtain ⟨rfl, rfl⟩ := hd
        rw [ih]
        by_cases hb : b = c
        · rw [if_pos hb, if_pos hb]; simp
        · rw [if_neg hb, if_neg hb]; simp
      | cons x r =>
        rw [h'] at h
        simp only [List.cons_append] at h ih
        have hd : d = (a :: x) :: r ∧ p = p' := by
          have h2 : ((a :: x) :: r) ++ [p'] = d ++ [p] := by simpa using h
          obtain ⟨h3, h4⟩ := List.append_inj' h2 rfl
          exact ⟨h3.symm, by simpa using h4.symm⟩
        obtain ⟨rfl, rfl⟩ := hd
        rw [ih]
        by_cases hb : b = c
        · rw [if_pos hb, if_pos hb]; simp
        · rw [if_neg hb, if_neg hb]; simp
theorem splitK_cut (c : UInt8) : ∀ l : List UInt8, Lib.splitK [c] 0 (Lib.count l [c]) l = cutL c l
  | [] => by rw [Lib.count_miss (by simp [Lib.index])]; rfl
  | b :: l => by
    have ih := splitK_cut c l
    unfold cutL
    by_cases hb : b = c
    · subst hb
      have hix : Lib.index (b :: l) [b] = 0 := by rw [Lib.index]; simp [List.isPrefixOf]
      rw [if_pos rfl, Lib.count_cons_eq, Nat.add_comm]
      unfold Lib.splitK
      rw [hix]
      simpa using ih
    · rw [if_neg hb, Lib.count_cons_ne b c l hb]
      cases hn : Lib.count l [c] with
      | zero =>
        rw [hn] at ih
        simp only [Lib.splitK] at ih ⊢
        rw [← ih]
      | succ m =>
        rw [hn] at ih
        have hp : ([c] : List UInt8).isPrefixOf (b :: l) = false := by simp [List.isPrefixOf, Ne.symm hb]
        have hix : Lib.index (b :: l) [c] = if Lib.index l [c] == -1 then -1 else Lib.index l [c] + 1 := by rw [Lib.index, hp]; simp
        by_cases hm : Lib.index l [c] = -1
        · rw [Lib.count_miss hm] at hn; cases hn
        · have hge := Lib.index_ge l [c]
          obtain ⟨j, hj⟩ : ∃ j : Nat, Lib.index l [c] = j := ⟨(Lib.index l [c]).toNat, by omega⟩
          have hj2 : Lib.index (b :: l) [c] = ((j + 1 : Nat) : Int) := by rw [hix, if_neg (fun e => hm (beq_iff_eq.1 e)), hj]; omega
          unfold Lib.splitK at ih ⊢
          rw [hj] at ih
          rw [hj2]
          have e1 : ((j : Int) == -1) = false := by first | (simp; done) | (simp; omega)
          have e2 : (((j + 1 : Nat) : Int) == -1) = false := by first | (simp; done) | (simp; omega)
          rw [e1] at ih
          rw [e2]
          simp only [Bool.false_eq_true, if_false, Int.toNat_natCast, Nat.add_zero, List.length_singleton, List.take_succ_cons, List.drop_succ_cons] at ih ⊢
          rw [← ih]
/-- the parts as texts -/
def cutB (c : UInt8) (s : ByteArray) : List ByteArray := (cutL c s.data.toList).map fun l => ⟨l.toArray⟩
theorem splitB_cut (c : UInt8) (s : ByteArray) : Lib.splitB ⟨#[c]⟩ 0 (Lib.countB s ⟨#[c]⟩) s = cutB c s := by
  have h := Lib.splitB_data ⟨#[c]⟩ 0 (Lib.countB s ⟨#[c]⟩) s
  have hc : Lib.countB s ⟨#[c]⟩ = Lib.count s.data.toList [c] := rfl
  rw [hc, show (⟨#[c]⟩ : ByteArray).data.toList = [c] from rfl, splitK_cut] at h
  unfold cutB
  rw [hc, ← h, List.map_map]
  conv => lhs; rw [← List.map_id (Lib.splitB ⟨#[c]⟩ 0 (Lib.count s.data.toList [c]) s)]
  exact List.map_congr_left fun x _ => rfl
theorem one_size (c : UInt8) : 1 ≤ (⟨#[c]⟩ : ByteArray).size := Nat.le_refl _
theorem cutB_len (c : UInt8) (s : ByteArray) : (cutB c s).length = Lib.countB s ⟨#[c]⟩ + 1 := by
  rw [← splitB_cut]; exact Lib.splitB_all _ (one_size c) _ _ _ rfl
theorem cutB_le (c : UInt8) (s : ByteArray) : (cutB c s).length ≤ s.size + 1 := by
  rw [cutB_len]; have := Lib.countB_le ⟨#[c]⟩ (one_size c) s.size s (Nat.le_refl _); omega
/-- how far the cutting has come behind k bytes: parts that are done, and where the last one begins -/
def CutAt (c : UInt8) (s : ByteArray) (k f : Nat) (ps : List ByteArray) : Prop := f ≤ k ∧ cutL c (s.data.toList.take k) = ps.map (·.data.toList) ++ [(s.data.toList.take k).drop f]
theorem CutAt.start (c : UInt8) (s : ByteArray) : CutAt c s 0 0 [] := ⟨Nat.le_refl _, by simp [cutL]⟩
theorem CutAt.hit {c : UInt8} {s : ByteArray} {k f : Nat} {ps : List ByteArray} (h : CutAt c s k f ps) (hk : k < s.size) (hc : s[k] = c) : CutAt c s (k + 1) (k + 1) (ps ++ [s.extract f k]) := by
  obtain ⟨h1, h2⟩ := h
  refine ⟨Nat.le_refl _, ?_⟩
  have h3 := cutL_snoc c s[k] _ _ _ h2
  rw [List.take_add_one, get_bytes s k hk]
  simp only [Option.toList_some]
  rw [h3, if_pos hc]
  have h4 : (s.extract f k).data.toList = (s.data.toList.take k).drop f := by rw [Lib.extract_data, List.drop_take]
  rw [List.map_append, List.map_cons, List.map_nil, h4, List.append_assoc]
  congr 1
  have h5 : (s.data.toList.take k ++ [s[k]]).drop (k + 1) = [] := List.drop_of_length_le (by simp; omega)
  rw [h5]; rfl
theorem CutAt.miss {c : UInt8} {s : ByteArray} {k f : Nat} {ps : List ByteArray} (h : CutAt c s k f ps) (hk : k < s.size) (hc : ¬ s[k] = c) : CutAt c s (k + 1) f ps := by
  obtain ⟨h1, h2⟩ := h
  refine ⟨by omega, ?_⟩
  have h3 := cutL_snoc c s[k] _ _ _ h2
  rw [List.take_add_one, get_bytes s k hk]
  simp only [Option.toList_some]
  rw [h3, if_neg hc]
  congr 2
  rw [List.drop_append_of_le_length (by rw [List.length_take, len_bytes]; omega)]
theorem CutAt.done {c : UInt8} {s : ByteArray} {k f : Nat} {ps : List ByteArray} (h : CutAt c s k f ps) (hk : k = s.size) : cutB c s = ps ++ [s.extract f s.size] := by
  obtain ⟨h1, h2⟩ := h
  subst hk
  rw [List.take_of_length_le (by rw [len_bytes]; exact Nat.le_refl _)] at h2
  unfold cutB
  rw [h2, List.map_append, List.map_map]
  congr 1
  · conv => rhs; rw [← List.map_id ps]
    exact List.map_congr_left fun x _ => rfl
  · rw [List.map_cons, List.map_nil]
    congr 1
    have h4 : (s.extract f s.size).data.toList = s.data.toList.drop f := by rw [Lib.extract_data, List.take_of_length_le (by rw [List.length_drop, len_bytes]; exact Nat.le_refl _)]
    rw [← h4]
theorem CutAt.len {c : UInt8} {s : ByteArray} {k f : Nat} {ps : List ByteArray} (h : CutAt c s k f ps) : ps.length ≤ k := by
  obtain ⟨h1, h2⟩ := h
  have hl : ∀ l : List UInt8, (cutL c l).length ≤ l.length + 1 := by
    intro l
    induction l with
    | nil => simp [cutL]
    | cons b l ih =>
      unfold cutL
      split
      · simp; exact ih
      · split
        · simp
        · rename_i h t he; rw [he] at ih; simp at ih ⊢; omega
  have h3 := hl (s.data.toList.take k)
  rw [h2] at h3
  simp only [List.length_append, List.length_map, List.length_singleton, List.length_take] at h3
  omega
/-- the words between blanks -/
def wordsL (s : ByteArray) : List ByteArray := (cutB 32 s).filter fun t => !(t.size == 0)
theorem words_count (c : UInt8) : ∀ l : List UInt8, ∃ h t, cutL c l = h :: t ∧ (t.filter fun x => !(x.length == 0)).length + h.length ≤ l.length
  | [] => ⟨[], [], rfl, by simp⟩
  | b :: l => by
    obtain ⟨h, t, he, hl⟩ := words_count c l
    unfold cutL
    by_cases hb : b = c
    · rw [if_pos hb, he]
      refine ⟨[], h :: t, rfl, ?_⟩
      rw [List.filter_cons]
      cases h with
      | nil => simp at hl ⊢; omega
      | cons x r => simp at hl ⊢; omega
    · rw [if_neg hb, he]
      exact ⟨b :: h, t, rfl, by simp only [List.length_cons]; omega⟩
theorem wordsL_len (s : ByteArray) (h : s.size ≤ 1048576) : (wordsL s).length ≤ 1048576 := by
  obtain ⟨a, t, he, hl⟩ := words_count 32 s.data.toList
  rw [len_bytes] at hl
  have hf : ∀ ls : List (List UInt8), ((ls.map fun l => (⟨l.toArray⟩ : ByteArray)).filter fun t => !(t.size == 0)).length = (ls.filter fun x => !(x.length == 0)).length := by
    intro ls
    rw [List.filter_map, List.length_map]
    rfl
  unfold wordsL cutB
  rw [hf, he, List.filter_cons]
  split
  · rename_i h0
    have : 0 < a.length := by
      cases a with
      | nil => simp at h0
      | cons x r => simp
    simp only [List.length_cons]; omega
  · omega
theorem filter_yes {α : Type} {l : List α} {p : α → Bool} {k : Nat} {x : α} (h : l[k]? = some x) (hp : p x = true) : (l.take (k + 1)).filter p = (l.take k).filter p ++ [x] := by
  rw [List.take_add_one, h]; simp [hp]
theorem filter_no {α : Type} {l : List α} {p : α → Bool} {k : Nat} {x : α} (h : l[k]? = some x) (hp : p x = false) : (l.take (k + 1)).filter p = (l.take k).filter p := by
  rw [List.take_add_one, h]; simp [hp]
theorem filter_all {α : Type} {l : List α} {p : α → Bool} {k : Nat} (h : l.length ≤ k) : (l.take k).filter p = l.filter p := by rw [List.take_of_length_le h]
end Go.Proofs.YtmpfnkheohlmiaaGreatDoor
namespace Go.Proofs.YtmpfnkheohlmiaaGreatDoor
open Go.RowKit
set_option linter.unusedVariables false
set_option linter.unusedSimpArgs false
set_option linter.unnecessarySimpa false

/-! ### cutting and joining -/
theorem cutL_self (c : UInt8) : ∀ (l : List UInt8), (∀ b ∈ l, b ≠ c) → cutL c l = [l]
  | [], _ => rfl
  | b :: l, h => by
    unfold cutL
    rw [if_neg (h b (by simp)), cutL_self c l (fun d hd => h d (by simp [hd]))]
theorem cutL_cons (c : UInt8) : ∀ (a r : List UInt8), (∀ b ∈ a, b ≠ c) → cutL c (a ++ c :: r) = a :: cutL c r
  | [], r, _ => by show cutL c (c :: r) = _; rw [cutL, if_pos rfl]
  | b :: a, r, h => by
    rw [List.cons_append]
    rw [cutL, if_neg (h b (by simp)), cutL_cons c a r (fun d hd => h d (by simp [hd]))]
def joinC (c : UInt8) : List (List UInt8) → List UInt8
  | [] => []
  | [p] => p
  | p :: q :: r => p ++ c :: joinC c (q :: r)
theorem joinC_cons (c : UInt8) (p : List UInt8) : ∀ (r : List (List UInt8)), r ≠ [] → joinC c (p :: r) = p ++ c :: joinC c r
  | [], h => absurd rfl h
  | q :: r, _ => rfl
theorem join_cut (c : UInt8) : ∀ l, joinC c (cutL c l) = l
  | [] => rfl
  | b :: l => by
    have ih := join_cut c l
    unfold cutL
    by_cases hb : b = c
    · rw [if_pos hb, joinC_cons c [] _ (cutL_ne c l), ih, hb]; rfl
    · rw [if_neg hb]
      cases h : cutL c l with
      | nil => exact absurd h (cutL_ne c l)
      | cons p r =>
        rw [h] at ih
        simp only
        cases r with
        | nil => simp only [joinC] at ih ⊢; rw [ih]
        | cons q r => simp only [joinC] at ih ⊢; rw [← ih]; rfl

/-! ### the bytes of numbers and names -/
theorem natD_all : ∀ (l : List UInt8) (acc n : Nat), natD acc l = some n → ∀ c ∈ l, 48 ≤ c.toNat ∧ c.toNat ≤ 57
  | [], _, _, _ => by simp
  | d :: r, acc, n, h => by
    unfold natD at h
    split at h
    · rename_i hd
      intro c hc
      rcases List.mem_cons.1 hc with rfl | hc
      · exact hd
      · exact natD_all r _ n h c hc
    · cases h
theorem dec_bytes {u : Nat} {c : UInt8} (h : c ∈ Lib.decDigits u) : 48 ≤ c.toNat ∧ c.toNat ≤ 57 := natD_all _ 0 u (natD_dec u) c h
theorem itoa_nat (u : Nat) : Lib.itoa (u : Int) = Lib.decDigits u := Lib.itoa_nonneg u
theorem itoa_bytes {v : Int} (h0 : 0 ≤ v) {c : UInt8} (h : c ∈ Lib.itoa v) : 48 ≤ c.toNat ∧ c.toNat ≤ 57 := by
  obtain ⟨u, rfl⟩ := Int.eq_ofNat_of_zero_le h0
  rw [itoa_nat] at h
  exact dec_bytes h
theorem ne_byte {c d : UInt8} (h : c.toNat ≠ d.toNat) : c ≠ d := fun e => h (by rw [e])
theorem itoa_ne {v : Int} (h0 : 0 ≤ v) {d : UInt8} (hd : d.toNat < 48) : ∀ b ∈ Lib.itoa v, b ≠ d := fun b hb => ne_byte (by have := (itoa_bytes h0 hb).1; omega)
theorem name_bytes {x : Itm} {wd : Int} (h : itemB x wd = true) {c : UInt8} (hc : c ∈ x.name.data.toList) : 45 ≤ c.toNat := by
  unfold itemB nameIs isNameL at h
  simp only [Bool.and_eq_true] at h
  have := List.all_eq_true.1 h.1.1.2 c hc
  unfold nameB smallB digitB at this
  simp only [Bool.or_eq_true, Bool.and_eq_true, decide_eq_true_eq, beq_iff_eq] at this
  omega
theorem kind_bytes (k : Int) {c : UInt8} (hc : c ∈ kindL k) : 97 ≤ c.toNat := by
  unfold kindL at hc
  split at hc <;> simp only [List.mem_cons, List.mem_nil_iff, or_false] at hc <;> rcases hc with rfl | rfl | rfl | rfl | rfl | rfl <;> decide
theorem nd2 {u : Nat} (h : u ≤ 99) : Lib.nDigits u ≤ 2 := by
  by_cases h1 : u < 10
  · rw [Lib.nDigits_small h1]; omega
  · rw [Lib.nDigits_big h1, Lib.nDigits_small (by omega)]; omega
theorem read_itoa {v : Int} (h0 : 0 ≤ v) (h1 : v ≤ 99) : readL (Lib.itoa v) = true ∧ readI (Lib.itoa v) = v := by
  have hl : (absL (Lib.itoa v)).length ≤ 18 := by
    rw [absL_itoa, Lib.decDigits_length]
    have := nd2 (u := v.natAbs) (by omega)
    omega
  obtain ⟨h2, h3⟩ := readL_is hl rfl
  exact ⟨h2, readI_is h2 h3⟩
theorem read_back {l : List UInt8} (h : readL l = true) : l = Lib.itoa (readI l) := by
  obtain ⟨_, h2⟩ := readL_of h
  rw [readI_is h rfl]; exact h2

/-! ### one line -/
def rangeL (x : Itm) : List UInt8 := Lib.itoa x.fr ++ 45 :: Lib.itoa x.to
def lineC (x : Itm) : List UInt8 := x.name.data.toList ++ 32 :: (kindL x.kind ++ 32 :: rangeL x)
theorem line_cut (x : Itm) : lineL x = lineC x ++ [10] := by unfold lineL lineC rangeL; simp
def kindP (k : List UInt8) : Int := if k = [116, 101, 120, 116] then 1 else if k = [110, 117, 109, 98, 101, 114] then 2 else 0
theorem kindP_1 : kindP [116, 101, 120, 116] = 1 := by decide +kernel
theorem kindP_2 : kindP [110, 117, 109, 98, 101, 114] = 2 := by decide +kernel
theorem kindP_0 {k : List UInt8} (h1 : k ≠ [116, 101, 120, 116]) (h2 : k ≠ [110, 117, 109, 98, 101, 114]) : kindP k = 0 := by unfold kindP; rw [if_neg h1, if_neg h2]
theorem kind_back {k : Int} (h : k = 1 ∨ k = 2) : kindP (kindL k) = k := by rcases h with rfl | rfl <;> decide +kernel
theorem kind_forth {l : List UInt8} (h : kindP l = 1 ∨ kindP l = 2) : kindL (kindP l) = l := by
  unfold kindP at *
  split
  · rename_i e; rw [e]; decide +kernel
  · rename_i e
    rw [if_neg e] at h
    split
    · rename_i e2; rw [e2]; decide +kernel
    · rename_i e2; rw [if_neg e2] at h; omega
def lineOk (l : List UInt8) : Bool := match cutL 32 l with
  | [_, _, r] => (match cutL 45 r with | [a, b] => readL a && readL b | _ => false)
  | _ => false
def lineX (l : List UInt8) : Itm := match cutL 32 l with
  | [n, k, r] => (match cutL 45 r with | [a, b] => ⟨⟨n.toArray⟩, kindP k, readI a, readI b⟩ | _ => ⟨⟨#[]⟩, 0, 0, 0⟩)
  | _ => ⟨⟨#[]⟩, 0, 0, 0⟩
theorem line_words {x : Itm} {wd : Int} (h : itemB x wd = true) : cutL 32 (lineC x) = [x.name.data.toList, kindL x.kind, rangeL x] ∧ cutL 45 (rangeL x) = [Lib.itoa x.fr, Lib.itoa x.to] := by
  obtain ⟨h1, h2, h3⟩ := itemB_field h
  constructor
  · unfold lineC
    rw [cutL_cons 32 _ _ (fun b hb => ne_byte (by have := name_bytes h hb; show b.toNat ≠ 32; omega)), cutL_cons 32 _ _ (fun b hb => ne_byte (by have := kind_bytes _ hb; show b.toNat ≠ 32; omega)), cutL_self]
    intro b hb
    unfold rangeL at hb
    rcases List.mem_append.1 hb with hb | hb
    · exact itoa_ne h1 (by decide) b hb
    · rcases List.mem_cons.1 hb with rfl | hb
      · decide
      · exact itoa_ne (by omega) (by decide) b hb
  · unfold rangeL
    rw [cutL_cons 45 _ _ (itoa_ne h1 (by decide)), cutL_self 45 _ (itoa_ne (by omega) (by decide))]
theorem line_read {x : Itm} {wd : Int} (h : itemB x wd = true) (hw : wd ≤ 20) : lineOk (lineC x) = true ∧ lineX (lineC x) = x := by
  obtain ⟨h1, h2, h3⟩ := itemB_field h
  obtain ⟨e1, e2⟩ := line_words h
  obtain ⟨r1, r2⟩ := read_itoa h1 (by omega)
  obtain ⟨q1, q2⟩ := read_itoa (v := x.to) (by omega) (by omega)
  have hk := kind_back (item_kind h)
  constructor
  · unfold lineOk; simp only [e1, e2, r1, q1]; rfl
  · unfold lineX; simp only [e1, e2, r2, q2, hk]
theorem line_shape {l : List UInt8} (h : lineOk l = true) : ∃ n k a b, cutL 32 l = [n, k, a ++ 45 :: b] ∧ cutL 45 (a ++ 45 :: b) = [a, b] ∧ readL a = true ∧ readL b = true ∧ lineX l = ⟨⟨n.toArray⟩, kindP k, readI a, readI b⟩ := by
  unfold lineOk at h
  split at h
  · rename_i n k r e
    split at h
    · rename_i a b e2
      simp only [Bool.and_eq_true] at h
      have hr : r = a ++ 45 :: b := by have := join_cut 45 r; rw [e2] at this; exact this.symm
      subst hr
      refine ⟨n, k, a, b, e, e2, h.1, h.2, ?_⟩
      unfold lineX; simp only [e, e2]
    · cases h
  · cases h
theorem line_print {l : List UInt8} {wd : Int} (h : lineOk l = true) (hi : itemB (lineX l) wd = true) : lineC (lineX l) = l := by
  obtain ⟨n, k, a, b, e, e2, h1, h2, hx⟩ := line_shape h
  have hj := join_cut 32 l
  rw [e] at hj
  have hk := item_kind hi
  rw [hx] at hk ⊢
  have hkf := kind_forth hk
  unfold lineC rangeL
  simp only at hkf ⊢
  rw [hkf, ← read_back h1, ← read_back h2]
  exact hj

/-! ### the whole text -/
def headC (wd : Int) : List UInt8 := [119, 105, 100, 116, 104, 32] ++ Lib.itoa wd
theorem head_cut (wd : Int) : headL wd = headC wd ++ [10] := rfl
theorem headC_ne {wd : Int} (h : 0 ≤ wd) : ∀ b ∈ headC wd, b ≠ 10 := by
  intro b hb
  unfold headC at hb
  rcases List.mem_append.1 hb with hb | hb
  · have : ∀ c ∈ ([119, 105, 100, 116, 104, 32] : List UInt8), c ≠ 10 := by decide +kernel
    exact this b hb
  · exact itoa_ne h (by decide) b hb
theorem lineC_ne {x : Itm} {wd : Int} (h : itemB x wd = true) : ∀ b ∈ lineC x, b ≠ 10 := by
  obtain ⟨h1, h2, h3⟩ := itemB_field h
  intro b hb
  unfold lineC rangeL at hb
  rcases List.mem_append.1 hb with hb | hb
  · exact ne_byte (by have := name_bytes h hb; show b.toNat ≠ 10; omega)
  · rcases List.mem_cons.1 hb with rfl | hb
    · decide
    · rcases List.mem_append.1 hb with hb | hb
      · exact ne_byte (by have := kind_bytes _ hb; show b.toNat ≠ 10; omega)
      · rcases List.mem_cons.1 hb with rfl | hb
        · decide
        · rcases List.mem_append.1 hb with hb | hb
          · exact itoa_ne h1 (by decide) b hb
          · rcases List.mem_cons.1 hb with rfl | hb
            · decide
            · exact itoa_ne (by omega) (by decide) b hb
theorem lines_cut {wd : Int} : ∀ (xs : List Itm), (∀ x ∈ xs, itemB x wd = true) → cutL 10 (xs.flatMap lineL) = xs.map lineC ++ [[]]
  | [], _ => rfl
  | x :: r, h => by
    rw [List.flatMap_cons, line_cut, List.append_assoc]
    show cutL 10 (lineC x ++ 10 :: r.flatMap lineL) = _
    rw [cutL_cons 10 _ _ (lineC_ne (h x (by simp))), lines_cut r (fun y hy => h y (by simp [hy]))]
    rfl
theorem text_lines {wd : Int} {xs : List Itm} (h : validLayB wd xs = true) : cutL 10 (layTextL wd xs) = headC wd :: (xs.map lineC ++ [[]]) := by
  obtain ⟨w1, w2, _, _⟩ := validLay_is h
  unfold layTextL layUp linesL
  rw [List.take_length, head_cut, List.append_assoc]
  show cutL 10 (headC wd ++ 10 :: xs.flatMap lineL) = _
  rw [cutL_cons 10 _ _ (headC_ne (by omega)), lines_cut xs (fun x hx => validLay_item h hx)]
theorem head_words {wd : Int} (h : 0 ≤ wd) : cutL 32 (headC wd) = [[119, 105, 100, 116, 104], Lib.itoa wd] := by
  show cutL 32 ([119, 105, 100, 116, 104] ++ 32 :: Lib.itoa wd) = _
  rw [cutL_cons 32 _ _ (by decide +kernel), cutL_self 32 _ (itoa_ne h (by decide))]
/-- what the lines ahead of the last, behind the first, give -/
def midL (s : List UInt8) : List (List UInt8) := (cutL 10 s).tail.dropLast
def headP (s : List UInt8) : List UInt8 := (cutL 10 s).headD []
def shapeP (s : List UInt8) : Bool := decide (2 ≤ (cutL 10 s).length) && decide ((cutL 10 s).length ≤ 14) && decide ((cutL 10 s).getLast? = some []) && decide (7 ≤ (headP s).length) && decide ((headP s).take 6 = [119, 105, 100, 116, 104, 32])
def layOk (s : List UInt8) : Bool := shapeP s && readL ((headP s).drop 6) && (midL s).all lineOk && validLayB (readI ((headP s).drop 6)) ((midL s).map lineX)
def layW (s : List UInt8) : Int := if layOk s then readI ((headP s).drop 6) else 0
def layX (s : List UInt8) : List Itm := if layOk s then (midL s).map lineX else []
theorem lay_no {s : List UInt8} (h : layOk s = false) : layW s = 0 ∧ layX s = [] := ⟨by unfold layW; rw [h]; rfl, by unfold layX; rw [h]; rfl⟩
theorem lay_yes {s : List UInt8} (h : layOk s = true) : layW s = readI ((headP s).drop 6) ∧ layX s = (midL s).map lineX := ⟨by unfold layW; rw [h]; rfl, by unfold layX; rw [h]; rfl⟩
theorem itoa_pos (v : Int) : 1 ≤ (Lib.itoa v).length := by
  unfold Lib.itoa
  split
  · simp
  · rw [Lib.decDigits_length]; exact Lib.nDigits_pos _
/-- a text of a valid layout is read back -/
theorem lay_read {wd : Int} {xs : List Itm} (h : validLayB wd xs = true) : layOk (layTextL wd xs) = true ∧ layW (layTextL wd xs) = wd ∧ layX (layTextL wd xs) = xs := by
  obtain ⟨w1, w2, hl, _⟩ := validLay_is h
  have hc := text_lines h
  have hh : headP (layTextL wd xs) = headC wd := by unfold headP; rw [hc]; rfl
  have hm : midL (layTextL wd xs) = xs.map lineC := by unfold midL; rw [hc]; simp
  have hd : (headC wd).drop 6 = Lib.itoa wd := rfl
  obtain ⟨r1, r2⟩ := read_itoa (v := wd) (by omega) (by omega)
  have hx : (xs.map lineC).map lineX = xs := by
    rw [List.map_map]
    have : ∀ x ∈ xs, (lineX ∘ lineC) x = x := fun x hx => (line_read (validLay_item h hx) w2).2
    conv => rhs; rw [← List.map_id xs]
    exact List.map_congr_left this
  have hs : shapeP (layTextL wd xs) = true := by
    unfold shapeP
    rw [hh, hc]
    have h7 : 7 ≤ (headC wd).length := by have := itoa_pos wd; unfold headC; simp only [List.length_append, List.length_cons, List.length_nil]; omega
    rw [decide_eq_true h7, decide_eq_true (show (headC wd).take 6 = [119, 105, 100, 116, 104, 32] from rfl)]
    rw [decide_eq_true (show 2 ≤ (headC wd :: (List.map lineC xs ++ [[]])).length by simp), decide_eq_true (show (headC wd :: (List.map lineC xs ++ [[]])).length ≤ 14 by simp; omega)]
    rw [decide_eq_true (show (headC wd :: (List.map lineC xs ++ [[]])).getLast? = some [] by rw [← List.cons_append, List.getLast?_concat])]
    rfl
  have hok : layOk (layTextL wd xs) = true := by
    unfold layOk
    rw [hs, hh, hd, r1, r2, hm, hx, h]
    have : (xs.map lineC).all lineOk = true := by
      rw [List.all_eq_true]
      intro l hl
      obtain ⟨x, hx, rfl⟩ := List.mem_map.1 hl
      exact (line_read (validLay_item h hx) w2).1
    rw [this]; rfl
  obtain ⟨e1, e2⟩ := lay_yes hok
  exact ⟨hok, by rw [e1, hh, hd, r2], by rw [e2, hm, hx]⟩
theorem flat_join : ∀ (L : List (List UInt8)), joinC 10 (L ++ [[]]) = L.flatMap (fun l => l ++ [10])
  | [] => rfl
  | l :: r => by
    rw [List.cons_append, joinC_cons 10 l _ (by simp), flat_join r]; simp
/-- what is read has that text -/
theorem lay_print {s : List UInt8} (h : layOk s = true) : validLayB (layW s) (layX s) = true ∧ layTextL (layW s) (layX s) = s := by
  obtain ⟨e1, e2⟩ := lay_yes h
  rw [e1, e2]
  unfold layOk at h
  simp only [Bool.and_eq_true] at h
  obtain ⟨⟨⟨hs, hr⟩, ha⟩, hv⟩ := h
  refine ⟨hv, ?_⟩
  unfold shapeP at hs
  simp only [Bool.and_eq_true, decide_eq_true_eq] at hs
  obtain ⟨⟨⟨⟨s1, s2⟩, s3⟩, s4⟩, s5⟩ := hs
  obtain ⟨h0, r, hc⟩ : ∃ h0 r, cutL 10 s = h0 :: r := by
    cases hq : cutL 10 s with
    | nil => rw [hq] at s1; simp at s1
    | cons p r => exact ⟨p, r, rfl⟩
  have hh : headP s = h0 := by unfold headP; rw [hc]; rfl
  have hm : midL s = r.dropLast := by unfold midL; rw [hc]; rfl
  rw [hc] at s1 s3
  have hrne : r ≠ [] := fun e => by subst e; simp at s1
  have hrl : r = r.dropLast ++ [[]] := by
    obtain ⟨ys, hy⟩ := List.getLast?_eq_some_iff.1 s3
    cases ys with
    | nil => simp only [List.nil_append, List.cons.injEq] at hy; exact absurd hy.2 hrne
    | cons y ys =>
      simp only [List.cons_append, List.cons.injEq] at hy
      rw [hy.2]; simp
  have hj := join_cut 10 s
  rw [hc, joinC_cons 10 h0 r hrne, hrl, flat_join] at hj
  rw [hh] at s5 hr hv ⊢
  rw [hm] at ha hv ⊢
  have hhd : headL (readI (h0.drop 6)) = h0 ++ [10] := by
    rw [head_cut]; unfold headC
    rw [← read_back hr, ← s5, List.take_append_drop]
  have hln : ∀ l ∈ r.dropLast, lineL (lineX l) = l ++ [10] := fun l hl => by
    rw [line_cut, line_print (List.all_eq_true.1 ha l hl) (validLay_item hv (List.mem_map_of_mem hl))]
  unfold layTextL layUp linesL
  rw [List.take_length, hhd]
  have hfl : (r.dropLast.map lineX).flatMap lineL = r.dropLast.flatMap (fun l => l ++ [10]) := by
    rw [List.flatMap_map]
    generalize r.dropLast = D at hln
    clear hj hrl ha hv hm
    induction D with
    | nil => rfl
    | cons d D ih => rw [List.flatMap_cons, List.flatMap_cons, hln d (by simp), ih (fun l hl => hln l (by simp [hl]))]
  rw [hfl]
  rw [← hj]; simp
theorem lay_iff {s : List UInt8} {wd : Int} {xs : List Itm} (hv : validLayB wd xs = true) (he : layTextL wd xs = s) : layOk s = true ∧ layW s = wd ∧ layX s = xs := by
  subst he; exact lay_read hv
end Go.Proofs.YtmpfnkheohlmiaaGreatDoor
namespace Go.Proofs.YtmpfnkheohlmiaaGreatDoor
open Go.RowKit
set_option linter.unusedVariables false
set_option linter.unusedSimpArgs false
set_option linter.unnecessarySimpa false

theorem cutL_sum (c : UInt8) : ∀ l : List UInt8, ((cutL c l).map List.length).sum + (cutL c l).length = l.length + 1
  | [] => rfl
  | b :: l => by
    have ih := cutL_sum c l
    unfold cutL
    split
    · simp only [List.map_cons, List.length_nil, List.sum_cons, List.length_cons]; omega
    · cases h : cutL c l with
      | nil => exact absurd h (cutL_ne c l)
      | cons p r =>
        rw [h] at ih
        simp only [List.map_cons, List.sum_cons, List.length_cons] at ih ⊢
        omega
/-- the bytes of the first k lines -/
def sumTo (s : List UInt8) (k : Nat) : Nat := (((cutL 10 s).take k).map List.length).sum
theorem sumTo_zero (s : List UInt8) : sumTo s 0 = 0 := rfl
theorem sumTo_succ {s : List UInt8} {k : Nat} {l : List UInt8} (h : (cutL 10 s)[k]? = some l) : sumTo s (k + 1) = sumTo s k + l.length := by
  unfold sumTo; rw [List.take_add_one, h]; simp
theorem sumTo_le (s : List UInt8) (k : Nat) : sumTo s k ≤ s.length := by
  have h1 := cutL_sum 10 s
  have h2 : ((cutL 10 s).map List.length).sum = (((cutL 10 s).take k).map List.length).sum + (((cutL 10 s).drop k).map List.length).sum := by rw [← List.sum_append, ← List.map_append, List.take_append_drop]
  have h3 : 0 < (cutL 10 s).length := List.length_pos_iff.2 (cutL_ne 10 s)
  unfold sumTo; omega
theorem le_sum_at : ∀ {L : List (List UInt8)} {k : Nat} {l : List UInt8}, L[k]? = some l → l.length ≤ (L.map List.length).sum
  | [], k, l, h => by simp at h
  | p :: r, 0, l, h => by simp only [List.getElem?_cons_zero, Option.some.injEq] at h; subst h; simp
  | p :: r, k + 1, l, h => by
    have := le_sum_at (L := r) (k := k) (l := l) (by simpa using h)
    simp only [List.map_cons, List.sum_cons]; omega
theorem part_len {c : UInt8} {s l : List UInt8} {k : Nat} (h : (cutL c s)[k]? = some l) : l.length ≤ s.length := by
  have h1 := cutL_sum c s
  have h3 : 0 < (cutL c s).length := List.length_pos_iff.2 (cutL_ne c s)
  have h2 : l.length ≤ ((cutL c s).map List.length).sum := le_sum_at h
  omega
theorem three_name {l n k r : List UInt8} (h : cutL 32 l = [n, k, r]) : n.length + 2 ≤ l.length := by
  have := cutL_sum 32 l
  rw [h] at this
  simp at this; omega
theorem lay_shape {s : List UInt8} (h : layOk s = true) : cutL 10 s = headC (layW s) :: ((layX s).map lineC ++ [[]]) ∧ 0 ≤ layW s ∧ layW s ≤ 20 ∧ (layX s).length ≤ 12 := by
  obtain ⟨h1, h2⟩ := lay_print h
  obtain ⟨w1, w2, w3, _⟩ := validLay_is h1
  have := text_lines h1
  rw [h2] at this
  exact ⟨this, by omega, w2, w3⟩
theorem lay_len {s : List UInt8} (h : layOk s = true) : (cutL 10 s).length = (layX s).length + 2 := by rw [(lay_shape h).1]; simp
theorem lay_line {s : List UInt8} {i : Nat} {l : List UInt8} (h : layOk s = true) (h1 : 1 ≤ i) (h2 : i + 1 < (cutL 10 s).length) (hl : (cutL 10 s)[i]? = some l) : ∃ x, (layX s)[i - 1]? = some x ∧ l = lineC x ∧ itemB x (layW s) = true := by
  have hs := (lay_shape h).1
  have hn := lay_len h
  obtain ⟨k, rfl⟩ : ∃ k, i = k + 1 := ⟨i - 1, by omega⟩
  rw [hs, List.getElem?_cons_succ, List.getElem?_append_left (by simp; omega), List.getElem?_map] at hl
  obtain ⟨x, hx, rfl⟩ := Option.map_eq_some_iff.1 hl
  exact ⟨x, by simpa using hx, rfl, validLay_item (lay_print h).1 (List.mem_of_getElem? hx)⟩
theorem lay_first {s l : List UInt8} (h : layOk s = true) (hl : (cutL 10 s)[0]? = some l) : cutL 32 l = [[119, 105, 100, 116, 104], Lib.itoa (layW s)] ∧ readI (Lib.itoa (layW s)) = layW s := by
  obtain ⟨hs, h0, h1, _⟩ := lay_shape h
  rw [hs] at hl
  simp only [List.getElem?_cons_zero, Option.some.injEq] at hl
  subst hl
  exact ⟨head_words h0, (read_itoa h0 (by omega)).2⟩
theorem cut_dash {a b : List UInt8} (h : ∀ c ∈ a, c ≠ 45) : Lib.cut (a ++ 45 :: b) [45] = (a, b, true) := by
  have hi : Lib.index (a ++ 45 :: b) [45] = (a.length : Int) := by
    induction a with
    | nil => rw [List.nil_append, Lib.index]; simp [List.isPrefixOf]
    | cons d r ih =>
      have hd : ¬ (45 : UInt8) = d := fun e => h d (by simp) e.symm
      have ihr := ih (fun c hc => h c (by simp [hc]))
      rw [List.cons_append, Lib.index]
      simp [List.isPrefixOf, hd, ihr]
      try omega
  unfold Lib.cut
  simp only [hi]
  first
    | (rw [if_pos (by omega)]; simp)
    | (rw [if_neg (by omega)]; simp)
    | simp
/-- what the reader knows behind k lines -/
def RlInv (s : List UInt8) (k : Nat) (wd : Int) (xs : List Itm) : Prop := layOk s = true → (1 ≤ k → wd = layW s) ∧ xs = (layX s).take (k - 1)
theorem RlInv.start (s : List UInt8) : RlInv s 0 0 [] := fun h => ⟨fun h => absurd h (by omega), by simp⟩
theorem RlInv.first {s : List UInt8} {xs : List Itm} {l : List UInt8} {w : Int} (h : RlInv s 0 w xs) (hl : (cutL 10 s)[0]? = some l) {p : List UInt8} (hp : (cutL 32 l).getLast? = some p) : RlInv s 1 (readI p) xs := fun hk => by
  obtain ⟨h1, h2⟩ := lay_first hk hl
  rw [h1] at hp
  simp at hp
  rw [← hp]
  exact ⟨fun _ => h2, (h hk).2⟩
theorem RlInv.next {s : List UInt8} {k : Nat} {wd : Int} {xs : List Itm} {l : List UInt8} {y : Itm} (h : RlInv s k wd xs) (h1 : 1 ≤ k) (h2 : k + 1 < (cutL 10 s).length) (hl : (cutL 10 s)[k]? = some l) (hy : ∀ x wd', itemB x wd' = true → wd' ≤ 20 → l = lineC x → y = x) : RlInv s (k + 1) wd (xs ++ [y]) := fun hk => by
  obtain ⟨e1, e2⟩ := h hk
  obtain ⟨x, hx, e3, e4⟩ := lay_line hk h1 h2 hl
  refine ⟨fun _ => e1 h1, ?_⟩
  have hw := (lay_shape hk).2.2.1
  rw [hy x _ e4 hw e3, e2]
  obtain ⟨j, rfl⟩ : ∃ j, k = j + 1 := ⟨k - 1, by omega⟩
  simp only [Nat.add_sub_cancel] at hx ⊢
  rw [List.take_add_one, hx]; rfl
theorem RlInv.stop {s : List UInt8} {k : Nat} {l : List UInt8} (h1 : 1 ≤ k) (h2 : k + 1 < (cutL 10 s).length) (hl : (cutL 10 s)[k]? = some l) (hy : ∀ x wd', itemB x wd' = true → wd' ≤ 20 → l = lineC x → False) : layOk s = false := by
  cases hk : layOk s
  · rfl
  · exfalso
    obtain ⟨x, hx, e3, e4⟩ := lay_line hk h1 h2 hl
    exact hy x _ e4 (lay_shape hk).2.2.1 e3
theorem RlInv.done {s : List UInt8} {k : Nat} {wd : Int} {xs : List Itm} (h : RlInv s k wd xs) (hk : k + 1 = (cutL 10 s).length) (h0 : layOk s = true) : wd = layW s ∧ xs = layX s := by
  obtain ⟨e1, e2⟩ := h h0
  have hn := lay_len h0
  refine ⟨e1 (by omega), ?_⟩
  rw [e2, List.take_of_length_le (by omega)]
theorem lay_long {s : List UInt8} (h : 14 < (cutL 10 s).length) : layOk s = false := by
  cases hk : layOk s
  · rfl
  · have := lay_len hk; have := (lay_shape hk).2.2.2; omega
/-- how the reader ends -/
theorem rl_bad {s : List UInt8} {k : Nat} {wd : Int} {xs : List Itm} (h : RlInv s k wd xs) (hk : k + 1 = (cutL 10 s).length) (hv : validLayB wd xs = false) : layOk s = false := by
  cases h0 : layOk s
  · rfl
  · obtain ⟨rfl, rfl⟩ := h.done hk h0
    rw [(lay_print h0).1] at hv; cases hv
theorem rl_not {s : List UInt8} {k : Nat} {wd : Int} {xs : List Itm} (h : RlInv s k wd xs) (hk : k + 1 = (cutL 10 s).length) (hv : layTextL wd xs ≠ s) : layOk s = false := by
  cases h0 : layOk s
  · rfl
  · obtain ⟨rfl, rfl⟩ := h.done hk h0
    exact absurd (lay_print h0).2 hv
theorem items_snoc (xs : List Itm) (p : Itm) : itemsSz (xs ++ [p]) = itemsSz xs + 1 + p.name.size := by
  unfold itemsSz; simp; omega
/-- a line's item, as the program reads it -/
def kindI (k : List UInt8) : Int := if k = [] then 0 else if k = [116, 101, 120, 116] then 1 else if k = [110, 117, 109, 98, 101, 114] then 2 else -1
theorem kindI_kind {k : Int} (h : k = 1 ∨ k = 2) : kindI (kindL k) = k := by rcases h with rfl | rfl <;> decide +kernel
theorem read_line {x : Itm} {wd : Int} {n k r a b : List UInt8} (hi : itemB x wd = true) (hw : wd ≤ 20) (h : cutL 32 (lineC x) = [n, k, r]) (ha : a = (Lib.cut r [45]).1) (hb : b = (Lib.cut r [45]).2.1) :
    (⟨⟨n.toArray⟩, kindI k, readI a, readI b⟩ : Itm) = x ∧ readL a = true ∧ readL b = true := by
  obtain ⟨e1, e2⟩ := line_words hi
  obtain ⟨f1, f2, f3⟩ := itemB_field hi
  rw [e1] at h
  simp only [List.cons.injEq, and_true] at h
  obtain ⟨rfl, rfl, rfl⟩ := h
  have hc : Lib.cut (rangeL x) [45] = (Lib.itoa x.fr, Lib.itoa x.to, true) := cut_dash (itoa_ne f1 (by decide))
  rw [hc] at ha hb
  simp only at ha hb
  subst ha; subst hb
  obtain ⟨r1, r2⟩ := read_itoa f1 (by omega)
  obtain ⟨r3, r4⟩ := read_itoa (v := x.to) (by omega) (by omega)
  refine ⟨?_, r1, r3⟩
  rw [r2, r4, kindI_kind (item_kind hi)]
theorem cutB_at {c : UInt8} {s t : ByteArray} {k : Nat} (h : (cutB c s)[k]? = some t) : (cutL c s.data.toList)[k]? = some t.data.toList := by
  unfold cutB at h
  rw [List.getElem?_map] at h
  obtain ⟨l, hl, rfl⟩ := Option.map_eq_some_iff.1 h
  simpa using hl
theorem cutB_length (c : UInt8) (s : ByteArray) : (cutB c s).length = (cutL c s.data.toList).length := by unfold cutB; simp
theorem cutB_pos (c : UInt8) (s : ByteArray) : 1 ≤ (cutB c s).length := by rw [cutB_length]; exact List.length_pos_iff.2 (cutL_ne c _)
theorem cutB_part {c : UInt8} {s t : ByteArray} {k : Nat} (h : (cutB c s)[k]? = some t) : t.size ≤ s.size := by
  have := part_len (cutB_at h)
  rw [len_bytes, len_bytes] at this; exact this
theorem cutB_three {s n k r : ByteArray} (h : (cutB 32 s).length = 3) (h0 : (cutB 32 s)[0]? = some n) (h1 : (cutB 32 s)[1]? = some k) (h2 : (cutB 32 s)[2]? = some r) : cutL 32 s.data.toList = [n.data.toList, k.data.toList, r.data.toList] := by
  have a0 := cutB_at h0
  have a1 := cutB_at h1
  have a2 := cutB_at h2
  rw [cutB_length] at h
  match hq : cutL 32 s.data.toList, h with
  | [x, y, z], _ => rw [hq] at a0 a1 a2; simp at a0 a1 a2; rw [a0, a1, a2]
end Go.Proofs.YtmpfnkheohlmiaaGreatDoor
