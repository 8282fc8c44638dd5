/- Texts cut at a byte. No program in sight. -/
import Derived.Test.YtcbjfgjlhjjpiaaDoorData
import Derived.Lib.SplitLaws
namespace Go.Proofs.YtcbjfgjlhjjpiaaDoor
open Go.RowKit
set_option linter.unusedVariables false
set_option linter.unusedSimpArgs false
set_option linter.unnecessarySimpa false

/-- the parts between bytes -/
def cutL (c : UInt8) : List UInt8 → List (List UInt8)
  | [] => [[]]
  | b :: l => if b = c then [] :: cutL c l else (match cutL c l with | [] => [[b]] | h :: t => (b :: h) :: t)
theorem cutL_ne (c : UInt8) : ∀ l, cutL c l ≠ []
  | [] => by simp [cutL]
  | b :: l => by
    unfold cutL
    split
    · simp
    · split <;> simp
theorem cutL_last (c : UInt8) (l : List UInt8) : ∃ d p, cutL c l = d ++ [p] := by
  rcases List.eq_nil_or_concat (cutL c l) with h | ⟨d, p, h⟩
  · exact absurd h (cutL_ne c l)
  · exact ⟨d, p, by simpa using h⟩
theorem cutL_snoc (c b : UInt8) : ∀ (l : List UInt8) (d : List (List UInt8)) (p : List UInt8), cutL c l = d ++ [p] → cutL c (l ++ [b]) = if b = c then d ++ [p, []] else d ++ [p ++ [b]]
  | [], d, p, h => by
    have hd : d = [] := by
      cases d with
      | nil => rfl
      | cons x r => simp [cutL] at h
    subst hd
    simp only [cutL, List.nil_append, List.cons.injEq, and_true] at h
    subst h
    by_cases hb : b = c
    · simp [cutL, hb]
    · simp [cutL, hb]
  | a :: l, d, p, h => by
    obtain ⟨d', p', h'⟩ := cutL_last c l
    have ih := cutL_snoc c b l d' p' h'
    simp only [List.cons_append]
    unfold cutL at h ⊢
    by_cases ha : a = c
    · rw [if_pos ha] at h ⊢
      rw [h'] at h
      have hd : d = [] :: d' ∧ p = p' := by
        have h2 : ([] :: d') ++ [p'] = d ++ [p] := by simpa using h
        obtain ⟨h3, h4⟩ := List.append_inj' h2 rfl
        exact ⟨h3.symm, by simpa using h4.symm⟩
      obtain ⟨rfl, rfl⟩ := hd
      rw [ih]
      split <;> simp
    · rw [if_neg ha] at h ⊢
      cases d' with
      | nil =>
        rw [h'] at h
        simp only [List.nil_append] at h ih
        have hd : d = [] ∧ p = a :: p' := by
          cases d with
          | nil => simpa using h.symm
          | cons x r => simp at h
        obtain ⟨rfl, rfl⟩ := hd
        rw [ih]
        by_cases hb : b = c
        · rw [if_pos hb, if_pos hb]; simp
        · rw [if_neg hb, if_neg hb]; simp
      | cons x r =>
        rw [h'] at h
        simp only [List.cons_append] at h ih
        have hd : d = (a :: x) :: r ∧ p = p' := by
          have h2 : ((a :: x) :: r) ++ [p'] = d ++ [p] := by simpa using h
          obtain ⟨h3, h4⟩ := List.append_inj' h2 rfl
          exact ⟨h3.symm, by simpa using h4.symm⟩
        obtain ⟨rfl, rfl⟩ := hd
        rw [ih]
        by_cases hb : b = c
        · rw [if_pos hb, if_pos hb]; simp
        · rw [if_neg hb, if_neg hb]; simp
theorem splitK_cut (c : UInt8) : ∀ l : List UInt8, Lib.splitK [c] 0 (Lib.count l [c]) l = cutL c l
  | [] => by rw [Lib.count_miss (by simp [Lib.index])]; rfl
  | b :: l => by
    have ih := splitK_cut c l
    unfold cutL
    by_cases hb : b = c
    · subst hb
      have hix : Lib.index (b :: l) [b] = 0 := by rw [Lib.index]; simp [List.isPrefixOf]
      rw [if_pos rfl, Lib.count_cons_eq, Nat.add_comm]
      unfold Lib.splitK
      rw [hix]
      simpa using ih
    · rw [if_neg hb, Lib.count_cons_ne b c l hb]
      cases hn : Lib.count l [c] with
      | zero =>
        rw [hn] at ih
        simp only [Lib.splitK] at ih ⊢
        rw [← ih]
      | succ m =>
        rw [hn] at ih
        have hp : ([c] : List UInt8).isPrefixOf (b :: l) = false := by simp [List.isPrefixOf, Ne.symm hb]
        have hix : Lib.index (b :: l) [c] = if Lib.index l [c] == -1 then -1 else Lib.index l [c] + 1 := by rw [Lib.index, hp]; simp
        by_cases hm : Lib.index l [c] = -1
        · rw [Lib.count_miss hm] at hn; cases hn
        · have hge := Lib.index_ge l [c]
          obtain ⟨j, hj⟩ : ∃ j : Nat, Lib.index l [c] = j := ⟨(Lib.index l [c]).toNat, by omega⟩
          have hj2 : Lib.index (b :: l) [c] = ((j + 1 : Nat) : Int) := by rw [hix, if_neg (fun e => hm (beq_iff_eq.1 e)), hj]; omega
          unfold Lib.splitK at ih ⊢
          rw [hj] at ih
          rw [hj2]
          have e1 : ((j : Int) == -1) = false := by first | (simp; done) | (simp; omega)
          have e2 : (((j + 1 : Nat) : Int) == -1) = false := by first | (simp; done) | (simp; omega)
          rw [e1] at ih
          rw [e2]
          simp only [Bool.false_eq_true, if_false, Int.toNat_natCast, Nat.add_zero, List.length_singleton, List.take_succ_cons, List.drop_succ_cons] at ih ⊢
          rw [← ih]
/-- the parts as texts -/
def cutB (c : UInt8) (s : ByteArray) : List ByteArray := (cutL c s.data.toList).map fun l => ⟨l.toArray⟩
theorem splitB_cut (c : UInt8) (s : ByteArray) : Lib.splitB ⟨#[c]⟩ 0 (Lib.countB s ⟨#[c]⟩) s = cutB c s := by
  have h := Lib.splitB_data ⟨#[c]⟩ 0 (Lib.countB s ⟨#[c]⟩) s
  have hc : Lib.countB s ⟨#[c]⟩ = Lib.count s.data.toList [c] := rfl
  rw [hc, show (⟨#[c]⟩ : ByteArray).data.toList = [c] from rfl, splitK_cut] at h
  unfold cutB
  rw [hc, ← h, List.map_map]
  conv => lhs; rw [← List.map_id (Lib.splitB ⟨#[c]⟩ 0 (Lib.count s.data.toList [c]) s)]
  exact List.map_congr_left fun x _ => rfl
theorem one_size (c : UInt8) : 1 ≤ (⟨#[c]⟩ : ByteArray).size := Nat.le_refl _
theorem cutB_len (c : UInt8) (s : ByteArray) : (cutB c s).length = Lib.countB s ⟨#[c]⟩ + 1 := by
  rw [← splitB_cut]; exact Lib.splitB_all _ (one_size c) _ _ _ rfl
theorem cutB_le (c : UInt8) (s : ByteArray) : (cutB c s).length ≤ s.size + 1 := by
  rw [cutB_len]; have := Lib.countB_le ⟨#[c]⟩ (one_size c) s.size s (Nat.le_refl _); omega
/-- how far the cutting has come behind k bytes: parts that are done, and where the last one begins -/
def CutAt (c : UInt8) (s : ByteArray) (k f : Nat) (ps : List ByteArray) : Prop := f ≤ k ∧ cutL c (s.data.toList.take k) = ps.map (·.data.toList) ++ [(s.data.toList.take k).drop f]
theorem CutAt.start (c : UInt8) (s : ByteArray) : CutAt c s 0 0 [] := ⟨Nat.le_refl _, by simp [cutL]⟩
theorem CutAt.hit {c : UInt8} {s : ByteArray} {k f : Nat} {ps : List ByteArray} (h : CutAt c s k f ps) (hk : k < s.size) (hc : s[k] = c) : CutAt c s (k + 1) (k + 1) (ps ++ [s.extract f k]) := by
  obtain ⟨h1, h2⟩ := h
  refine ⟨Nat.le_refl _, ?_⟩
  have h3 := cutL_snoc c s[k] _ _ _ h2
  rw [List.take_add_one, get_bytes s k hk]
  simp only [Option.toList_some]
  rw [h3, if_pos hc]
  have h4 : (s.extract f k).data.toList = (s.data.toList.take k).drop f := by rw [Lib.extract_data, List.drop_take]
  rw [List.map_append, List.map_cons, List.map_nil, h4, List.append_assoc]
  congr 1
  have h5 : (s.data.toList.take k ++ [s[k]]).drop (k + 1) = [] := List.drop_of_length_le (by simp; omega)
  rw [h5]; rfl
theorem CutAt.miss {c : UInt8} {s : ByteArray} {k f : Nat} {ps : List ByteArray} (h : CutAt c s k f ps) (hk : k < s.size) (hc : ¬ s[k] = c) : CutAt c s (k + 1) f ps := by
  obtain ⟨h1, h2⟩ := h
  refine ⟨by omega, ?_⟩
  have h3 := cutL_snoc c s[k] _ _ _ h2
  rw [List.take_add_one, get_bytes s k hk]
  simp only [Option.toList_some]
  rw [h3, if_neg hc]
  congr 2
  rw [List.drop_append_of_le_length (by rw [List.length_take, len_bytes]; omega)]
theorem CutAt.done {c : UInt8} {s : ByteArray} {k f : Nat} {ps : List ByteArray} (h : CutAt c s k f ps) (hk : k = s.size) : cutB c s = ps ++ [s.extract f s.size] := by
  obtain ⟨h1, h2⟩ := h
  subst hk
  rw [List.take_of_length_le (by rw [len_bytes]; exact Nat.le_refl _)] at h2
  unfold cutB
  rw [h2, List.map_append, List.map_map]
  congr 1
  · conv => rhs; rw [← List.map_id ps]
    exact List.map_congr_left fun x _ => rfl
  · rw [List.map_cons, List.map_nil]
    congr 1
    have h4 : (s.extract f s.size).data.toList = s.data.toList.drop f := by rw [Lib.extract_data, List.take_of_length_le (by rw [List.length_drop, len_bytes]; exact Nat.le_refl _)]
    rw [← h4]
theorem CutAt.len {c : UInt8} {s : ByteArray} {k f : Nat} {ps : List ByteArray} (h : CutAt c s k f ps) : ps.length ≤ k := by
  obtain ⟨h1, h2⟩ := h
  have hl : ∀ l : List UInt8, (cutL c l).length ≤ l.length + 1 := by
    intro l
    induction l with
    | nil => simp [cutL]
    | cons b l ih =>
      unfold cutL
      split
      · simp; exact ih
      · split
        · simp
        · rename_i h t he; rw [he] at ih; simp at ih ⊢; omega
  have h3 := hl (s.data.toList.take k)
  rw [h2] at h3
  simp only [List.length_append, List.length_map, List.length_singleton, List.length_take] at h3
  omega
/-- the words between blanks -/
def wordsL (s : ByteArray) : List ByteArray := (cutB 32 s).filter fun t => !(t.size == 0)
theorem words_count (c : UInt8) : ∀ l : List UInt8, ∃ h t, cutL c l = h :: t ∧ (t.filter fun x => !(x.length == 0)).length + h.length ≤ l.length
  | [] => ⟨[], [], rfl, by simp⟩
  | b :: l => by
    obtain ⟨h, t, he, hl⟩ := words_count c l
    unfold cutL
    by_cases hb : b = c
    · rw [if_pos hb, he]
      refine ⟨[], h :: t, rfl, ?_⟩
      rw [List.filter_cons]
      cases h with
      | nil => simp at hl ⊢; omega
      | cons x r => simp at hl ⊢; omega
    · rw [if_neg hb, he]
      exact ⟨b :: h, t, rfl, by simp only [List.length_cons]; omega⟩
theorem wordsL_len (s : ByteArray) (h : s.size ≤ 1048576) : (wordsL s).length ≤ 1048576 := by
  obtain ⟨a, t, he, hl⟩ := words_count 32 s.data.toList
  rw [len_bytes] at hl
  have hf : ∀ ls : List (List UInt8), ((ls.map fun l => (⟨l.toArray⟩ : ByteArray)).filter fun t => !(t.size == 0)).length = (ls.filter fun x => !(x.length == 0)).length := by
    intro ls
    rw [List.filter_map, List.length_map]
    rfl
  unfold wordsL cutB
  rw [hf, he, List.filter_cons]
  split
  · rename_i h0
    have : 0 < a.length := by
      cases a with
      | nil => simp at h0
      | cons x r => simp
    simp only [List.length_cons]; omega
  · omega
theorem filter_yes {α : Type} {l : List α} {p : α → Bool} {k : Nat} {x : α} (h : l[k]? = some x) (hp : p x = true) : (l.take (k + 1)).filter p = (l.take k).filter p ++ [x] := by
  rw [List.take_add_one, h]; simp [hp]
theorem filter_no {α : Type} {l : List α} {p : α → Bool} {k : Nat} {x : α} (h : l[k]? = some x) (hp : p x = false) : (l.take (k + 1)).filter p = (l.take k).filter p := by
  rw [List.take_add_one, h]; simp [hp]
theorem filter_all {α : Type} {l : List α} {p : α → Bool} {k : Nat} (h : l.length ≤ k) : (l.take k).filter p = l.filter p := by rw [List.take_of_length_le h]
end Go.Proofs.YtcbjfgjlhjjpiaaDoor
