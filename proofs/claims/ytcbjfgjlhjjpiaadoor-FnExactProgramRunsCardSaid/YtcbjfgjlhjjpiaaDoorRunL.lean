/- The runs of equal characters of a text, in plain Lean. -/
import Derived.Test.YtcbjfgjlhjjpiaaDoorBase
import Derived.Test.YtcbjfgjlhjjpiaaDoorDecL
import Derived.Lib.Join
namespace Go.Proofs.YtcbjfgjlhjjpiaaDoor
open Go.RowKit
set_option linter.unusedVariables false
set_option linter.unusedSimpArgs false
set_option linter.unnecessarySimpa false

/-- where the run of a character ends, from place k on -/
def runEnd (L : List UInt8) (c : UInt8) : Nat → Nat → Nat
  | 0, k => k
  | n + 1, k => if L[k]? = some c then runEnd L c n (k + 1) else k
theorem runEnd_at {L : List UInt8} {c : UInt8} {e : Nat} (he : L[e]? ≠ some c) : ∀ (n k : Nat), k ≤ e → e - k ≤ n → (∀ j, k ≤ j → j < e → L[j]? = some c) → runEnd L c n k = e
  | 0, k, h1, h2, h3 => by unfold runEnd; omega
  | n + 1, k, h1, h2, h3 => by
    unfold runEnd
    by_cases hk : k = e
    · subst hk; rw [if_neg he]
    · rw [if_pos (h3 k (by omega) (by omega))]
      exact runEnd_at he n (k + 1) (by omega) (by omega) (fun j h4 h5 => h3 j (by omega) h5)
/-- the word of a run -/
def wordR (s : ByteArray) (i k : Nat) : ByteArray := s.extract i (i + 1) ++ ⟨(Lib.itoa ((k : Int) - (i : Int))).toArray⟩
/-- one run more -/
def stepR (s : ByteArray) (p : Nat × List ByteArray) : Nat × List ByteArray :=
  match s.data.toList[p.1]? with
  | none => p
  | some c => (runEnd s.data.toList c s.size p.1, p.2 ++ [wordR s p.1 (runEnd s.data.toList c s.size p.1)])
def stateR (s : ByteArray) : Nat → Nat × List ByteArray
  | 0 => (0, [])
  | m + 1 => stepR s (stateR s m)
/-- the text is read as far as i, its words are ps -/
def RunsAt (s : ByteArray) (i : Nat) (ps : List ByteArray) : Prop := ∃ m, m ≤ i ∧ ps.length = m ∧ stateR s m = (i, ps)
theorem RunsAt.start (s : ByteArray) : RunsAt s 0 [] := ⟨0, Nat.le_refl _, rfl, rfl⟩
theorem RunsAt.len {s : ByteArray} {i : Nat} {ps : List ByteArray} (h : RunsAt s i ps) : ps.length ≤ i := by
  obtain ⟨m, h1, h2, _⟩ := h; omega
theorem RunsAt.next {s : ByteArray} {i k : Nat} {ps : List ByteArray} (h : RunsAt s i ps) (hi : i < s.size) (hik : i < k) (hk : k ≤ s.size) (heq : ∀ j, i ≤ j → j < k → s.data.toList[j]? = some s[i]) (hne : s.data.toList[k]? ≠ some s[i]) : RunsAt s k (ps ++ [wordR s i k]) := by
  obtain ⟨m, h1, h2, h3⟩ := h
  refine ⟨m + 1, by omega, by simp [h2], ?_⟩
  have hg := get_bytes s i hi
  have he := runEnd_at hne s.size i (by omega) (by omega) heq
  show stepR s (stateR s m) = _
  rw [h3]
  unfold stepR
  simp only [hg, he]
theorem stateR_stop {s : ByteArray} {m : Nat} {ps : List ByteArray} (h : stateR s m = (s.size, ps)) : ∀ n, stateR s (m + n) = (s.size, ps)
  | 0 => h
  | n + 1 => by
    show stepR s (stateR s (m + n)) = _
    rw [stateR_stop h n]
    unfold stepR
    have : s.data.toList[s.size]? = none := by rw [List.getElem?_eq_none]; rw [len_bytes]; exact Nat.le_refl _
    simp only [this]
def runsT (s : ByteArray) : ByteArray := ⟨(Lib.join ((stateR s s.size).2.map (·.data.toList)) [32]).toArray⟩
theorem RunsAt.done {s : ByteArray} {ps : List ByteArray} (h : RunsAt s s.size ps) : runsT s = ⟨(Lib.join (ps.map (·.data.toList)) [32]).toArray⟩ := by
  obtain ⟨m, h1, h2, h3⟩ := h
  have := stateR_stop h3 (s.size - m)
  rw [show m + (s.size - m) = s.size by omega] at this
  unfold runsT; rw [this]
/-- the joined text of the words so far -/
def joinT (ps : List ByteArray) : ByteArray := ⟨(Lib.join (ps.map (·.data.toList)) [32]).toArray⟩
theorem joinT_nil : joinT [] = ⟨#[]⟩ := rfl
theorem joinT_one (p : ByteArray) : joinT [p] = p := by
  show (⟨(Lib.join [p.data.toList] [32]).toArray⟩ : ByteArray) = p
  unfold Lib.join; simp [List.intercalate, List.intersperse]
theorem join_snoc (x : List UInt8) (sep : List UInt8) : ∀ (xs : List (List UInt8)), xs ≠ [] → Lib.join (xs ++ [x]) sep = Lib.join xs sep ++ sep ++ x
  | [], h => absurd rfl h
  | [y], _ => by simp [Lib.join, List.intercalate, List.intersperse]
  | y :: z :: r, _ => by
    have ih := join_snoc x sep (z :: r) (by simp)
    have e : ∀ (u v : List UInt8) (t : List (List UInt8)), Lib.join (u :: v :: t) sep = u ++ sep ++ Lib.join (v :: t) sep := fun u v t => by simp [Lib.join, List.intercalate, List.intersperse]
    rw [List.cons_append, List.cons_append, e, e]
    rw [← List.cons_append, ih]; simp [List.append_assoc]
theorem joinT_snoc {ps : List ByteArray} (p : ByteArray) (h : ps ≠ []) : joinT (ps ++ [p]) = joinT ps ++ ⟨#[32]⟩ ++ p := by
  have := join_snoc p.data.toList [32] (ps.map (·.data.toList)) (by simpa using h)
  apply ByteArray.ext
  apply Array.toList_inj.1
  simp only [joinT, List.map_append, List.map_cons, List.map_nil, this, ByteArray.data_append, Array.toList_append]
theorem wordR_size {s : ByteArray} {i k : Nat} (hi : i < s.size) : (wordR s i k).size = 1 + (Lib.itoa ((k : Int) - (i : Int))).length := by
  unfold wordR
  rw [ByteArray.size_append, ByteArray.size_extract]
  have : (⟨(Lib.itoa ((k : Int) - (i : Int))).toArray⟩ : ByteArray).size = (Lib.itoa ((k : Int) - (i : Int))).length := by show (Lib.itoa ((k : Int) - (i : Int))).toArray.size = _; simp
  omega
end Go.Proofs.YtcbjfgjlhjjpiaaDoor
