/- A deck of the call's own: a card is appended to it; one of its cards is marked. No program in sight. -/
import Derived.Test.YtcbjfgjlhjjpiaaDoorApp
namespace Go.Proofs.YtcbjfgjlhjjpiaaDoor
open Go.RowKit
set_option linter.unusedVariables false
set_option linter.unusedSimpArgs false
set_option linter.unnecessarySimpa false

theorem RD.RDx {w : World} {a : Option Addr} {xss : List (List Int)} (h : RD w a xss) : RDx w a xss := fun k x hk => by
  obtain ⟨b, o, a', c', e, hc, hr, _⟩ := h.at hk
  exact ⟨b, o, a', c', e, hc, hr⟩
theorem OV.blockAt {w : World} {lo hi e size n c : Nat} {a : Option Addr} {vs : List Value} (h : OV lo hi w e size a n c vs) {p : Addr} (hp : a = some p) : p = ⟨p.block, 0, none⟩ ∧ ∃ cs, w.heap[p.block]? = some (.cells cs e (0, 0)) := by
  obtain ⟨_, ⟨h2, _⟩ | ⟨q, cap, cur, hv, hq, hc, r⟩⟩ := h.1
  · subst hp; cases h2
  · simp only [Value.slice.injEq] at hv
    rw [hp] at hv
    obtain ⟨hv, _⟩ := hv
    simp only [Option.some.injEq] at hv
    subst hv
    exact ⟨rfl, _, hc⟩
/-- rows of different elements lie in different blocks -/
theorem OV.apart {w : World} {lo hi lo' hi' e e' size size' n n' c c' : Nat} {a a' : Option Addr} {vs vs' : List Value} (h : OV lo hi w e size a n c vs) (h' : OV lo' hi' w e' size' a' n' c' vs') (hne : e' ≠ e) {p q : Addr} (hp : a = some p) (hq : a' = some q) : q.block ≠ p.block := fun he => by
  obtain ⟨_, cs, hc⟩ := h.blockAt hp
  obtain ⟨_, cs', hc'⟩ := h'.blockAt hq
  rw [he, hc] at hc'
  simp only [Option.some.injEq, Obj.cells.injEq] at hc'
  exact hne hc'.2.1.symm
theorem OV.grown {w w' : World} {lo hi e size n c : Nat} {a : Option Addr} {vs : List Value} {row : Option Nat} (h : OV lo hi w e size a n c vs) (hg : w.grownBy w' row) (hne : ∀ p, a = some p → some p.block ≠ row) : OV lo hi w' e size a n c vs := by
  refine ⟨?_, h.2⟩
  obtain ⟨h1, h2 | ⟨g, cap, cur, hv, hq, hc, r⟩⟩ := h.1
  · exact ⟨h1, .inl h2⟩
  · have ha : a = some ⟨g, 0, none⟩ := by simp only [Value.slice.injEq] at hv; exact hv.1
    exact ⟨h1, .inr ⟨g, cap, cur, hv, hq, blk_far hc hg (hne _ ha), r⟩⟩
/-- the parts of a deck of the call's own -/
def ODh (hs : List (Option Addr × Nat)) (lo hi : Nat) (w : World) (e e' : Nat) (a : Option Addr) (c : Nat) (xss : List (List Int)) : Prop :=
  hs.length = xss.length ∧ OV lo hi w e 1 a xss.length c (headsV hs xss) ∧
    (∀ (k : Nat) (h : Option Addr × Nat) (xs : List Int), hs[k]? = some h → xss[k]? = some xs → OI lo hi w e' h.1 h.2 xs) ∧
    (∀ (i j : Nat) (h k : Option Addr × Nat) (p q : Addr), i < j → hs[i]? = some h → hs[j]? = some k → h.1 = some p → k.1 = some q → p.block < q.block)
theorem ODh.od {hs : List (Option Addr × Nat)} {lo hi : Nat} {w : World} {e e' c : Nat} {a : Option Addr} {xss : List (List Int)} (h : ODh hs lo hi w e e' a c xss) : OD lo hi w e e' a c xss := ⟨hs, h⟩
theorem OD.parts {lo hi : Nat} {w : World} {e e' c : Nat} {a : Option Addr} {xss : List (List Int)} (h : OD lo hi w e e' a c xss) : ∃ hs, ODh hs lo hi w e e' a c xss := h
theorem OD.nil (lo : Nat) (w : World) (e e' : Nat) {a : Option Addr} {c : Nat} (h : w.ownsRow lo e 1 (.slice a 0 c) 0 []) : OD lo w.heap.size w e e' a c [] :=
  ⟨[], rfl, OV.of h, fun k p xs e1 e2 => by simp at e1, fun i j p q u v _ e1 => by simp at e1⟩
theorem ODh.kept {hs : List (Option Addr × Nat)} {w w' : World} {lo hi e e' c : Nat} {a : Option Addr} {xss : List (List Int)} (h : ODh hs lo hi w e e' a c xss) (hb : Below w.heap.size w w') : ODh hs lo hi w' e e' a c xss := by
  obtain ⟨h1, h2, h3, h4⟩ := h
  exact ⟨h1, h2.kept hb, fun k p xs e1 e2 => (h3 k p xs e1 e2).kept hb, h4⟩
/-- a card of the call's own is appended -/
theorem ODh.push {hs : List (Option Addr × Nat)} {lo M : Nat} {w w3 : World} {e e' c c' c3 : Nat} {a a' a3 : Option Addr} {xss : List (List Int)} {x : List Int} (hne : e' ≠ e) (h : ODh hs lo M w e e' a c xss) (hlM : lo ≤ M) (hMw : M ≤ w.heap.size)
    (ho : w.ownsRow M e' 1 (.slice a' x.length c') x.length (x.map (Value.int .i64))) (hg : w.grownBy w3 (Value.slice a xss.length c).ownBlock)
    (h5 : w3.ownsRow lo e 1 (.slice a3 (xss.length + 1) c3) (xss.length + 1) (headsV hs xss ++ [.slice a' x.length c'])) : OD lo w3.heap.size w3 e e' a3 c3 (xss ++ [x]) := by
  obtain ⟨h1, h2, h3, h4⟩ := h
  have hsz : w.heap.size ≤ w3.heap.size := hg.size
  have far : ∀ {lo' hi' n' d : Nat} {b : Option Addr} {vs : List Value}, OV lo' hi' w e' 1 b n' d vs → OV lo' hi' w3 e' 1 b n' d vs := by
    intro lo' hi' n' d b vs hv
    refine hv.grown hg fun p hp => ?_
    cases a with
    | none => simp [Value.ownBlock]
    | some q =>
      have := h2.apart hv hne rfl hp
      simp only [Value.ownBlock, ne_eq, Option.some.injEq]
      exact this
  refine ⟨hs ++ [(a', c')], by simp [h1], ?_, ?_, ?_⟩
  · rw [headsV_snoc h1, List.length_append]; exact OV.of h5
  · intro k p xs e1 e2
    rcases Nat.lt_trichotomy k xss.length with hk | hk | hk
    · rw [List.getElem?_append_left (by omega)] at e1
      rw [List.getElem?_append_left hk] at e2
      exact OV.wider (far (h3 k p xs e1 e2)) (Nat.le_refl _) (by omega)
    · subst hk
      rw [List.getElem?_append_right (by omega), h1, Nat.sub_self] at e1
      rw [List.getElem?_append_right (Nat.le_refl _), Nat.sub_self] at e2
      simp only [List.getElem?_cons_zero, Option.some.injEq] at e1 e2
      subst e1 e2
      exact OV.wider (far (OV.of ho)) hlM hsz
    · rw [List.getElem?_eq_none (by simp; omega)] at e2; cases e2
  · intro i j p q u v hij e1 e2 hu hv
    by_cases hj : j < xss.length
    · rw [List.getElem?_append_left (by omega)] at e1 e2
      exact h4 i j p q u v hij e1 e2 hu hv
    · have hj' : j = xss.length := by
        have := (List.getElem?_eq_some_iff.1 e2).1
        simp at this; omega
      subst hj'
      rw [List.getElem?_append_left (by omega)] at e1
      rw [List.getElem?_append_right (by omega), h1, Nat.sub_self] at e2
      simp only [List.getElem?_cons_zero, Option.some.injEq] at e2
      subst e2
      obtain ⟨xs, hxs⟩ := get_some (l := xss) (k := i) (by omega)
      have := (h3 i p xs e1 hxs).2 u hu
      have h7 := own_at ho hv
      omega
theorem ODh.pushn {hs : List (Option Addr × Nat)} {lo M n : Nat} {w w3 : World} {e e' c c' c3 : Nat} {a a' a3 : Option Addr} {xss : List (List Int)} {x : List Int} (hne : e' ≠ e) (h : ODh hs lo M w e e' a c xss) (hlM : lo ≤ M) (hMw : M ≤ w.heap.size) (hx : x.length = n)
    (ho : w.ownsRow M e' 1 (.slice a' n c') n (x.map (Value.int .i64))) (hg : w.grownBy w3 (Value.slice a xss.length c).ownBlock)
    (h5 : w3.ownsRow lo e 1 (.slice a3 (xss.length + 1) c3) (xss.length + 1) (headsV hs xss ++ [.slice a' n c'])) : OD lo w3.heap.size w3 e e' a3 c3 (xss ++ [x]) := by
  subst hx; exact h.push hne hlM hMw ho hg h5
theorem ODh.pushN {hs : List (Option Addr × Nat)} {lo M n N : Nat} {w w3 : World} {e e' c c' c3 : Nat} {a a' a3 : Option Addr} {xss : List (List Int)} {x : List Int} (hne : e' ≠ e) (h : ODh hs lo M w e e' a c xss) (hlM : lo ≤ M) (hMw : M ≤ w.heap.size) (hx : x.length = n) (hN : xss.length = N)
    (ho : w.ownsRow M e' 1 (.slice a' n c') n (x.map (Value.int .i64))) (hg : w.grownBy w3 (Value.slice a N c).ownBlock)
    (h5 : w3.ownsRow lo e 1 (.slice a3 (N + 1) c3) (N + 1) (headsV hs xss ++ [.slice a' n c'])) : OD lo w3.heap.size w3 e e' a3 c3 (xss ++ [x]) := by
  subst hx; subst hN; exact h.push hne hlM hMw ho hg h5
theorem ODh.row {hs : List (Option Addr × Nat)} {lo hi N : Nat} {w : World} {e e' c : Nat} {a : Option Addr} {xss : List (List Int)} (h : ODh hs lo hi w e e' a c xss) (hN : xss.length = N) : w.ownsRow lo e 1 (.slice a N c) N (headsV hs xss) := by
  subst hN; exact h.2.1.1
theorem ne_moved {a a6 : Option Addr} {k k6 c c6 B W : Nat} (hat : (Value.slice a6 k6 c6).ownBlock = (Value.slice a k c).ownBlock ∨ (Value.slice a6 k6 c6).ownBlock = some W) (hne : ∀ q, a = some q → ¬ q.block = B) (hW : ¬ W = B) : ∀ q, a6 = some q → ¬ q.block = B := by
  rintro q rfl rfl
  rcases hat with h | h
  · exact own_ne hne h
  · simp only [Value.ownBlock, Option.some.injEq] at h; exact hW h.symm
/-- the deck behind marks: card by card -/
def marksD : Int → List (List Int) → List (List Int)
  | _, [] => []
  | k, x :: r => marksL k x.length :: marksD (k + (x.length : Int)) r
theorem marksD_length : ∀ (k : Int) (xss : List (List Int)), (marksD k xss).length = xss.length
  | _, [] => rfl
  | k, x :: r => by simp [marksD, marksD_length]
theorem marksD_at : ∀ (k : Int) (xss : List (List Int)) (j : Nat) (x : List Int), xss[j]? = some x → (marksD k xss)[j]? = some (marksL (k + (lensUp xss j : Int)) x.length)
  | _, [], j, x, h => by simp at h
  | k, y :: r, 0, x, h => by simp only [List.getElem?_cons_zero, Option.some.injEq] at h; subst h; simp [marksD, lensUp]
  | k, y :: r, j + 1, x, h => by
    simp only [List.getElem?_cons_succ] at h
    simp only [marksD, List.getElem?_cons_succ]
    rw [marksD_at _ r j x h]
    congr 2
    simp [lensUp]; omega
theorem headsV_lens {hs : List (Option Addr × Nat)} : ∀ {xss yss : List (List Int)}, xss.map List.length = yss.map List.length → headsV hs xss = headsV hs yss := by
  induction hs with
  | nil => intro xss yss _; simp [headsV]
  | cons h r ih =>
    intro xss yss he
    cases xss with
    | nil => cases yss with
      | nil => rfl
      | cons y s => simp at he
    | cons x q => cases yss with
      | nil => simp at he
      | cons y s =>
        simp only [List.map_cons, List.cons.injEq] at he
        have := ih he.2
        simp only [headsV, List.zipWith_cons_cons] at *
        rw [he.1, this]
/-- the deck with its first j cards marked -/
def markedD (k : Int) (xss : List (List Int)) (j : Nat) : List (List Int) := (marksD k xss).take j ++ xss.drop j
theorem markedD_zero (k : Int) (xss : List (List Int)) : markedD k xss 0 = xss := by simp [markedD]
theorem markedD_all {k : Int} {xss : List (List Int)} {j : Nat} (h : xss.length ≤ j) : markedD k xss j = marksD k xss := by
  unfold markedD; rw [List.drop_of_length_le h, List.take_of_length_le (by rw [marksD_length]; exact h), List.append_nil]
theorem markedD_len {k : Int} {xss : List (List Int)} {j : Nat} (h : j ≤ xss.length) : (markedD k xss j).length = xss.length := by
  unfold markedD; simp [marksD_length]; omega
theorem markedD_set {k : Int} {xss : List (List Int)} {j : Nat} {x : List Int} (h : xss[j]? = some x) : (markedD k xss j).set j (marksL (k + (lensUp xss j : Int)) x.length) = markedD k xss (j + 1) := by
  obtain ⟨hj, hv⟩ := List.getElem?_eq_some_iff.1 h
  have hl : ((marksD k xss).take j).length = j := by rw [List.length_take, marksD_length]; omega
  unfold markedD
  rw [List.set_append_right _ _ (by omega), hl, Nat.sub_self, List.take_add_one, marksD_at k xss j x h, List.drop_eq_getElem_cons hj, List.set_cons_zero]
  simp
theorem markedD_at {k : Int} {xss : List (List Int)} {j : Nat} {x : List Int} (h : xss[j]? = some x) : (markedD k xss j)[j]? = some x := by
  obtain ⟨hj, hv⟩ := List.getElem?_eq_some_iff.1 h
  have hl : ((marksD k xss).take j).length = j := by rw [List.length_take, marksD_length]; omega
  unfold markedD
  rw [List.getElem?_append_right (by omega), hl, Nat.sub_self, List.getElem?_drop, Nat.add_zero, h]
theorem marksD_sum : ∀ (k : Int) (xss : List (List Int)), deckSz (marksD k xss) = deckSz xss := by
  intro k xss
  have h : ∀ (k : Int) (xss : List (List Int)), ((marksD k xss).map List.length) = xss.map List.length := by
    intro k xss
    induction xss generalizing k with
    | nil => rfl
    | cons x r ih => simp [marksD, ih, marksL_length]
  unfold deckSz; rw [marksD_length, h]
/-- one card of the deck is written, within its own block -/
theorem ODh.put {hs : List (Option Addr × Nat)} {lo hi : Nat} {w w' : World} {e e' c j : Nat} {a : Option Addr} {xss : List (List Int)} {x y : List Int} {p : Option Addr × Nat} (hne : e' ≠ e) (h : ODh hs lo hi w e e' a c xss) (hj : xss[j]? = some x) (hp : hs[j]? = some p) (hl : y.length = x.length)
    {L H : Nat} (hw : Within L H w w') (hL : ∀ q, p.1 = some q → L = q.block ∧ H = q.block + 1) (hN : p.1 = none → L = 0 ∧ H = 0) (ho : OI lo hi w' e' p.1 p.2 y) : ODh hs lo hi w' e e' a c (xss.set j y) := by
  obtain ⟨h1, h2, h3, h4⟩ := h
  have hx := h3 j p x hp hj
  have out : ∀ (q : Addr), (∀ u, p.1 = some u → q.block ≠ u.block) → q.block < L ∨ H ≤ q.block := by
    intro q hq
    cases hpp : p.1 with
    | none => obtain ⟨rfl, rfl⟩ := hN hpp; exact .inr (Nat.zero_le _)
    | some u => obtain ⟨rfl, rfl⟩ := hL u hpp; have := hq u hpp; omega
  have keepV : ∀ {lo' hi' e0 n' d : Nat} {b : Option Addr} {vs : List Value}, OV lo' hi' w e0 1 b n' d vs → (∀ q, b = some q → q.block < L ∨ H ≤ q.block) → OV lo' hi' w' e0 1 b n' d vs := by
    intro lo' hi' e0 n' d b vs hv hq
    refine ⟨?_, hv.2⟩
    obtain ⟨g1, g2 | ⟨g, cap, cur, hvv, hqq, hc, r⟩⟩ := hv.1
    · exact ⟨g1, .inl g2⟩
    · have hb : b = some ⟨g, 0, none⟩ := by simp only [Value.slice.injEq] at hvv; exact hvv.1
      refine ⟨g1, .inr ⟨g, cap, cur, hvv, hqq, ?_, r⟩⟩
      have hlt : g < w.heap.size := by
        rcases Nat.lt_or_ge g w.heap.size with hh | hh
        · exact hh
        · rw [Array.getElem?_eq_none hh] at hc; cases hc
      have := hq _ hb
      exact (hw.block g hlt (fun e => by simp only at this; omega)).trans hc
  have hmap : (xss.set j y).map List.length = xss.map List.length := by
    apply List.ext_getElem?
    intro i
    rw [List.getElem?_map, List.getElem?_map, List.getElem?_set]
    by_cases hij : j = i
    · subst hij
      rw [if_pos rfl]
      have := (List.getElem?_eq_some_iff.1 hj).1
      rw [if_pos this, hj]; simp [hl]
    · rw [if_neg hij]
  refine ⟨by simp [h1], ?_, ?_, h4⟩
  · rw [headsV_lens hmap, List.length_set]
    refine keepV h2 fun q hq => out q fun u hu => ?_
    exact (h2.apart hx hne hq hu).symm
  · intro i q xs e1 e2
    rw [List.getElem?_set] at e2
    by_cases hij : j = i
    · subst hij
      rw [hp] at e1
      simp only [Option.some.injEq] at e1
      subst e1
      have := (List.getElem?_eq_some_iff.1 hj).1
      rw [if_pos rfl, if_pos this] at e2
      simp only [Option.some.injEq] at e2
      subst e2
      exact ho
    · rw [if_neg hij] at e2
      refine keepV (h3 i q xs e1 e2) fun u hu => out u fun v hv => ?_
      rcases Nat.lt_or_gt_of_ne hij with hlt | hgt
      · have := h4 j i p q v u hlt hp e1 hv hu; omega
      · have := h4 i j q p u v hgt e1 hp hu hv; omega
end Go.Proofs.YtcbjfgjlhjjpiaaDoor
