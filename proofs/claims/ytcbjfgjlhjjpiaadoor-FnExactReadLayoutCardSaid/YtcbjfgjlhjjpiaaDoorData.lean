/- Rows of texts, of bytes and of items, and decks: what slices of them hold, and which of them a call has made itself. No program in sight. -/
import Derived.Test.YtcbjfgjlhjjpiaaDoorMem
namespace Go.Proofs.YtcbjfgjlhjjpiaaDoor
open Go.RowKit
set_option linter.unusedVariables false
set_option linter.unusedSimpArgs false
set_option linter.unnecessarySimpa false

/-! ### rows of one-cell things, by a function into values -/
/-- the cells from an address on hold these texts -/
def RS (w : World) (a : Option Addr) (ss : List ByteArray) : Prop := Row w a (ss.map Value.string)
theorem RS.kept {w w' : World} {a : Option Addr} {ss : List ByteArray} (h : RS w a ss) (hb : Below w.heap.size w w') : RS w' a ss := Row.kept h hb
theorem RS.kept0 {w w' : World} {a : Option Addr} {ss : List ByteArray} (h : RS w a ss) (hb : Below w.heap.size w w') : RS w' a ss := Row.kept h hb
theorem RS.nil (w : World) (a : Option Addr) : RS w a [] := Row.nil w a
theorem RS.at {w : World} {a : Option Addr} {ss : List ByteArray} (h : RS w a ss) {j : Nat} {s : ByteArray} (hj : ss[j]? = some s) :
    ∃ b off, a = some ⟨b, off, none⟩ ∧ w.cell? ⟨b, off + j, none⟩ = some (.string s) := h j _ (by rw [List.getElem?_map, hj]; rfl)
/-- a row of texts of the call's own -/
def OS (lo hi : Nat) (w : World) (e : Nat) (a : Option Addr) (c : Nat) (ss : List ByteArray) : Prop := OV lo hi w e 1 a ss.length c (ss.map Value.string)
theorem OS.of {w' : World} {lo e c : Nat} {a : Option Addr} {ss : List ByteArray} (h : w'.ownsRow lo e 1 (.slice a ss.length c) ss.length (ss.map Value.string)) : OS lo w'.heap.size w' e a c ss := OV.of h
theorem OS.RS {w : World} {lo hi e c : Nat} {a : Option Addr} {ss : List ByteArray} (h : OS lo hi w e a c ss) : RS w a ss := OV.row h
theorem OS.kept {w w' : World} {lo hi e c : Nat} {a : Option Addr} {ss : List ByteArray} (h : OS lo hi w e a c ss) (hb : Below w.heap.size w w') : OS lo hi w' e a c ss := OV.kept h hb
theorem OS.within {w w' : World} {lo hi lo' hi' e c : Nat} {a : Option Addr} {ss : List ByteArray} (h : OS lo hi w e a c ss) (hw : Within lo' hi' w w') (hd : hi ≤ lo' ∨ hi' ≤ lo) : OS lo hi w' e a c ss := OV.within h hw hd
/-- the cells from an address on hold these bytes -/
def byteV (b : UInt8) : Value := .int .u8 b.toNat
def RB (w : World) (a : Option Addr) (bs : List UInt8) : Prop := Row w a (bs.map byteV)
theorem RB.kept {w w' : World} {a : Option Addr} {ss : List UInt8} (h : RB w a ss) (hb : Below w.heap.size w w') : RB w' a ss := Row.kept h hb
theorem RB.at {w : World} {a : Option Addr} {ss : List UInt8} (h : RB w a ss) {j : Nat} {s : UInt8} (hj : ss[j]? = some s) :
    ∃ b off, a = some ⟨b, off, none⟩ ∧ w.cell? ⟨b, off + j, none⟩ = some (.int .u8 s.toNat) := h j _ (by rw [List.getElem?_map, hj]; rfl)
theorem bytes_one (xs : List UInt8) : ∀ u ∈ xs.map byteV, u.oneCell' = true := by
  intro u hu; obtain ⟨_, _, rfl⟩ := List.mem_map.1 hu; rfl
theorem texts_one (xs : List ByteArray) : ∀ u ∈ xs.map Value.string, u.oneCell' = true := by
  intro u hu; obtain ⟨_, _, rfl⟩ := List.mem_map.1 hu; rfl
/-- 'string(b)' where the cells hold the bytes l -/
theorem run_text {P : Program} (w : World) (src dst e : TypeId) (a : Option Addr) (cap : Nat) (l : List UInt8) (hs : P.underlying src = some (.slice e)) (he : P.underlying e = some (.int .u8)) (hd : P.underlying dst = some .string)
    (ha : a ≠ none) (hr : RB w a l) : (convert src dst (.slice a l.length cap)).run P w = .ok (.string ⟨l.toArray⟩) w := by
  cases a with
  | none => exact absurd rfl ha
  | some ad =>
    refine run_convert_bytes_back w src dst e ad cap l hs he hd ?_
    intro j hj
    exact Row.add hr j _ (by rw [List.getElem?_map, List.getElem?_eq_getElem hj]; rfl)
/-- a row of the call's own, in the middle of being filled by append -/
theorem own_form {w : World} {B e size n : Nat} {v : Value} {xs : List Value} (h : w.ownsRow B e size v n xs) : ∃ a c, v = .slice a n c ∧ Row w a xs ∧ n ≤ c ∧ c ≤ maxLen := own_slice h

theorem news_one (w : World) (v : Value) (t : Nat) : ∀ j u, [v][j]? = some u → (w.alloc (.cells #[v] t)).cell? ((⟨w.heap.size, 0, none⟩ : Addr).add j) = some u := by
  intro j u h
  match j with
  | 0 =>
    simp only [List.getElem?_cons_zero, Option.some.injEq] at h
    subst h
    simp [go_sem, Addr.add]
  | j + 1 => simp at h
theorem one_one {v : Value} (h : v.oneCell' = true) : ∀ u ∈ [v], u.oneCell' = true := by
  intro u hu; simp only [List.mem_singleton] at hu; subst hu; exact h
/-- memory behind an append of one element to a row of the call's own -/
theorem app_below {w0 w w1 : World} {B base e size n : Nat} {v : Value} {xs : List Value} {o : Obj} (hb : Below B w0 w) (hB : B ≤ w.heap.size) (h : w.ownsRow base e size v n xs) (hbb : B ≤ base) (hg : (w.alloc o).grownBy w1 v.ownBlock) : Below B w0 w1 :=
  (hb.alloc hB o).grown hg (by simp; omega) (fun k hk => Nat.le_trans hbb (h.lt k hk).1)
theorem own_some {w : World} {B e size n c : Nat} {a : Option Addr} {vs : List Value} (h : w.ownsRow B e size (.slice a n c) n vs) (hn : 0 < n) : a ≠ none := by
  obtain ⟨_, ⟨h2, h3⟩ | ⟨g, cap, cur, hv, _⟩⟩ := h
  · omega
  · simp only [Value.slice.injEq] at hv
    rw [hv.1]; simp
theorem below_keep {w0 w w' : World} (hb : Below w0.heap.size w0 w) (h : Below w.heap.size w w') : Below w0.heap.size w0 w' := bthen hb h

/-! ### decks -/
/-- the headers of the columns of cards -/
def headsV (hs : List (Option Addr × Nat)) (xss : List (List Int)) : List Value := List.zipWith (fun h xs => .slice h.1 xs.length h.2) hs xss
theorem headsV_length {hs : List (Option Addr × Nat)} {xss : List (List Int)} (h : hs.length = xss.length) : (headsV hs xss).length = xss.length := by simp [headsV, h]
theorem headsV_at {hs : List (Option Addr × Nat)} {xss : List (List Int)} {k : Nat} {h : Option Addr × Nat} {xs : List Int} (h1 : hs[k]? = some h) (h2 : xss[k]? = some xs) : (headsV hs xss)[k]? = some (.slice h.1 xs.length h.2) := by
  simp [headsV, List.getElem?_zipWith, h1, h2]
/-- the cells from an address on hold the cards of a deck -/
def RD (w : World) (a : Option Addr) (xss : List (List Int)) : Prop :=
  ∃ hs : List (Option Addr × Nat), hs.length = xss.length ∧ Row w a (headsV hs xss) ∧ ∀ (k : Nat) (h : Option Addr × Nat) (xs : List Int), hs[k]? = some h → xss[k]? = some xs → RI w h.1 xs ∧ xs.length ≤ h.2 ∧ h.2 ≤ maxLen
theorem RD.kept {w w' : World} {a : Option Addr} {xss : List (List Int)} (h : RD w a xss) (hb : Below w.heap.size w w') : RD w' a xss := by
  obtain ⟨hs, h1, h2, h3⟩ := h
  exact ⟨hs, h1, h2.kept hb, fun k p xs e1 e2 => ⟨(h3 k p xs e1 e2).1.kept hb, (h3 k p xs e1 e2).2⟩⟩
theorem RD.kept0 {w w' : World} {a : Option Addr} {xss : List (List Int)} (h : RD w a xss) (hb : Below w.heap.size w w') : RD w' a xss := h.kept hb
theorem RD.nil (w : World) (a : Option Addr) : RD w a [] := ⟨[], rfl, by simpa [headsV] using Row.nil w a, fun k p xs e1 e2 => by simp at e1⟩
/-- the card at a place -/
theorem RD.at {w : World} {a : Option Addr} {xss : List (List Int)} (h : RD w a xss) {k : Nat} {xs : List Int} (hk : xss[k]? = some xs) :
    ∃ b off a' c', a = some ⟨b, off, none⟩ ∧ w.cell? ⟨b, off + k, none⟩ = some (.slice a' xs.length c') ∧ RI w a' xs ∧ xs.length ≤ c' ∧ c' ≤ maxLen := by
  obtain ⟨hs, h1, h2, h3⟩ := h
  have hlt : k < xss.length := (List.getElem?_eq_some_iff.1 hk).1
  obtain ⟨p, hp⟩ := get_some (l := hs) (k := k) (by omega)
  obtain ⟨b, off, ha, hc⟩ := h2 k _ (headsV_at hp hk)
  exact ⟨b, off, p.1, p.2, ha, hc, (h3 k p xs hp hk).1, (h3 k p xs hp hk).2⟩
theorem RD.off {w : World} {b off : Nat} {xss : List (List Int)} (h : RD w (some ⟨b, off, none⟩) xss) {k : Nat} {xs : List Int} (hk : xss[k]? = some xs) :
    ∃ a' c', w.cell? ⟨b, off + k, none⟩ = some (.slice a' xs.length c') ∧ RI w a' xs ∧ xs.length ≤ c' ∧ c' ≤ maxLen := by
  obtain ⟨b', off', a', c', ha, hc⟩ := h.at hk
  simp only [Option.some.injEq, Addr.mk.injEq] at ha
  obtain ⟨rfl, rfl, _⟩ := ha
  exact ⟨a', c', hc⟩
/-- a deck of the call's own: a row of cards, and for each card a row of its own, all in blocks of their own -/
def OD (lo hi : Nat) (w : World) (e e' : Nat) (a : Option Addr) (c : Nat) (xss : List (List Int)) : Prop :=
  ∃ hs : List (Option Addr × Nat), hs.length = xss.length ∧ OV lo hi w e 1 a xss.length c (headsV hs xss) ∧
    (∀ (k : Nat) (h : Option Addr × Nat) (xs : List Int), hs[k]? = some h → xss[k]? = some xs → OI lo hi w e' h.1 h.2 xs) ∧
    (∀ (i j : Nat) (h k : Option Addr × Nat) (p q : Addr), i < j → hs[i]? = some h → hs[j]? = some k → h.1 = some p → k.1 = some q → p.block < q.block)
theorem OI.cap0 {lo hi e c : Nat} {w : World} {a : Option Addr} {xs : List Int} (h : OI lo hi w e a c xs) : xs.length ≤ c := by
  obtain ⟨a', c', hv, _, hc, _⟩ := own_slice h.1
  simp only [Value.slice.injEq] at hv
  omega
theorem OI.capm {lo hi e c : Nat} {w : World} {a : Option Addr} {xs : List Int} (h : OI lo hi w e a c xs) : xs.length ≤ c ∧ c ≤ maxLen := by
  obtain ⟨a', c', hv, _, hc, hm⟩ := own_slice h.1
  simp only [Value.slice.injEq] at hv
  obtain ⟨_, _, rfl⟩ := hv
  exact ⟨hc, hm⟩
theorem OD.RD {w : World} {lo hi e e' c : Nat} {a : Option Addr} {xss : List (List Int)} (h : OD lo hi w e e' a c xss) : RD w a xss := by
  obtain ⟨hs, h1, h2, h3, _⟩ := h
  exact ⟨hs, h1, h2.row, fun k p xs e1 e2 => ⟨(h3 k p xs e1 e2).RI, (h3 k p xs e1 e2).capm⟩⟩
theorem OD.within {w w' : World} {lo hi lo' hi' e e' c : Nat} {a : Option Addr} {xss : List (List Int)} (h : OD lo hi w e e' a c xss) (hw : Within lo' hi' w w') (hd : hi ≤ lo' ∨ hi' ≤ lo) : OD lo hi w' e e' a c xss := by
  obtain ⟨hs, h1, h2, h3, h4⟩ := h
  exact ⟨hs, h1, h2.within hw hd, fun k p xs e1 e2 => (h3 k p xs e1 e2).within hw hd, h4⟩
theorem OD.kept {w w' : World} {lo hi e e' c : Nat} {a : Option Addr} {xss : List (List Int)} (h : OD lo hi w e e' a c xss) (hb : Below w.heap.size w w') : OD lo hi w' e e' a c xss :=
  h.within (Within.of_below (lo := hi) (hi := hi) hb) (Or.inl (Nat.le_refl _))
theorem OI.wider {w : World} {lo hi lo' hi' e c : Nat} {a : Option Addr} {xs : List Int} (h : OI lo hi w e a c xs) (h1 : lo' ≤ lo) (h2 : hi ≤ hi') : OI lo' hi' w e a c xs := OV.wider h h1 h2
theorem OD.wider {w : World} {lo hi lo' hi' e e' c : Nat} {a : Option Addr} {xss : List (List Int)} (h : OD lo hi w e e' a c xss) (h1 : lo' ≤ lo) (h2 : hi ≤ hi') : OD lo' hi' w e e' a c xss := by
  obtain ⟨hs, g1, g2, g3, g4⟩ := h
  exact ⟨hs, g1, g2.wider h1 h2, fun k p xs e1 e2 => (g3 k p xs e1 e2).wider h1 h2, g4⟩
/-- a store into a block of other elements leaves a row of the call's own as it was -/
theorem OV.far {w : World} {lo hi e size n c g t : Nat} {a : Option Addr} {vs : List Value} {cs : Array Value} {m : Nat × Nat} (h : OV lo hi w e size a n c vs) (hg : w.heap[g]? = some (.cells cs t m)) (hne : e ≠ t) (j : Nat) (u : Value) : OV lo hi (w.setCell ⟨g, j, none⟩ u) e size a n c vs := by
  refine ⟨?_, h.2⟩
  obtain ⟨h1, h2 | ⟨q, cap, cur, hv, hq, hc, r⟩⟩ := h.1
  · exact ⟨h1, .inl h2⟩
  · refine ⟨h1, .inr ⟨q, cap, cur, hv, hq, ?_, r⟩⟩
    have hqg : q ≠ g := fun e0 => by
      subst e0; rw [hg] at hc
      simp only [Option.some.injEq, Obj.cells.injEq] at hc
      exact hne hc.2.1.symm
    rw [Below.heap_setCell _ _ _ _ (by simpa using hqg)]; exact hc
theorem OV.block {w : World} {lo hi e size n c g : Nat} {vs : List Value} (h : OV lo hi w e size (some ⟨g, 0, none⟩) n c vs) : ∃ cs, w.heap[g]? = some (.cells cs e (0, 0)) := by
  obtain ⟨_, ⟨h2, _⟩ | ⟨q, cap, cur, hv, hq, hc, r⟩⟩ := h.1
  · cases h2
  · simp only [Value.slice.injEq, Option.some.injEq, Addr.mk.injEq, and_true] at hv
    obtain ⟨rfl, _⟩ := hv
    exact ⟨_, hc⟩
/-- a deck of the call's own, behind whose cards m cells wait that hold none yet -/
def ODz (lo hi : Nat) (w : World) (e e' : Nat) (a : Option Addr) (c : Nat) (xss : List (List Int)) (m : Nat) : Prop :=
  ∃ hs : List (Option Addr × Nat), hs.length = xss.length ∧ OV lo hi w e 1 a (xss.length + m) c (headsV hs xss ++ List.replicate m (.slice none 0 0)) ∧
    (∀ (k : Nat) (h : Option Addr × Nat) (xs : List Int), hs[k]? = some h → xss[k]? = some xs → OI lo hi w e' h.1 h.2 xs) ∧
    (∀ (i j : Nat) (h k : Option Addr × Nat) (p q : Addr), i < j → hs[i]? = some h → hs[j]? = some k → h.1 = some p → k.1 = some q → p.block < q.block)
theorem ODz.all {lo hi : Nat} {w : World} {e e' c : Nat} {a : Option Addr} {xss : List (List Int)} (h : ODz lo hi w e e' a c xss 0) : OD lo hi w e e' a c xss := by
  obtain ⟨hs, h1, h2, h3, h4⟩ := h
  exact ⟨hs, h1, by simpa using h2, h3, h4⟩
theorem headsV_snoc {hs : List (Option Addr × Nat)} {xss : List (List Int)} (h : hs.length = xss.length) (p : Option Addr × Nat) (x : List Int) : headsV (hs ++ [p]) (xss ++ [x]) = headsV hs xss ++ [.slice p.1 x.length p.2] := by
  unfold headsV; rw [List.zipWith_append h]; rfl
/-- the next card is laid into its cell -/
theorem ODz.put {lo : Nat} {w w1 : World} {e e' g c c' m : Nat} {a' : Option Addr} {xss : List (List Int)} {x : List Int} (hne : e' ≠ e) (h : ODz lo w.heap.size w e e' (some ⟨g, 0, none⟩) c xss (m + 1)) (hb : Below w.heap.size w w1)
    (hl : lo ≤ w.heap.size) (ho : w1.ownsRow w.heap.size e' 1 (.slice a' x.length c') x.length (x.map (Value.int .i64))) :
    ODz lo (w1.setCell ⟨g, xss.length, none⟩ (.slice a' x.length c')).heap.size (w1.setCell ⟨g, xss.length, none⟩ (.slice a' x.length c')) e e' (some ⟨g, 0, none⟩) c (xss ++ [x]) m := by
  obtain ⟨hs, h1, h2, h3, h4⟩ := h
  have hsz : (w1.setCell ⟨g, xss.length, none⟩ (.slice a' x.length c')).heap.size = w1.heap.size := by simp [World.setCell]
  have h2' := h2.kept hb
  obtain ⟨cs, hcs⟩ := h2'.block
  rw [hsz]
  refine ⟨hs ++ [(a', c')], by simp [h1], ?_, ?_, ?_⟩
  · have h5 := ((h2'.wider (Nat.le_refl lo) hb.size).store xss.length (.slice a' x.length c'))
    rw [headsV_snoc h1, List.length_append, List.length_singleton, Nat.add_assoc, Nat.add_comm 1 m]
    rw [List.set_append_right _ _ (by rw [headsV_length h1]; exact Nat.le_refl _), headsV_length h1, Nat.sub_self, List.replicate_succ, List.set_cons_zero] at h5
    simpa [List.append_assoc] using h5
  · intro k p xs e1 e2
    rcases Nat.lt_trichotomy k xss.length with hk | hk | hk
    · rw [List.getElem?_append_left (by omega)] at e1
      rw [List.getElem?_append_left hk] at e2
      exact OV.far (((h3 k p xs e1 e2).kept hb).wider (Nat.le_refl _) hb.size) hcs hne _ _
    · subst hk
      rw [List.getElem?_append_right (by omega), h1, Nat.sub_self] at e1
      rw [List.getElem?_append_right (Nat.le_refl _), Nat.sub_self] at e2
      simp only [List.getElem?_cons_zero, Option.some.injEq] at e1 e2
      subst e1 e2
      exact OV.far ((OI.of ho).wider hl (Nat.le_refl _)) hcs hne _ _
    · rw [List.getElem?_eq_none (by simp; omega)] at e2; cases e2
  · intro i j p q u v hij e1 e2 hu hv
    by_cases hj : j < xss.length
    · rw [List.getElem?_append_left (by omega)] at e1 e2
      exact h4 i j p q u v hij e1 e2 hu hv
    · have hj' : j = xss.length := by
        have := (List.getElem?_eq_some_iff.1 e2).1
        simp at this; omega
      subst hj'
      rw [List.getElem?_append_left (by omega)] at e1
      rw [List.getElem?_append_right (by omega), h1, Nat.sub_self] at e2
      simp only [List.getElem?_cons_zero, Option.some.injEq] at e2
      subst e2
      obtain ⟨xs, hxs⟩ := get_some (l := xss) (k := i) (by omega)
      have := (h3 i p xs e1 hxs).2 u hu
      have h7 := own_at ho hv
      omega
theorem ODz.kept {w w' : World} {lo hi e e' c m : Nat} {a : Option Addr} {xss : List (List Int)} (h : ODz lo hi w e e' a c xss m) (hb : Below w.heap.size w w') : ODz lo hi w' e e' a c xss m := by
  obtain ⟨hs, h1, h2, h3, h4⟩ := h
  exact ⟨hs, h1, h2.kept hb, fun k p xs e1 e2 => (h3 k p xs e1 e2).kept hb, h4⟩

theorem ODz.next {lo hi : Nat} {w : World} {e e' g c m : Nat} {xss : List (List Int)} (h : ODz lo hi w e e' (some ⟨g, 0, none⟩) c xss (m + 1)) : w.cell? ⟨g, xss.length, none⟩ = some (.slice none 0 0) ∧ w.frozen? ⟨g, xss.length, none⟩ = false := by
  obtain ⟨hs, h1, h2, h3, h4⟩ := h
  refine ⟨?_, h2.1.frozenAt _⟩
  rw [h2.1.cellAt _ (by omega), List.getElem?_append_right (by rw [headsV_length h1]; exact Nat.le_refl _), headsV_length h1, Nat.sub_self]
  rfl
/-- how many cells a deck has: one for each card, and one for each column -/
def deckSz (xss : List (List Int)) : Nat := xss.length + (xss.map List.length).sum
def lensUp (xss : List (List Int)) (k : Nat) : Nat := ((xss.take k).map List.length).sum
theorem lensUp_succ {xss : List (List Int)} {k : Nat} {x : List Int} (h : xss[k]? = some x) : lensUp xss (k + 1) = lensUp xss k + x.length := by
  unfold lensUp; rw [List.take_add_one, h]; simp
theorem lensUp_le (xss : List (List Int)) (k : Nat) : lensUp xss k ≤ (xss.map List.length).sum := by
  have h : (xss.map List.length).sum = ((xss.take k).map List.length).sum + ((xss.drop k).map List.length).sum := by rw [← List.sum_append, ← List.map_append, List.take_append_drop]
  unfold lensUp
  omega
theorem lensUp_all {xss : List (List Int)} {k : Nat} (h : xss.length ≤ k) : lensUp xss k = (xss.map List.length).sum := by unfold lensUp; rw [List.take_of_length_le h]
theorem deckSz_at {xss : List (List Int)} {k : Nat} {x : List Int} (h : xss[k]? = some x) : x.length + xss.length ≤ deckSz xss := by
  have h1 := lensUp_le xss (k + 1)
  rw [lensUp_succ h] at h1
  unfold deckSz; omega
theorem deckSz_len (xss : List (List Int)) : xss.length ≤ deckSz xss := by unfold deckSz; omega
end Go.Proofs.YtcbjfgjlhjjpiaaDoor
