/- What the arguments of the laws read as: columns, cards. Over any program whose types have these shapes. What byte slices among the arguments of the laws read as. Over any program whose types have these shapes. -/
import Derived.Test.YtmpfnkheohlmiaaGreatDoorQA
import Derived.ProofKit
import Derived.OpenShut
import Derived.Deep.Slices
import Derived.SliceStrings
namespace Go.Proofs.YtmpfnkheohlmiaaGreatDoor
open Go.ChangeShapes Go.WideShapes Go.ChangeAt Go.RowKit Go.Deep
set_option linter.unusedVariables false
set_option linter.unusedSimpArgs false
set_option linter.unnecessarySimpa false

section
variable {H : Type} {enc : TypeId × Value → H} {P : Program} {w : World} {base : Nat} {spare : Nat → Bool} {held : Bool}

theorem addr_none {w : World} {p : Addr} {v : Value} (h : w.cell? p = some v) : p.spot = none := by
  unfold World.cell? at h
  split at h
  · split at h
    · cases h
    · rename_i hs; simpa using hs
  · cases h
theorem cell_off {w : World} {p : Addr} {j : Nat} {v : Value} (hs : p.spot = none) (h : w.cell? (p.add j) = some v) : w.cell? ⟨p.block, p.off + j, none⟩ = some v := by
  obtain ⟨b, o, s⟩ := p
  simp only at hs; subst hs
  unfold Addr.add at h
  split at h
  · subst_vars; exact h
  · exact h

/-- integers in a slice -/
theorem open_RI {t e : TypeId} {fuel : Nat} {v : Value} {x : DataW H × List MemPlace} (ht : P.underlying t = some (.slice e)) (he : P.underlying e = some (.int .i64)) (hc : P.cellsOf e = 1)
    (h : DataW.trod enc P w base spare held fuel t [v] = some x) : ∃ a c xs, v = .slice a xs.length c ∧ RI w a xs ∧ xs.length ≤ maxLen := by
  rcases open_ints ht he hc h with ⟨hcs, _⟩ | ⟨p, len, cap, zs, hcs, _, hl, hm, hz, _, hcell, _⟩
  · simp only [List.cons.injEq, and_true] at hcs
    exact ⟨none, 0, [], hcs, RI.nil _ _, by simp [maxLen]⟩
  · simp only [List.cons.injEq, and_true] at hcs
    have hlen : len ≤ zs.length := by rw [hz]; split <;> omega
    refine ⟨some p, cap, zs.take len, by rw [List.length_take, Nat.min_eq_left hlen]; exact hcs, ?_, by rw [List.length_take]; omega⟩
    intro j u hj
    rw [List.getElem?_map, Option.map_eq_some_iff] at hj
    obtain ⟨y, hy, rfl⟩ := hj
    rw [List.getElem?_take] at hy
    split at hy
    · have hjz := (List.getElem?_eq_some_iff.1 hy).1
      have hsp : p.spot = none := by
        have := hcell 0 (by omega)
        exact addr_none (p := p) (by simpa [Addr.add] using this)
      have hcj := cell_off hsp (hcell j hjz)
      refine ⟨p.block, p.off, ?_, ?_⟩
      · obtain ⟨b, o, s⟩ := p; simp only at hsp; subst hsp; rfl
      · rw [hcj]; simp [List.getD_eq_getElem?_getD, hy]
    · cases hy

/-- integers in a slice, with the capacity -/
theorem open_RIc {t e : TypeId} {fuel : Nat} {v : Value} {x : DataW H × List MemPlace} (ht : P.underlying t = some (.slice e)) (he : P.underlying e = some (.int .i64)) (hc : P.cellsOf e = 1)
    (h : DataW.trod enc P w base spare held fuel t [v] = some x) : ∃ a c xs, v = .slice a xs.length c ∧ RI w a xs ∧ xs.length ≤ c ∧ c ≤ maxLen := by
  obtain ⟨a, c, xs, rfl, hr, _⟩ := open_RI ht he hc h
  refine ⟨a, c, xs, rfl, hr, ?_⟩
  rcases open_ints ht he hc h with ⟨hcs, _⟩ | ⟨p, len, cap, zs, hcs, _, hl, hm, hz, _⟩
  · simp only [List.cons.injEq, Value.slice.injEq, and_true] at hcs
    obtain ⟨_, h1, rfl⟩ := hcs
    exact ⟨by omega, by simp [maxLen]⟩
  · simp only [List.cons.injEq, Value.slice.injEq, and_true] at hcs
    obtain ⟨_, h1, rfl⟩ := hcs
    exact ⟨by omega, hm⟩
/-- a deck -/
theorem open_deck {r : Reach} {base' : Nat} {TD T TS TI : TypeId} {f0 : Field} {v : Value} {d : DataW H} {ps : List MemPlace} (hTD : P.underlying TD = some (.slice T)) (hT : P.underlying T = some (.struct #[f0])) (hty : f0.type = TS) (hof : f0.offset = 0) (hS : P.underlying TS = some (.slice TI)) (hI : P.underlying TI = some (.int .i64))
    (c1 : P.cellsOf T = 1) (c2 : P.cellsOf TS = 1) (c3 : P.cellsOf TI = 1) (hv : Value.okWide P w r base' TD v) (h : DataW.Trod enc P w base spare held TD v d ps) :
    ∃ a c xss, v = .slice a xss.length c ∧ RD w a xss ∧ xss.length ≤ maxLen := by
  obtain ⟨a0, len, cap, rfl⟩ := okWide_slice hTD hv
  obtain ⟨fuel, hf⟩ := h
  rcases open_slice hTD hf with ⟨hcs, _⟩ | ⟨p, len', cap', m, n, D, Pl, hcs, hb, hl, hm, hmm, hx, hi⟩
  · simp only [Value.cells, Array.toList_empty, List.cons.injEq, Value.slice.injEq, and_true] at hcs
    obtain ⟨rfl, rfl, rfl⟩ := hcs
    exact ⟨none, 0, [], rfl, RD.nil _ _, by simp [maxLen]⟩
  · simp only [Value.cells, List.cons.injEq, Value.slice.injEq, and_true] at hcs
    obtain ⟨rfl, rfl, rfl⟩ := hcs
    have hlm : len ≤ m := by rw [hmm]; split <;> omega
    have hex : ∀ i, i < len → ∃ q : (Option Addr × Nat) × List Int, w.cell? (p.add i) = some (.slice q.1.1 q.2.length q.1.2) ∧ RI w q.1.1 q.2 ∧ q.2.length ≤ q.1.2 ∧ q.1.2 ≤ maxLen := by
      intro i hil
      obtain ⟨cs', hc, ht'⟩ := hi i (by omega)
      rw [c1, Nat.mul_one] at hc
      obtain ⟨_, hcl, hat⟩ := World.cells?_some hc
      obtain ⟨y0, n', _, hl0, h0⟩ := trod_struct1 hT ht'
      match cs', hcl with
      | [u], _ =>
        rw [hof, hty, c2] at h0
        obtain ⟨a, c, xs, hu, hr, hm1, hm2⟩ := open_RIc hS hI c3 h0
        refine ⟨((a, c), xs), ?_, hr, hm1, hm2⟩
        have := hat 0 (by omega)
        simpa [hu, Addr.add] using this
    obtain ⟨f, hfq⟩ := choose_lt hex
    rcases Nat.eq_zero_or_pos len with rfl | hpos
    · exact ⟨some p, cap, [], rfl, RD.nil _ _, by simp [maxLen]⟩
    · have hsp : p.spot = none := addr_none (p := p) (by simpa [Addr.add] using (hfq 0 hpos).1)
      refine ⟨some p, cap, (List.range len).map fun i => (f i).2, by simp, ⟨(List.range len).map fun i => (f i).1, by simp, ?_, ?_⟩, by simp; omega⟩
      · intro j u hj
        have hjl : j < len := by
          have := (List.getElem?_eq_some_iff.1 hj).1
          simpa [headsV] using this
        rw [headsV_at (h := (f j).1) (xs := (f j).2) (by simp [hjl]) (by simp [hjl])] at hj
        simp only [Option.some.injEq] at hj
        subst hj
        exact ⟨p.block, p.off, by obtain ⟨b, o, s⟩ := p; simp only at hsp; subst hsp; rfl, cell_off hsp (hfq j hjl).1⟩
      · intro k q xs e1 e2
        have hkl : k < len := by
          have := (List.getElem?_eq_some_iff.1 e1).1
          simpa using this
        simp [hkl] at e1 e2
        subst e1 e2
        exact (hfq k hkl).2
/-- texts in a slice -/
theorem open_texts {r : Reach} {base' : Nat} {t e : TypeId} {v : Value} {d : DataW H} {ps : List MemPlace} (ht : P.underlying t = some (.slice e)) (he : P.underlying e = some .string) (hc : P.cellsOf e = 1) (hv : Value.okWide P w r base' t v)
    (h : DataW.Trod enc P w base spare held t v d ps) : ∃ a c ss, v = .slice a ss.length c ∧ RS w a ss ∧ ss.length ≤ maxLen ∧ ∀ s ∈ ss, s.size ≤ maxLen := by
  obtain ⟨a0, len0, cap0, rfl⟩ := okWide_slice ht hv
  obtain ⟨fuel, hf⟩ := h
  rcases open_strings ht he hc hf with ⟨hcs, _⟩ | ⟨p, len, cap, ss, hcs, _, hl, hm, hz, _, hcell, hsz⟩
  · simp only [Value.cells, List.cons.injEq, Value.slice.injEq, and_true] at hcs
    obtain ⟨rfl, rfl, rfl⟩ := hcs
    exact ⟨none, 0, [], rfl, RS.nil _ _, by simp [maxLen], by simp⟩
  · simp only [Value.cells, List.cons.injEq, Value.slice.injEq, and_true] at hcs
    obtain ⟨rfl, rfl, rfl⟩ := hcs
    have hlen : len0 ≤ ss.length := by rw [hz]; split <;> omega
    refine ⟨some p, cap0, ss.take len0, by rw [List.length_take, Nat.min_eq_left hlen], ?_, by rw [List.length_take]; omega, fun s hs => hsz s (List.mem_of_mem_take hs)⟩
    intro j u hj
    rw [List.getElem?_map, Option.map_eq_some_iff] at hj
    obtain ⟨y, hy, rfl⟩ := hj
    rw [List.getElem?_take] at hy
    split at hy
    · have hjz := (List.getElem?_eq_some_iff.1 hy).1
      have hsp : p.spot = none := addr_none (p := p) (by simpa [Addr.add] using hcell 0 (by omega))
      refine ⟨p.block, p.off, by obtain ⟨b, o, s⟩ := p; simp only at hsp; subst hsp; rfl, ?_⟩
      rw [cell_off hsp (hcell j hjz)]; simp [List.getD_eq_getElem?_getD, hy]
    · cases hy
/-- a card -/
theorem open_card {r : Reach} {base' : Nat} {T TS TI : TypeId} {f0 : Field} {v : Value} {d : DataW H} {ps : List MemPlace} (hT : P.underlying T = some (.struct #[f0])) (hty : f0.type = TS) (hof : f0.offset = 0) (hS : P.underlying TS = some (.slice TI)) (hI : P.underlying TI = some (.int .i64))
    (c1 : P.cellsOf T = 1) (c2 : P.cellsOf TS = 1) (c3 : P.cellsOf TI = 1) (hv : Value.okWide P w r base' T v) (h : DataW.Trod enc P w base spare held T v d ps) :
    ∃ a c xs, v = .agg #[.slice a xs.length c] ∧ RI w a xs ∧ xs.length ≤ maxLen := by
  obtain ⟨cs, rfl, hsz⟩ := okWide_struct hT hv
  obtain ⟨fuel, hf⟩ := h
  obtain ⟨y0, n, _, hl, h0⟩ := trod_struct1 hT hf
  simp only [Value.cells] at h0 hl
  rw [c1] at hl
  match hcs : cs.toList, hl with
  | [u], _ =>
    rw [hcs, hof, hty, c2] at h0
    obtain ⟨a, c, xs, hu, hr, hm⟩ := open_RI hS hI c3 h0
    refine ⟨a, c, xs, ?_, hr, hm⟩
    obtain ⟨l⟩ := cs
    simp only at hcs; subst hcs; rw [hu]
/-- an item in four cells -/
theorem item_cells {T TF TS TI : TypeId} {f0 f1 f2 g0 g1 : Field} {n : Nat} {cs : List Value} {x : DataW H × List MemPlace} (hT : P.underlying T = some (.struct #[f0, f1, f2])) (h0 : f0.type = TS) (h0' : f0.offset = 0) (h1 : f1.type = TI) (h1' : f1.offset = 1) (h2 : f2.type = TF) (h2' : f2.offset = 2)
    (hF : P.underlying TF = some (.struct #[g0, g1])) (k0 : g0.type = TI) (k0' : g0.offset = 0) (k1 : g1.type = TI) (k1' : g1.offset = 1) (hS : P.underlying TS = some .string) (hI : P.underlying TI = some (.int .i64))
    (c0 : P.cellsOf T = 4) (c1 : P.cellsOf TF = 2) (c2 : P.cellsOf TS = 1) (c3 : P.cellsOf TI = 1) (h : DataW.trod enc P w base spare held n T cs = some x) :
    ∃ p : Itm, cs = p.cells ∧ p.name.size ≤ maxLen := by
  obtain ⟨ys, n', _, hx, hl, hlen, hg⟩ := DataW.trod_struct hT h
  rw [c0] at hl
  match cs, hl with
  | [u0, u1, u2, u3], _ =>
    match ys, hlen with
    | [y0, y1, y2], _ =>
      have e0 := hg 0 f0 rfl
      have e1 := hg 1 f1 rfl
      have e2 := hg 2 f2 rfl
      rw [h0', h0, c2] at e0
      rw [h1', h1, c3] at e1
      rw [h2', h2, c1] at e2
      obtain ⟨zs, n2, _, hx2, hl2, hlen2, hg2⟩ := DataW.trod_struct hF e2
      match zs, hlen2 with
      | [z0, z1], _ =>
        have e3 := hg2 0 g0 rfl
        have e4 := hg2 1 g1 rfl
        rw [k0', k0, c3] at e3
        rw [k1', k1, c3] at e4
        obtain ⟨s, q0, _, hs⟩ := DataW.trod_string hS e0
        obtain ⟨k, q1, _, _⟩ := DataW.trod_int hI e1
        obtain ⟨f, q2, _, _⟩ := DataW.trod_int hI e3
        obtain ⟨t, q3, _, _⟩ := DataW.trod_int hI e4
        simp only [List.drop_zero, List.take_succ_cons, List.take_zero, List.cons.injEq, and_true, List.drop_succ_cons] at q0 q1 q2 q3
        subst q0 q1 q2 q3
        exact ⟨⟨s, k, f, t⟩, rfl, hs⟩
/-- items in a slice -/
theorem open_RT {TL T TF TS TI : TypeId} {f0 f1 f2 g0 g1 : Field} {fuel : Nat} {v : Value} {x : DataW H × List MemPlace} (hL : P.underlying TL = some (.slice T)) (hT : P.underlying T = some (.struct #[f0, f1, f2])) (h0 : f0.type = TS) (h0' : f0.offset = 0) (h1 : f1.type = TI) (h1' : f1.offset = 1) (h2 : f2.type = TF) (h2' : f2.offset = 2)
    (hF : P.underlying TF = some (.struct #[g0, g1])) (k0 : g0.type = TI) (k0' : g0.offset = 0) (k1 : g1.type = TI) (k1' : g1.offset = 1) (hS : P.underlying TS = some .string) (hI : P.underlying TI = some (.int .i64))
    (c0 : P.cellsOf T = 4) (c1 : P.cellsOf TF = 2) (c2 : P.cellsOf TS = 1) (c3 : P.cellsOf TI = 1) (h : DataW.trod enc P w base spare held fuel TL [v] = some x) :
    ∃ a c xs, v = .slice a xs.length c ∧ RT w a xs ∧ xs.length ≤ maxLen ∧ ∀ y ∈ xs, y.name.size ≤ maxLen := by
  rcases open_slice hL h with ⟨hcs, _⟩ | ⟨p, len', cap', m, n, D, Pl, hcs, hb, hl, hm, hmm, hx, hi⟩
  · simp only [List.cons.injEq, and_true] at hcs
    exact ⟨none, 0, [], hcs, RT.nil _ _, by simp [maxLen], by simp⟩
  · simp only [List.cons.injEq, and_true] at hcs
    subst hcs
    have hlm : len' ≤ m := by rw [hmm]; split <;> omega
    have hex : ∀ i, i < len' → ∃ q : Itm, (∀ j v, q.cells[j]? = some v → w.cell? (p.add (i * 4 + j)) = some v) ∧ q.name.size ≤ maxLen := by
      intro i hil
      obtain ⟨cs', hc, ht'⟩ := hi i (by omega)
      rw [c0] at hc
      obtain ⟨_, hcl, hat⟩ := World.cells?_some hc
      obtain ⟨q, rfl, hq⟩ := item_cells hT h0 h0' h1 h1' h2 h2' hF k0 k0' k1 k1' hS hI c0 c1 c2 c3 ht'
      refine ⟨q, fun j v hj => ?_, hq⟩
      have hj4 : j < 4 := by have := (List.getElem?_eq_some_iff.1 hj).1; simpa [Itm.cells] using this
      rw [← add_add, hat j hj4, hj]
    obtain ⟨f, hfq⟩ := @choose_lt Itm ⟨⟨ByteArray.empty, 0, 0, 0⟩⟩ _ _ hex
    rcases Nat.eq_zero_or_pos len' with rfl | hpos
    · exact ⟨some p, cap', [], rfl, RT.nil _ _, by simp [maxLen], by simp⟩
    · have hsp : p.spot = none := addr_none (p := p) (by simpa [Addr.add] using (hfq 0 hpos).1 0 (.string (f 0).name) rfl)
      refine ⟨some p, cap', (List.range len').map f, by simp, ?_, by simp; omega, ?_⟩
      · intro j u hj
        have hjl : j < len' * 4 := by
          have := (List.getElem?_eq_some_iff.1 hj).1
          rw [itemsV_length] at this; simpa using this
        have hq4 : j / 4 < len' := by omega
        have hat := itemsV_at (xs := (List.range len').map f) (k := j / 4) (x := f (j / 4)) (by simp [hq4])
        refine ⟨p.block, p.off, by obtain ⟨b, o, s⟩ := p; simp only at hsp; subst hsp; rfl, cell_off hsp ?_⟩
        have hj' : j = j / 4 * 4 + j % 4 := by omega
        have h4 : j % 4 < 4 := Nat.mod_lt _ (by omega)
        rw [hj'] at hj ⊢
        generalize j / 4 = k at *
        generalize j % 4 = r at *
        refine (hfq k hq4).1 r u ?_
        match r, h4 with
        | 0, _ => rw [Nat.add_zero, hat.1] at hj; exact hj
        | 1, _ => rw [hat.2.1] at hj; exact hj
        | 2, _ => rw [hat.2.2.1] at hj; exact hj
        | 3, _ => rw [hat.2.2.2] at hj; exact hj
      · intro y hy
        obtain ⟨i, hil, rfl⟩ := List.mem_map.1 hy
        exact (hfq i (by simpa using hil)).2
/-- a layout -/
theorem open_layout {r : Reach} {base' : Nat} {TT TL T TF TS TI : TypeId} {e0 e1 f0 f1 f2 g0 g1 : Field} {v : Value} {d : DataW H} {ps : List MemPlace} (hTT : P.underlying TT = some (.struct #[e0, e1])) (m0 : e0.type = TI) (m0' : e0.offset = 0) (m1 : e1.type = TL) (m1' : e1.offset = 1)
    (hL : P.underlying TL = some (.slice T)) (hT : P.underlying T = some (.struct #[f0, f1, f2])) (h0 : f0.type = TS) (h0' : f0.offset = 0) (h1 : f1.type = TI) (h1' : f1.offset = 1) (h2 : f2.type = TF) (h2' : f2.offset = 2)
    (hF : P.underlying TF = some (.struct #[g0, g1])) (k0 : g0.type = TI) (k0' : g0.offset = 0) (k1 : g1.type = TI) (k1' : g1.offset = 1) (hS : P.underlying TS = some .string) (hI : P.underlying TI = some (.int .i64))
    (cT : P.cellsOf TT = 2) (cL : P.cellsOf TL = 1) (c0 : P.cellsOf T = 4) (c1 : P.cellsOf TF = 2) (c2 : P.cellsOf TS = 1) (c3 : P.cellsOf TI = 1) (hv : Value.okWide P w r base' TT v) (h : DataW.Trod enc P w base spare held TT v d ps) :
    ∃ wd a c xs, v = .agg #[.int .i64 wd, .slice a xs.length c] ∧ RT w a xs ∧ xs.length ≤ maxLen ∧ ∀ y ∈ xs, y.name.size ≤ maxLen := by
  obtain ⟨cs, rfl, hsz⟩ := okWide_struct hTT hv
  obtain ⟨l⟩ := cs
  match l, hsz.trans cT with
  | [u0, u1], _ =>
    obtain ⟨fuel, hf⟩ := h
    obtain ⟨ys, n, _, hx, _, hlen, hg⟩ := DataW.trod_struct hTT hf
    have q0 := hg 0 e0 rfl
    have q1 := hg 1 e1 rfl
    rw [m0', m0, c3] at q0
    rw [m1', m1, cL] at q1
    match ys, hlen with
    | [y0, y1], _ =>
      obtain ⟨wd, r0, _, _⟩ := DataW.trod_int hI q0
      simp only [Value.cells, List.drop_zero, List.take_succ_cons, List.take_zero, List.cons.injEq, and_true, List.drop_succ_cons] at r0 q1
      subst r0
      obtain ⟨a, c, xs, rfl, hr, hm, hs⟩ := open_RT hL hT h0 h0' h1 h1' h2 h2' hF k0 k0' k1 k1' hS hI c0 c1 c2 c3 q1
      exact ⟨wd, a, c, xs, rfl, hr, hm, hs⟩
/-- an item by value -/
theorem open_item {r : Reach} {base' : Nat} {T TF TS TI : TypeId} {f0 f1 f2 g0 g1 : Field} {v : Value} {d : DataW H} {ps : List MemPlace} (hT : P.underlying T = some (.struct #[f0, f1, f2])) (h0 : f0.type = TS) (h0' : f0.offset = 0) (h1 : f1.type = TI) (h1' : f1.offset = 1) (h2 : f2.type = TF) (h2' : f2.offset = 2)
    (hF : P.underlying TF = some (.struct #[g0, g1])) (k0 : g0.type = TI) (k0' : g0.offset = 0) (k1 : g1.type = TI) (k1' : g1.offset = 1) (hS : P.underlying TS = some .string) (hI : P.underlying TI = some (.int .i64))
    (c0 : P.cellsOf T = 4) (c1 : P.cellsOf TF = 2) (c2 : P.cellsOf TS = 1) (c3 : P.cellsOf TI = 1) (hv : Value.okWide P w r base' T v) (h : DataW.Trod enc P w base spare held T v d ps) :
    ∃ p : Itm, v = .agg #[.string p.name, .int .i64 p.kind, .int .i64 p.fr, .int .i64 p.to] ∧ p.name.size ≤ maxLen := by
  obtain ⟨cs, rfl, hsz⟩ := okWide_struct hT hv
  obtain ⟨l⟩ := cs
  obtain ⟨fuel, hf⟩ := h
  obtain ⟨p, hp, hs⟩ := item_cells hT h0 h0' h1 h1' h2 h2' hF k0 k0' k1 k1' hS hI c0 c1 c2 c3 hf
  refine ⟨p, ?_, hs⟩
  simp only [Value.cells] at hp
  subst hp
  rfl
/-- a field: two integers -/
theorem open_field {r : Reach} {base' : Nat} {T TI : TypeId} {f0 f1 : Field} {v : Value} {d : DataW H} {ps : List MemPlace} (hT : P.underlying T = some (.struct #[f0, f1])) (h0 : f0.type = TI) (h0' : f0.offset = 0) (h1 : f1.type = TI) (h1' : f1.offset = 1) (hI : P.underlying TI = some (.int .i64))
    (c1 : P.cellsOf T = 2) (c3 : P.cellsOf TI = 1) (hv : Value.okWide P w r base' T v) (h : DataW.Trod enc P w base spare held T v d ps) :
    ∃ i j : Int, v = .agg #[.int .i64 i, .int .i64 j] ∧ (Lit.int .i64 i).wf = true ∧ (Lit.int .i64 j).wf = true := by
  obtain ⟨cs, rfl, hsz⟩ := okWide_struct hT hv
  obtain ⟨l⟩ := cs
  match l, hsz.trans c1 with
  | [u0, u1], _ =>
    obtain ⟨fuel, hf⟩ := h
    obtain ⟨xs, n, _, hx, _, hlen, hg⟩ := DataW.trod_struct hT hf
    have g0 := hg 0 f0 rfl
    have g1 := hg 1 f1 rfl
    rw [h0', h0, c3] at g0
    rw [h1', h1, c3] at g1
    match xs, hlen with
    | [y0, y1], _ =>
      obtain ⟨i, e0, _, z0⟩ := DataW.trod_int hI g0
      obtain ⟨j, e1, _, z1⟩ := DataW.trod_int hI g1
      simp only [Value.cells, List.drop_zero, List.take_succ_cons, List.take_zero, List.cons.injEq, and_true, List.drop_succ_cons] at e0 e1
      subst e0 e1
      exact ⟨i, j, rfl, z0, z1⟩
end
end Go.Proofs.YtmpfnkheohlmiaaGreatDoor
namespace Go.Proofs.YtmpfnkheohlmiaaGreatDoor
open Go.ChangeShapes Go.WideShapes Go.ChangeAt Go.RowKit Go.Deep
set_option linter.unusedVariables false
set_option linter.unusedSimpArgs false
set_option linter.unnecessarySimpa false

section
variable {H : Type} {enc : TypeId × Value → H} {P : Program} {w : World} {base : Nat} {spare : Nat → Bool} {held : Bool}
/-- bytes in a slice -/
theorem open_bytes {r : Reach} {base' : Nat} {t e : TypeId} {v : Value} {d : DataW H} {ps : List MemPlace} (ht : P.underlying t = some (.slice e)) (he : P.underlying e = some (.int .u8)) (hc : P.cellsOf e = 1) (hv : Value.okWide P w r base' t v)
    (h : DataW.Trod enc P w base spare held t v d ps) : ∃ a c l, v = .slice a l.length c ∧ RB w a l ∧ l.length ≤ c ∧ c ≤ maxLen := by
  obtain ⟨a0, len, cap, rfl⟩ := okWide_slice ht hv
  obtain ⟨fuel, hf⟩ := h
  rcases open_ints ht he hc hf with ⟨hcs, _⟩ | ⟨p, len', cap', zs, hcs, _, hl, hm, hz, _, hcell, hwf⟩
  · simp only [Value.cells, Array.toList_empty, List.cons.injEq, Value.slice.injEq, and_true] at hcs
    obtain ⟨rfl, rfl, rfl⟩ := hcs
    exact ⟨none, 0, [], rfl, Row.nil _ _, Nat.le_refl _, by simp [maxLen]⟩
  · simp only [Value.cells, Array.toList_empty, List.cons.injEq, Value.slice.injEq, and_true] at hcs
    obtain ⟨rfl, rfl, rfl⟩ := hcs
    have hlen : len ≤ zs.length := by rw [hz]; split <;> omega
    have hL : ((zs.take len).map fun z => z.toNat.toUInt8).length = len := by rw [List.length_map, List.length_take]; omega
    refine ⟨some p, cap, (zs.take len).map (fun z => z.toNat.toUInt8), by rw [hL], ?_, by rw [hL]; exact hl, hm⟩
    intro j u hj
    rw [List.getElem?_map, Option.map_eq_some_iff] at hj
    obtain ⟨y, hy, rfl⟩ := hj
    rw [List.getElem?_map, Option.map_eq_some_iff] at hy
    obtain ⟨z, hz', rfl⟩ := hy
    rw [List.getElem?_take] at hz'
    split at hz'
    · have hjz := (List.getElem?_eq_some_iff.1 hz').1
      have hsp : p.spot = none := by
        have := hcell 0 (by omega)
        exact addr_none (p := p) (by simpa [Addr.add] using this)
      have hcj := cell_off hsp (hcell j hjz)
      have hb := bounds_u8 (hwf z (List.mem_of_getElem? hz'))
      refine ⟨p.block, p.off, ?_, ?_⟩
      · obtain ⟨b, o, s⟩ := p; simp only at hsp; subst hsp; rfl
      · rw [hcj]
        have h1 : zs.getD j 0 = z := by simp [List.getD_eq_getElem?_getD, hz']
        rw [h1]
        unfold byteV
        have h2 : (z.toNat.toUInt8.toNat : Int) = z := by
          have : z.toNat.toUInt8.toNat = z.toNat % 256 := rfl
          rw [this]; omega
        rw [h2]
    · cases hz'
end
end Go.Proofs.YtmpfnkheohlmiaaGreatDoor
