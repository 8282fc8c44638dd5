/- What byte slices among the arguments of the laws read as. Over any program whose types have these shapes. -/
import Derived.Test.YtcbjfgjlhjjpiaaDoorOpen
namespace Go.Proofs.YtcbjfgjlhjjpiaaDoor
open Go.ChangeShapes Go.WideShapes Go.ChangeAt Go.RowKit Go.Deep
set_option linter.unusedVariables false
set_option linter.unusedSimpArgs false
set_option linter.unnecessarySimpa false

section
variable {H : Type} {enc : TypeId × Value → H} {P : Program} {w : World} {base : Nat} {spare : Nat → Bool} {held : Bool}
/-- bytes in a slice -/
theorem open_bytes {r : Reach} {base' : Nat} {t e : TypeId} {v : Value} {d : DataW H} {ps : List MemPlace} (ht : P.underlying t = some (.slice e)) (he : P.underlying e = some (.int .u8)) (hc : P.cellsOf e = 1) (hv : Value.okWide P w r base' t v)
    (h : DataW.Trod enc P w base spare held t v d ps) : ∃ a c l, v = .slice a l.length c ∧ RB w a l ∧ l.length ≤ c ∧ c ≤ maxLen := by
  obtain ⟨a0, len, cap, rfl⟩ := okWide_slice ht hv
  obtain ⟨fuel, hf⟩ := h
  rcases open_ints ht he hc hf with ⟨hcs, _⟩ | ⟨p, len', cap', zs, hcs, _, hl, hm, hz, _, hcell, hwf⟩
  · simp only [Value.cells, Array.toList_empty, List.cons.injEq, Value.slice.injEq, and_true] at hcs
    obtain ⟨rfl, rfl, rfl⟩ := hcs
    exact ⟨none, 0, [], rfl, Row.nil _ _, Nat.le_refl _, by simp [maxLen]⟩
  · simp only [Value.cells, Array.toList_empty, List.cons.injEq, Value.slice.injEq, and_true] at hcs
    obtain ⟨rfl, rfl, rfl⟩ := hcs
    have hlen : len ≤ zs.length := by rw [hz]; split <;> omega
    have hL : ((zs.take len).map fun z => z.toNat.toUInt8).length = len := by rw [List.length_map, List.length_take]; omega
    refine ⟨some p, cap, (zs.take len).map (fun z => z.toNat.toUInt8), by rw [hL], ?_, by rw [hL]; exact hl, hm⟩
    intro j u hj
    rw [List.getElem?_map, Option.map_eq_some_iff] at hj
    obtain ⟨y, hy, rfl⟩ := hj
    rw [List.getElem?_map, Option.map_eq_some_iff] at hy
    obtain ⟨z, hz', rfl⟩ := hy
    rw [List.getElem?_take] at hz'
    split at hz'
    · have hjz := (List.getElem?_eq_some_iff.1 hz').1
      have hsp : p.spot = none := by
        have := hcell 0 (by omega)
        exact addr_none (p := p) (by simpa [Addr.add] using this)
      have hcj := cell_off hsp (hcell j hjz)
      have hb := bounds_u8 (hwf z (List.mem_of_getElem? hz'))
      refine ⟨p.block, p.off, ?_, ?_⟩
      · obtain ⟨b, o, s⟩ := p; simp only at hsp; subst hsp; rfl
      · rw [hcj]
        have h1 : zs.getD j 0 = z := by simp [List.getD_eq_getElem?_getD, hz']
        rw [h1]
        unfold byteV
        have h2 : (z.toNat.toUInt8.toNat : Int) = z := by
          have : z.toNat.toUInt8.toNat = z.toNat % 256 := rfl
          rw [this]; omega
        rw [h2]
    · cases hz'
end
end Go.Proofs.YtcbjfgjlhjjpiaaDoor
