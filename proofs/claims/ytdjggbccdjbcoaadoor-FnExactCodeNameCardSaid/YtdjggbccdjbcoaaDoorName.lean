/- The walks of the functions that name codes. -/
import Derived.Test.YtdjggbccdjbcoaaDoorTabs
import Derived.Test.YtdjggbccdjbcoaaDoorApp
import Derived.Test.YtdjggbccdjbcoaaDoorWords
namespace Go.Proofs.YtdjggbccdjbcoaaDoor
open Go.RowKit
set_option maxRecDepth 100000
set_option linter.unusedVariables false
set_option linter.unusedSimpArgs false
set_option linter.unnecessarySimpa false

def codeNameT (c : Int) : ByteArray := if inB c 0 10 then ⟨(codeNamesL.getD c.toNat []).toArray⟩ else ⟨#[]⟩
theorem codeName_no {c : Int} (h : inB c 0 10 = false) : codeNameT c = ⟨#[]⟩ := by unfold codeNameT; rw [h]; rfl
theorem codeName_yes {j : Nat} {l : List UInt8} (h : inB (j : Int) 0 10 = true) (hl : codeNamesL[j]? = some l) : codeNameT (j : Int) = ⟨l.toArray⟩ := by
  unfold codeNameT; rw [h, if_pos rfl, List.getD_eq_getElem?_getD, Int.toNat_natCast, hl]; rfl
theorem impl_CodeName (c : Int) (w : World) (ht : Names w) :
    Calls Tryd.prog 7 #[.int .i64 c] w fun e w' => e = .returned (.string (codeNameT c)) ∧ Below w.heap.size w w' := by
  cases h : inB c 0 10
  · have hf := Lib.hid (codeName_no h)
    go_enter Tryd.func7, Tryd.ntmps7
    go_wp2_with (go_at_call 16; ((with_reducible refine (impl_inside _ _ _ _).mono ?_); rintro e w' ⟨rfl, rfl⟩))
    go_ret
    exact ⟨by rw [hf.out]; rfl, Below.refl _ _⟩
  · obtain ⟨h1, h2⟩ := inB_true.1 h
    obtain ⟨j, rfl⟩ := Int.eq_ofNat_of_zero_le h1
    have hj : j < 11 := by omega
    obtain ⟨l, hl⟩ := get_some (l := codeNamesL) (k := j) hj
    have hf := Lib.hid (codeName_yes h hl)
    have hc : w.cell? ⟨0, j, none⟩ = some (.string ⟨l.toArray⟩) := by
      have h3 := World.var?_cell (g := 0) (by kernel_rfl) ht j
      rw [h3]
      simp [hl]
    have h3 : (j : Int) < 11 := by omega
    clear hl ht
    go_enter Tryd.func7, Tryd.ntmps7
    go_wp2_with (go_at_call 16; ((with_reducible refine (impl_inside _ _ _ _).mono ?_); rintro e w' ⟨rfl, rfl⟩))
    go_ret
    exact ⟨by rw [hf.out]; rfl, Below.refl _ _⟩
theorem spec_CodeName (c : Int) (w : World) :
    Calls Tryd.prog 6 #[.int .i64 c] w fun e w' => e = .returned (.string (codeNameT c)) ∧ Below w.heap.size w w' := by
  have hrows : Row (w.alloc (.cells (codeNamesL.map fun l => Value.string ⟨l.toArray⟩).toArray 9)) (some ⟨w.heap.size, 0, none⟩) (codeNamesL.map fun l => Value.string ⟨l.toArray⟩) := by
    have h := row_block (heap_alloc_new w (.cells (codeNamesL.map fun l => Value.string ⟨l.toArray⟩).toArray 9))
    simpa using h
  have hb := Lib.hid (below_alloc (w := w) (.cells (codeNamesL.map fun l => Value.string ⟨l.toArray⟩).toArray 9))
  cases h : inB c 0 10
  · have hf := Lib.hid (codeName_no h)
    clear hrows
    go_enter Tryd.func6, Tryd.ntmps6
    go_wp2_with (go_at_call 15; ((with_reducible refine (spec_l00In _ _ _ _).mono ?_); rintro e w' ⟨rfl, rfl⟩))
    go_ret
    exact ⟨by rw [hf.out]; rfl, hb.out⟩
  · obtain ⟨h1, h2⟩ := inB_true.1 h
    obtain ⟨j, rfl⟩ := Int.eq_ofNat_of_zero_le h1
    have hj : j < 11 := by omega
    obtain ⟨l, hl⟩ := get_some (l := codeNamesL) (k := j) hj
    have hf := Lib.hid (codeName_yes h hl)
    have hc := Row.off hrows (j := j) (v := .string ⟨l.toArray⟩) (by rw [List.getElem?_map, hl]; rfl)
    rw [Nat.zero_add] at hc
    simp only [codeNamesL, List.map_cons, List.map_nil] at hc
    have h3 : (j : Int) < 11 := by omega
    clear hl hrows
    go_enter Tryd.func6, Tryd.ntmps6
    go_wp2_with (go_at_call 15; ((with_reducible refine (spec_l00In _ _ _ _).mono ?_); rintro e w' ⟨rfl, rfl⟩))
    go_ret
    exact ⟨by rw [hf.out]; rfl, hb.out⟩
end Go.Proofs.YtdjggbccdjbcoaaDoor
