/- The walks of the function that lays a card over another, in both packages: what it returns, and that memory has at most new blocks. -/
import Derived.Test.YtcbjfgjlhjjpiaaDoorHole
import Derived.Deep.RegionHeld3
namespace Go.Proofs.YtcbjfgjlhjjpiaaDoor
open Go.RowKit
set_option maxRecDepth 100000
set_option linter.unusedVariables false
set_option linter.unusedSimpArgs false
set_option linter.unnecessarySimpa false

theorem Within.frozen {lo hi : Nat} {w w' : World} (h : Within lo hi w w') {p : Addr} {v : Value} (hc : w.cell? p = some v) (hf : w.frozen? p = false) (hp : p.block < lo ∨ hi ≤ p.block) : w'.frozen? p = false :=
  (World.frozen?_of_block (w := w) (h.block p.block (World.block_lt_of_cell? w p hc) (fun e => by omega))).trans hf
/-! ### a row of which the first j are new -/
def upto (f xs : List Int) (j : Nat) : List Int := f.take j ++ xs.drop j
theorem upto_zero (f xs : List Int) : upto f xs 0 = xs := by simp [upto]
theorem upto_all (f xs : List Int) {j : Nat} (h : f.length = xs.length) (hj : j = xs.length) : upto f xs j = f := by rw [upto, List.take_of_length_le (by omega), List.drop_of_length_le (by omega)]; simp
theorem upto_length (f xs : List Int) {j : Nat} (h : f.length = xs.length) (hj : j ≤ xs.length) : (upto f xs j).length = xs.length := by simp [upto]; omega
theorem upto_at (f xs : List Int) {j : Nat} {x : Int} (h : f.length = xs.length) (hx : xs[j]? = some x) : (upto f xs j)[j]? = some x := by
  have hlt := (List.getElem?_eq_some_iff.1 hx).1
  rw [upto, List.getElem?_append_right (by simp; omega)]
  simp [List.length_take, h, Nat.min_eq_left (Nat.le_of_lt hlt), hx]
theorem upto_set (f xs : List Int) {j : Nat} {v : Int} (h : f.length = xs.length) (hv : f[j]? = some v) : ((upto f xs j).map (Value.int .i64)).set j (.int .i64 v) = (upto f xs (j + 1)).map (Value.int .i64) := by
  obtain ⟨hlt, hg⟩ := List.getElem?_eq_some_iff.1 hv
  have hl : (f.take j).length = j := by simp; omega
  rw [upto, upto, List.map_append, List.set_append_right _ _ (by rw [List.length_map, hl]; exact Nat.le_refl _), List.length_map, hl, Nat.sub_self, List.drop_eq_getElem_cons (by omega), List.map_cons, List.set_cons_zero, List.take_add_one, hv]
  simp

/-- two cards, hole over hole -/
def orL (x y : List Int) : List Int := List.zipWith orI x y
theorem orL_length {x y : List Int} (h : x.length = y.length) : (orL x y).length = x.length := by simp [orL, h]
theorem orL_at {x y : List Int} {j : Nat} {u v : Int} (hu : x[j]? = some u) (hv : y[j]? = some v) : (orL x y)[j]? = some (bits BinOp.or IntKind.i64 u v) := by simp [orL, List.getElem?_zipWith, hu, hv, orI]
def overlayCode (x y : List Int) : Int := if validCardL x && validCardL y then (if x.length == y.length then 0 else 6) else 1
def overlayL (x y : List Int) : List Int := if overlayCode x y == 0 then orL x y else []
theorem overlay_bad1 {x : List Int} (y : List Int) (h : validCardL x = false) : overlayCode x y = 1 ∧ overlayL x y = [] := by
  have h1 : overlayCode x y = 1 := by unfold overlayCode; rw [h]; rfl
  exact ⟨h1, by unfold overlayL; rw [h1]; rfl⟩
theorem overlay_bad2 (x : List Int) {y : List Int} (h : validCardL y = false) : overlayCode x y = 1 ∧ overlayL x y = [] := by
  have h1 : overlayCode x y = 1 := by unfold overlayCode; rw [h]; simp
  exact ⟨h1, by unfold overlayL; rw [h1]; rfl⟩
theorem overlay_state {x y : List Int} (h : validCardL x = true) (h2 : validCardL y = true) (h3 : ¬ x.length = y.length) : overlayCode x y = 6 ∧ overlayL x y = [] := by
  have h1 : overlayCode x y = 6 := by unfold overlayCode; rw [h, h2]; simp [h3]
  exact ⟨h1, by unfold overlayL; rw [h1]; rfl⟩
theorem overlay_ok {x y : List Int} (h : validCardL x = true) (h2 : validCardL y = true) (h3 : x.length = y.length) : overlayCode x y = 0 ∧ overlayL x y = orL x y := by
  have h1 : overlayCode x y = 0 := by unfold overlayCode; rw [h, h2]; simp [h3]
  exact ⟨h1, by unfold overlayL; rw [h1]; rfl⟩
theorem overlayL_len (x y : List Int) : (overlayL x y).length ≤ 1048576 := by
  cases h : validCardL x
  · rw [(overlay_bad1 y h).2]; simp
  · cases h2 : validCardL y
    · rw [(overlay_bad2 x h2).2]; simp
    · by_cases h3 : x.length = y.length
      · rw [(overlay_ok h h2 h3).2, orL_length h3]; have := validCard_len h; omega
      · rw [(overlay_state h h2 h3).2]; simp
end Go.Proofs.YtcbjfgjlhjjpiaaDoor
