/- The walk of impl.ItemTotal: what it returns, and that memory has at most new blocks. -/
import Derived.Test.YtoeohebobmkobaaGreatDoorTot
namespace Go.Proofs.YtoeohebobmkobaaGreatDoor
open Go.RowKit
set_option maxRecDepth 100000
set_option linter.unusedVariables false
set_option linter.unusedSimpArgs false
set_option linter.unnecessarySimpa false

theorem RD.x {w : World} {a : Option Addr} {xss : List (List Int)} (h : RD w a xss) : RDx w a xss := fun k x hk => by
  obtain ⟨b, o, a', c', h1, h2, h3, _, _⟩ := h.at hk
  exact ⟨b, o, a', c', h1, h2, h3⟩
theorem deckSz_all {xss : List (List Int)} (h : deckSz xss ≤ 1048576) : ∀ x ∈ xss, x.length ≤ 1048576 := fun x hx => by
  obtain ⟨k, hk⟩ := List.getElem?_of_mem hx
  have := deckSz_at hk
  omega
theorem all_bad {p : List Int → Bool} {xss : List (List Int)} {k : Nat} {y : List Int} (h : xss[k]? = some y) (hp : p y = false) : xss.all p = false := by
  rw [List.all_eq_false]; exact ⟨y, List.mem_of_getElem? h, by simp [hp]⟩
theorem all_more {p : List Int → Bool} {xss : List (List Int)} {k : Nat} {y : List Int} (h : xss[k]? = some y) (ha : (xss.take k).all p = true) (hp : p y = true) : (xss.take (k + 1)).all p = true := by
  rw [List.take_add_one, h]; simp [ha, hp]
end Go.Proofs.YtoeohebobmkobaaGreatDoor
