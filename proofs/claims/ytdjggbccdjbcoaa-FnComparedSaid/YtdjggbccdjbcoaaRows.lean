/-
  No cell of these rows narrows 'for every input' (looked for: loops, veiled, ifaces, maps, wideKeys, modest, calm, conditions, laid).
  DERIVED. THE GIVEN ROWS OF THIS SEAT. 6 by the template 'for every input the law returns true; each argument reads behind the call as it read before'; 0 by the template 'total and deterministic' (their statements: YtdjggbccdjbcoaaTotals.lean).
  GIVEN WITH THE SEED: the statements are not yours to turn. If you find one false, say at which input.
  Laid BY PROGRAM, IN A SANDBOX (cutbox-rows.mjs): the forced cells as the released guide's own fill.sh prints them over the translation 6fd636de9a91642a… (all of the seat's roots in one cut). By AI agents, Wed Nov 11 2026. No macro, syntax, notation, axiom, sorry.
-/
import Derived.Test.YtdjggbccdjbcoaaChecked
import GoSem.Claim
import GoSem.ClaimJoined
import GoSem.ClaimMapViews
import Derived.JoinedTies
import Derived.KernelRfl
namespace Go.Proofs.Ytdjggbccdjbcoaa
/- THE CELL 'sum', in the pinned program and in every row, IS THE sha256 OF THE DUMP (.gsa) THAT YtdjggbccdjbcoaaProg.lean LOADS. Nothing in Lean hashes anything: it is a label: what it is worth is what the hold of that sum in a sandbox is worth. -/
noncomputable def Try.pinned : Pinned := { name := "ytdjggbccdjbcoaa", sum := "6fd636de9a91642ac6333b79dab66010d24aca198801d41cb0ee36c213ba058e", checked := Try.checked }
namespace Rows
def none {H : Type} : Left H := { results := [], args := [] }

/-- 'laws.FnExactAddItem': WHATEVER THE INPUT: true; the input reads as it did. -/
def fnExactAddItemSpec : ChangeSpec := { name := "fnExactAddItem", fn := fun _ => fun
  | [d1, d2] => { results := [.lit (.bool true)], args := [d1, d2] }
  | _ => none }
def fnExactAddItemRow : OpenClaim := { program := "ytdjggbccdjbcoaa", sum := "6fd636de9a91642ac6333b79dab66010d24aca198801d41cb0ee36c213ba058e", func := "loop.example/g01012/laws.FnExactAddItem", spec := "fnExactAddItem", unfollowed := true, recurses := true, apart := false }
def FnExactAddItemSaid : Prop := fnExactAddItemRow.holds Try.pinned (OpenSpec.ofChange fnExactAddItemSpec)

/-- ITS FALSE NEIGHBOUR: 'it returns false'. Refute it at one input. -/
def fnExactAddItemWrong : ChangeSpec := { name := "fnExactAddItem", fn := fun _ => fun
  | [d1, d2] => { results := [.lit (.bool false)], args := [d1, d2] }
  | _ => none }
def FnExactAddItemWrongFalsely : Prop := fnExactAddItemRow.holds Try.pinned (OpenSpec.ofChange fnExactAddItemWrong)

/-- 'laws.FnParts': WHATEVER THE INPUT: true; the input reads as it did. -/
def fnPartsSpec : ChangeSpec := { name := "fnParts", fn := fun _ => fun
  | [d1, d2] => { results := [.lit (.bool true)], args := [d1, d2] }
  | _ => none }
def fnPartsRow : OpenClaim := { program := "ytdjggbccdjbcoaa", sum := "6fd636de9a91642ac6333b79dab66010d24aca198801d41cb0ee36c213ba058e", func := "loop.example/g01012/laws.FnParts", spec := "fnParts", unfollowed := true, recurses := true, apart := false }
def FnPartsSaid : Prop := fnPartsRow.holds Try.pinned (OpenSpec.ofChange fnPartsSpec)

/-- ITS FALSE NEIGHBOUR: 'it returns false'. Refute it at one input. -/
def fnPartsWrong : ChangeSpec := { name := "fnParts", fn := fun _ => fun
  | [d1, d2] => { results := [.lit (.bool false)], args := [d1, d2] }
  | _ => none }
def FnPartsWrongFalsely : Prop := fnPartsRow.holds Try.pinned (OpenSpec.ofChange fnPartsWrong)

/-- 'laws.FnCodes': WHATEVER THE INPUT: true; the input reads as it did. -/
def fnCodesSpec : ChangeSpec := { name := "fnCodes", fn := fun _ => fun
  | [d] => { results := [.lit (.bool true)], args := [d] }
  | _ => none }
def fnCodesRow : OpenClaim := { program := "ytdjggbccdjbcoaa", sum := "6fd636de9a91642ac6333b79dab66010d24aca198801d41cb0ee36c213ba058e", func := "loop.example/g01012/laws.FnCodes", spec := "fnCodes", inPlace := ["internal/bytealg.IndexByteString"], unfollowed := true, recurses := true, apart := false }
def FnCodesSaid : Prop := fnCodesRow.holds Try.pinned (OpenSpec.ofChange fnCodesSpec)

/-- ITS FALSE NEIGHBOUR: 'it returns false'. Refute it at one input. -/
def fnCodesWrong : ChangeSpec := { name := "fnCodes", fn := fun _ => fun
  | [d] => { results := [.lit (.bool false)], args := [d] }
  | _ => none }
def FnCodesWrongFalsely : Prop := fnCodesRow.holds Try.pinned (OpenSpec.ofChange fnCodesWrong)

/-- 'laws.FnLegal': WHATEVER THE INPUT: true; the input reads as it did. -/
def fnLegalSpec : ChangeSpec := { name := "fnLegal", fn := fun _ => fun
  | [d] => { results := [.lit (.bool true)], args := [d] }
  | _ => none }
def fnLegalRow : OpenClaim := { program := "ytdjggbccdjbcoaa", sum := "6fd636de9a91642ac6333b79dab66010d24aca198801d41cb0ee36c213ba058e", func := "loop.example/g01012/laws.FnLegal", spec := "fnLegal", unfollowed := true, recurses := true, apart := false }
def FnLegalSaid : Prop := fnLegalRow.holds Try.pinned (OpenSpec.ofChange fnLegalSpec)

/-- ITS FALSE NEIGHBOUR: 'it returns false'. Refute it at one input. -/
def fnLegalWrong : ChangeSpec := { name := "fnLegal", fn := fun _ => fun
  | [d] => { results := [.lit (.bool false)], args := [d] }
  | _ => none }
def FnLegalWrongFalsely : Prop := fnLegalRow.holds Try.pinned (OpenSpec.ofChange fnLegalWrong)

/-- 'laws.FnCards': WHATEVER THE INPUT: true; the input reads as it did. -/
def fnCardsSpec : ChangeSpec := { name := "fnCards", fn := fun _ => fun
  | [d1, d2] => { results := [.lit (.bool true)], args := [d1, d2] }
  | _ => none }
def fnCardsRow : OpenClaim := { program := "ytdjggbccdjbcoaa", sum := "6fd636de9a91642ac6333b79dab66010d24aca198801d41cb0ee36c213ba058e", func := "loop.example/g01012/laws.FnCards", spec := "fnCards", unfollowed := true, recurses := true, apart := false }
def FnCardsSaid : Prop := fnCardsRow.holds Try.pinned (OpenSpec.ofChange fnCardsSpec)

/-- ITS FALSE NEIGHBOUR: 'it returns false'. Refute it at one input. -/
def fnCardsWrong : ChangeSpec := { name := "fnCards", fn := fun _ => fun
  | [d1, d2] => { results := [.lit (.bool false)], args := [d1, d2] }
  | _ => none }
def FnCardsWrongFalsely : Prop := fnCardsRow.holds Try.pinned (OpenSpec.ofChange fnCardsWrong)

/-- 'laws.FnCompared': WHATEVER THE INPUT: true; the input reads as it did. -/
def fnComparedSpec : ChangeSpec := { name := "fnCompared", fn := fun _ => fun
  | [d1, d2] => { results := [.lit (.bool true)], args := [d1, d2] }
  | _ => none }
def fnComparedRow : OpenClaim := { program := "ytdjggbccdjbcoaa", sum := "6fd636de9a91642ac6333b79dab66010d24aca198801d41cb0ee36c213ba058e", func := "loop.example/g01012/laws.FnCompared", spec := "fnCompared", unfollowed := true, recurses := true, apart := false }
def FnComparedSaid : Prop := fnComparedRow.holds Try.pinned (OpenSpec.ofChange fnComparedSpec)

/-- ITS FALSE NEIGHBOUR: 'it returns false'. Refute it at one input. -/
def fnComparedWrong : ChangeSpec := { name := "fnCompared", fn := fun _ => fun
  | [d1, d2] => { results := [.lit (.bool false)], args := [d1, d2] }
  | _ => none }
def FnComparedWrongFalsely : Prop := fnComparedRow.holds Try.pinned (OpenSpec.ofChange fnComparedWrong)

/- THE SECOND FORM. 'bulk': how many values and letters a reading holds, each counted each time it is reached (what is shared counts as often as it is met; a slice's spare places count too). A statement '..UptoSaid' is the law's where the arguments, and the package variables that the reading takes, are together of bulk at most 1048576: NARROWER than '..Said'. Prove '..Said' where nothing that the law and all that it calls make is longer than what came in: it says more and counts as full. Else prove '..UptoSaid'. A law counts once. -/
mutual
def uptoBulk {H : Type} : DataW H → Nat
  | .lit (.string bytes) => bytes.length + 1
  | .lit _ => 1
  | .nil => 1
  | .ptr d => uptoBulk d + 1
  | .slice elems spare => uptoBulkAll elems + uptoBulkAll spare + 1
  | .agg parts => uptoBulkAll parts + 1
  | .iface _ d => uptoBulk d + 1
  | .map entries => uptoBulkEntries entries + 1
  | .held _ => 1
def uptoBulkAll {H : Type} : List (DataW H) → Nat
  | [] => 0
  | d :: r => uptoBulk d + uptoBulkAll r
def uptoBulkEntries {H : Type} : List (Lit × DataW H) → Nat
  | [] => 0
  | x :: r => uptoBulkEntry x + uptoBulkEntries r
def uptoBulkEntry {H : Type} : Lit × DataW H → Nat
  | (.string bytes, d) => bytes.length + uptoBulk d + 1
  | (_, d) => uptoBulk d + 1
 end
def uptoSmall : (H : Type) → List (DataW H) → Bool := fun _ ds => decide (uptoBulkAll ds ≤ 1048576)
def OpenSpec.upto (s : _root_.Go.ChangeSpec) : _root_.Go.OpenSpec := { _root_.Go.OpenSpec.ofChange s with cond := some uptoSmall }

/-- 'laws.FnExactAddItem', WHERE WHAT IT READS IS OF BULK AT MOST 1048576: true; the input reads as it did. -/
def fnExactAddItemUptoRow : OpenClaim := { program := "ytdjggbccdjbcoaa", sum := "6fd636de9a91642ac6333b79dab66010d24aca198801d41cb0ee36c213ba058e", func := "loop.example/g01012/laws.FnExactAddItem", spec := "fnExactAddItem", unfollowed := true, recurses := true, apart := false, narrowed := true }
def FnExactAddItemUptoSaid : Prop := fnExactAddItemUptoRow.holds Try.pinned (OpenSpec.upto fnExactAddItemSpec)

/-- 'laws.FnParts', WHERE WHAT IT READS IS OF BULK AT MOST 1048576: true; the input reads as it did. -/
def fnPartsUptoRow : OpenClaim := { program := "ytdjggbccdjbcoaa", sum := "6fd636de9a91642ac6333b79dab66010d24aca198801d41cb0ee36c213ba058e", func := "loop.example/g01012/laws.FnParts", spec := "fnParts", unfollowed := true, recurses := true, apart := false, narrowed := true }
def FnPartsUptoSaid : Prop := fnPartsUptoRow.holds Try.pinned (OpenSpec.upto fnPartsSpec)

/-- 'laws.FnCodes', WHERE WHAT IT READS IS OF BULK AT MOST 1048576: true; the input reads as it did. -/
def fnCodesUptoRow : OpenClaim := { program := "ytdjggbccdjbcoaa", sum := "6fd636de9a91642ac6333b79dab66010d24aca198801d41cb0ee36c213ba058e", func := "loop.example/g01012/laws.FnCodes", spec := "fnCodes", inPlace := ["internal/bytealg.IndexByteString"], unfollowed := true, recurses := true, apart := false, narrowed := true }
def FnCodesUptoSaid : Prop := fnCodesUptoRow.holds Try.pinned (OpenSpec.upto fnCodesSpec)

/-- 'laws.FnLegal', WHERE WHAT IT READS IS OF BULK AT MOST 1048576: true; the input reads as it did. -/
def fnLegalUptoRow : OpenClaim := { program := "ytdjggbccdjbcoaa", sum := "6fd636de9a91642ac6333b79dab66010d24aca198801d41cb0ee36c213ba058e", func := "loop.example/g01012/laws.FnLegal", spec := "fnLegal", unfollowed := true, recurses := true, apart := false, narrowed := true }
def FnLegalUptoSaid : Prop := fnLegalUptoRow.holds Try.pinned (OpenSpec.upto fnLegalSpec)

/-- 'laws.FnCards', WHERE WHAT IT READS IS OF BULK AT MOST 1048576: true; the input reads as it did. -/
def fnCardsUptoRow : OpenClaim := { program := "ytdjggbccdjbcoaa", sum := "6fd636de9a91642ac6333b79dab66010d24aca198801d41cb0ee36c213ba058e", func := "loop.example/g01012/laws.FnCards", spec := "fnCards", unfollowed := true, recurses := true, apart := false, narrowed := true }
def FnCardsUptoSaid : Prop := fnCardsUptoRow.holds Try.pinned (OpenSpec.upto fnCardsSpec)

/-- 'laws.FnCompared', WHERE WHAT IT READS IS OF BULK AT MOST 1048576: true; the input reads as it did. -/
def fnComparedUptoRow : OpenClaim := { program := "ytdjggbccdjbcoaa", sum := "6fd636de9a91642ac6333b79dab66010d24aca198801d41cb0ee36c213ba058e", func := "loop.example/g01012/laws.FnCompared", spec := "fnCompared", unfollowed := true, recurses := true, apart := false, narrowed := true }
def FnComparedUptoSaid : Prop := fnComparedUptoRow.holds Try.pinned (OpenSpec.upto fnComparedSpec)

end Rows
end Go.Proofs.Ytdjggbccdjbcoaa
