/-
  No cell of these rows narrows 'for every input' (looked for: loops, veiled, ifaces, maps, wideKeys, modest, calm, conditions, laid).
  DERIVED. THE GIVEN ROWS OF THIS SEAT. 10 by the template 'for every input the law returns true; each argument reads behind the call as it read before'; 0 by the template 'total and deterministic' (their statements: YtnjgeclbdopdoaaTotals.lean).
  GIVEN WITH THE SEED: the statements are not yours to turn. If you find one false, say at which input.
  Laid BY PROGRAM, IN A SANDBOX (cutbox-rows.mjs): the forced cells as the released guide's own fill.sh prints them over the translation 8bebc8941064d0ae… (all of the seat's roots in one cut). By AI agents, Wed Nov 11 2026. No macro, syntax, notation, axiom, sorry.
-/
import Derived.Test.YtnjgeclbdopdoaaChecked
import GoSem.Claim
import GoSem.ClaimJoined
import GoSem.ClaimMapViews
import Derived.JoinedTies
import Derived.KernelRfl
namespace Go.Proofs.Ytnjgeclbdopdoaa
/- THE CELL 'sum', in the pinned program and in every row, IS THE sha256 OF THE DUMP (.gsa) THAT YtnjgeclbdopdoaaProg.lean LOADS. Nothing in Lean hashes anything: it is a label: what it is worth is what the hold of that sum in a sandbox is worth. -/
noncomputable def Try.pinned : Pinned := { name := "ytnjgeclbdopdoaa", sum := "8bebc8941064d0aea02bfec77ce636b1a0381ad4e211af395612eaaf1ff22e7b", checked := Try.checked }
namespace Rows
def none {H : Type} : Left H := { results := [], args := [] }

/-- 'laws.FnExactSameLayout': WHATEVER THE INPUT: true; the input reads as it did. -/
def fnExactSameLayoutSpec : ChangeSpec := { name := "fnExactSameLayout", fn := fun _ => fun
  | [d1, d2] => { results := [.lit (.bool true)], args := [d1, d2] }
  | _ => none }
def fnExactSameLayoutRow : OpenClaim := { program := "ytnjgeclbdopdoaa", sum := "8bebc8941064d0aea02bfec77ce636b1a0381ad4e211af395612eaaf1ff22e7b", func := "loop.example/g01012/laws.FnExactSameLayout", spec := "fnExactSameLayout", apart := false }
def FnExactSameLayoutSaid : Prop := fnExactSameLayoutRow.holds Try.pinned (OpenSpec.ofChange fnExactSameLayoutSpec)

/-- ITS FALSE NEIGHBOUR: 'it returns false'. Refute it at one input. -/
def fnExactSameLayoutWrong : ChangeSpec := { name := "fnExactSameLayout", fn := fun _ => fun
  | [d1, d2] => { results := [.lit (.bool false)], args := [d1, d2] }
  | _ => none }
def FnExactSameLayoutWrongFalsely : Prop := fnExactSameLayoutRow.holds Try.pinned (OpenSpec.ofChange fnExactSameLayoutWrong)

/-- 'laws.FnExactKeysNeeded': WHATEVER THE INPUT: true; the input reads as it did. -/
def fnExactKeysNeededSpec : ChangeSpec := { name := "fnExactKeysNeeded", fn := fun _ => fun
  | [d] => { results := [.lit (.bool true)], args := [d] }
  | _ => none }
def fnExactKeysNeededRow : OpenClaim := { program := "ytnjgeclbdopdoaa", sum := "8bebc8941064d0aea02bfec77ce636b1a0381ad4e211af395612eaaf1ff22e7b", func := "loop.example/g01012/laws.FnExactKeysNeeded", spec := "fnExactKeysNeeded", inPlace := ["internal/bytealg.CountString", "internal/bytealg.IndexByteString", "internal/bytealg.IndexString"], named := ["internal/bytealg.MaxLen"], apart := false }
def FnExactKeysNeededSaid : Prop := fnExactKeysNeededRow.holds Try.pinned (OpenSpec.ofChange fnExactKeysNeededSpec)

/-- ITS FALSE NEIGHBOUR: 'it returns false'. Refute it at one input. -/
def fnExactKeysNeededWrong : ChangeSpec := { name := "fnExactKeysNeeded", fn := fun _ => fun
  | [d] => { results := [.lit (.bool false)], args := [d] }
  | _ => none }
def FnExactKeysNeededWrongFalsely : Prop := fnExactKeysNeededRow.holds Try.pinned (OpenSpec.ofChange fnExactKeysNeededWrong)

/-- 'laws.FnExactStrokesSaved': WHATEVER THE INPUT: true; the input reads as it did. -/
def fnExactStrokesSavedSpec : ChangeSpec := { name := "fnExactStrokesSaved", fn := fun _ => fun
  | [d1, d2] => { results := [.lit (.bool true)], args := [d1, d2] }
  | _ => none }
def fnExactStrokesSavedRow : OpenClaim := { program := "ytnjgeclbdopdoaa", sum := "8bebc8941064d0aea02bfec77ce636b1a0381ad4e211af395612eaaf1ff22e7b", func := "loop.example/g01012/laws.FnExactStrokesSaved", spec := "fnExactStrokesSaved", inPlace := ["internal/bytealg.CountString", "internal/bytealg.IndexByteString", "internal/bytealg.IndexString"], named := ["internal/bytealg.MaxLen"], apart := false }
def FnExactStrokesSavedSaid : Prop := fnExactStrokesSavedRow.holds Try.pinned (OpenSpec.ofChange fnExactStrokesSavedSpec)

/-- ITS FALSE NEIGHBOUR: 'it returns false'. Refute it at one input. -/
def fnExactStrokesSavedWrong : ChangeSpec := { name := "fnExactStrokesSaved", fn := fun _ => fun
  | [d1, d2] => { results := [.lit (.bool false)], args := [d1, d2] }
  | _ => none }
def FnExactStrokesSavedWrongFalsely : Prop := fnExactStrokesSavedRow.holds Try.pinned (OpenSpec.ofChange fnExactStrokesSavedWrong)

/-- 'laws.FnExactValidLayout': WHATEVER THE INPUT: true; the input reads as it did. -/
def fnExactValidLayoutSpec : ChangeSpec := { name := "fnExactValidLayout", fn := fun _ => fun
  | [d] => { results := [.lit (.bool true)], args := [d] }
  | _ => none }
def fnExactValidLayoutRow : OpenClaim := { program := "ytnjgeclbdopdoaa", sum := "8bebc8941064d0aea02bfec77ce636b1a0381ad4e211af395612eaaf1ff22e7b", func := "loop.example/g01012/laws.FnExactValidLayout", spec := "fnExactValidLayout", unfollowed := true, recurses := true, apart := false }
def FnExactValidLayoutSaid : Prop := fnExactValidLayoutRow.holds Try.pinned (OpenSpec.ofChange fnExactValidLayoutSpec)

/-- ITS FALSE NEIGHBOUR: 'it returns false'. Refute it at one input. -/
def fnExactValidLayoutWrong : ChangeSpec := { name := "fnExactValidLayout", fn := fun _ => fun
  | [d] => { results := [.lit (.bool false)], args := [d] }
  | _ => none }
def FnExactValidLayoutWrongFalsely : Prop := fnExactValidLayoutRow.holds Try.pinned (OpenSpec.ofChange fnExactValidLayoutWrong)

/-- 'laws.FnExactCorrectColumn': WHATEVER THE INPUT: true; the input reads as it did. -/
def fnExactCorrectColumnSpec : ChangeSpec := { name := "fnExactCorrectColumn", fn := fun _ => fun
  | [d1, d2, d3] => { results := [.lit (.bool true)], args := [d1, d2, d3] }
  | _ => none }
def fnExactCorrectColumnRow : OpenClaim := { program := "ytnjgeclbdopdoaa", sum := "8bebc8941064d0aea02bfec77ce636b1a0381ad4e211af395612eaaf1ff22e7b", func := "loop.example/g01012/laws.FnExactCorrectColumn", spec := "fnExactCorrectColumn", inPlace := ["internal/bytealg.IndexByteString"], unfollowed := true, recurses := true, apart := false }
def FnExactCorrectColumnSaid : Prop := fnExactCorrectColumnRow.holds Try.pinned (OpenSpec.ofChange fnExactCorrectColumnSpec)

/-- ITS FALSE NEIGHBOUR: 'it returns false'. Refute it at one input. -/
def fnExactCorrectColumnWrong : ChangeSpec := { name := "fnExactCorrectColumn", fn := fun _ => fun
  | [d1, d2, d3] => { results := [.lit (.bool false)], args := [d1, d2, d3] }
  | _ => none }
def FnExactCorrectColumnWrongFalsely : Prop := fnExactCorrectColumnRow.holds Try.pinned (OpenSpec.ofChange fnExactCorrectColumnWrong)

/-- 'laws.FnExactItemNamed': WHATEVER THE INPUT: true; the input reads as it did. -/
def fnExactItemNamedSpec : ChangeSpec := { name := "fnExactItemNamed", fn := fun _ => fun
  | [d1, d2] => { results := [.lit (.bool true)], args := [d1, d2] }
  | _ => none }
def fnExactItemNamedRow : OpenClaim := { program := "ytnjgeclbdopdoaa", sum := "8bebc8941064d0aea02bfec77ce636b1a0381ad4e211af395612eaaf1ff22e7b", func := "loop.example/g01012/laws.FnExactItemNamed", spec := "fnExactItemNamed", unfollowed := true, recurses := true, apart := false }
def FnExactItemNamedSaid : Prop := fnExactItemNamedRow.holds Try.pinned (OpenSpec.ofChange fnExactItemNamedSpec)

/-- ITS FALSE NEIGHBOUR: 'it returns false'. Refute it at one input. -/
def fnExactItemNamedWrong : ChangeSpec := { name := "fnExactItemNamed", fn := fun _ => fun
  | [d1, d2] => { results := [.lit (.bool false)], args := [d1, d2] }
  | _ => none }
def FnExactItemNamedWrongFalsely : Prop := fnExactItemNamedRow.holds Try.pinned (OpenSpec.ofChange fnExactItemNamedWrong)

/-- 'laws.FnExactNumberIn': WHATEVER THE INPUT: true; the input reads as it did. -/
def fnExactNumberInSpec : ChangeSpec := { name := "fnExactNumberIn", fn := fun _ => fun
  | [d1, d2] => { results := [.lit (.bool true)], args := [d1, d2] }
  | _ => none }
def fnExactNumberInRow : OpenClaim := { program := "ytnjgeclbdopdoaa", sum := "8bebc8941064d0aea02bfec77ce636b1a0381ad4e211af395612eaaf1ff22e7b", func := "loop.example/g01012/laws.FnExactNumberIn", spec := "fnExactNumberIn", unfollowed := true, recurses := true, apart := false }
def FnExactNumberInSaid : Prop := fnExactNumberInRow.holds Try.pinned (OpenSpec.ofChange fnExactNumberInSpec)

/-- ITS FALSE NEIGHBOUR: 'it returns false'. Refute it at one input. -/
def fnExactNumberInWrong : ChangeSpec := { name := "fnExactNumberIn", fn := fun _ => fun
  | [d1, d2] => { results := [.lit (.bool false)], args := [d1, d2] }
  | _ => none }
def FnExactNumberInWrongFalsely : Prop := fnExactNumberInRow.holds Try.pinned (OpenSpec.ofChange fnExactNumberInWrong)

/-- 'laws.FnExactCompareFields': WHATEVER THE INPUT: true; the input reads as it did. -/
def fnExactCompareFieldsSpec : ChangeSpec := { name := "fnExactCompareFields", fn := fun _ => fun
  | [d1, d2, d3] => { results := [.lit (.bool true)], args := [d1, d2, d3] }
  | _ => none }
def fnExactCompareFieldsRow : OpenClaim := { program := "ytnjgeclbdopdoaa", sum := "8bebc8941064d0aea02bfec77ce636b1a0381ad4e211af395612eaaf1ff22e7b", func := "loop.example/g01012/laws.FnExactCompareFields", spec := "fnExactCompareFields", unfollowed := true, recurses := true, apart := false }
def FnExactCompareFieldsSaid : Prop := fnExactCompareFieldsRow.holds Try.pinned (OpenSpec.ofChange fnExactCompareFieldsSpec)

/-- ITS FALSE NEIGHBOUR: 'it returns false'. Refute it at one input. -/
def fnExactCompareFieldsWrong : ChangeSpec := { name := "fnExactCompareFields", fn := fun _ => fun
  | [d1, d2, d3] => { results := [.lit (.bool false)], args := [d1, d2, d3] }
  | _ => none }
def FnExactCompareFieldsWrongFalsely : Prop := fnExactCompareFieldsRow.holds Try.pinned (OpenSpec.ofChange fnExactCompareFieldsWrong)

/-- 'laws.FnExactFreeColumns': WHATEVER THE INPUT: true; the input reads as it did. -/
def fnExactFreeColumnsSpec : ChangeSpec := { name := "fnExactFreeColumns", fn := fun _ => fun
  | [d] => { results := [.lit (.bool true)], args := [d] }
  | _ => none }
def fnExactFreeColumnsRow : OpenClaim := { program := "ytnjgeclbdopdoaa", sum := "8bebc8941064d0aea02bfec77ce636b1a0381ad4e211af395612eaaf1ff22e7b", func := "loop.example/g01012/laws.FnExactFreeColumns", spec := "fnExactFreeColumns", unfollowed := true, recurses := true, apart := false }
def FnExactFreeColumnsSaid : Prop := fnExactFreeColumnsRow.holds Try.pinned (OpenSpec.ofChange fnExactFreeColumnsSpec)

/-- ITS FALSE NEIGHBOUR: 'it returns false'. Refute it at one input. -/
def fnExactFreeColumnsWrong : ChangeSpec := { name := "fnExactFreeColumns", fn := fun _ => fun
  | [d] => { results := [.lit (.bool false)], args := [d] }
  | _ => none }
def FnExactFreeColumnsWrongFalsely : Prop := fnExactFreeColumnsRow.holds Try.pinned (OpenSpec.ofChange fnExactFreeColumnsWrong)

/-- 'laws.FnExactAddItem': WHATEVER THE INPUT: true; the input reads as it did. -/
def fnExactAddItemSpec : ChangeSpec := { name := "fnExactAddItem", fn := fun _ => fun
  | [d1, d2] => { results := [.lit (.bool true)], args := [d1, d2] }
  | _ => none }
def fnExactAddItemRow : OpenClaim := { program := "ytnjgeclbdopdoaa", sum := "8bebc8941064d0aea02bfec77ce636b1a0381ad4e211af395612eaaf1ff22e7b", func := "loop.example/g01012/laws.FnExactAddItem", spec := "fnExactAddItem", unfollowed := true, recurses := true, apart := false }
def FnExactAddItemSaid : Prop := fnExactAddItemRow.holds Try.pinned (OpenSpec.ofChange fnExactAddItemSpec)

/-- ITS FALSE NEIGHBOUR: 'it returns false'. Refute it at one input. -/
def fnExactAddItemWrong : ChangeSpec := { name := "fnExactAddItem", fn := fun _ => fun
  | [d1, d2] => { results := [.lit (.bool false)], args := [d1, d2] }
  | _ => none }
def FnExactAddItemWrongFalsely : Prop := fnExactAddItemRow.holds Try.pinned (OpenSpec.ofChange fnExactAddItemWrong)

/- THE SECOND FORM. 'bulk': how many values and letters a reading holds, each counted each time it is reached (what is shared counts as often as it is met; a slice's spare places count too). A statement '..UptoSaid' is the law's where the arguments, and the package variables that the reading takes, are together of bulk at most 1048576: NARROWER than '..Said'. Prove '..Said' where nothing that the law and all that it calls make is longer than what came in: it says more and counts as full. Else prove '..UptoSaid'. A law counts once. -/
mutual
def uptoBulk {H : Type} : DataW H → Nat
  | .lit (.string bytes) => bytes.length + 1
  | .lit _ => 1
  | .nil => 1
  | .ptr d => uptoBulk d + 1
  | .slice elems spare => uptoBulkAll elems + uptoBulkAll spare + 1
  | .agg parts => uptoBulkAll parts + 1
  | .iface _ d => uptoBulk d + 1
  | .map entries => uptoBulkEntries entries + 1
  | .held _ => 1
def uptoBulkAll {H : Type} : List (DataW H) → Nat
  | [] => 0
  | d :: r => uptoBulk d + uptoBulkAll r
def uptoBulkEntries {H : Type} : List (Lit × DataW H) → Nat
  | [] => 0
  | x :: r => uptoBulkEntry x + uptoBulkEntries r
def uptoBulkEntry {H : Type} : Lit × DataW H → Nat
  | (.string bytes, d) => bytes.length + uptoBulk d + 1
  | (_, d) => uptoBulk d + 1
 end
def uptoSmall : (H : Type) → List (DataW H) → Bool := fun _ ds => decide (uptoBulkAll ds ≤ 1048576)
def OpenSpec.upto (s : _root_.Go.ChangeSpec) : _root_.Go.OpenSpec := { _root_.Go.OpenSpec.ofChange s with cond := some uptoSmall }

/-- 'laws.FnExactSameLayout', WHERE WHAT IT READS IS OF BULK AT MOST 1048576: true; the input reads as it did. -/
def fnExactSameLayoutUptoRow : OpenClaim := { program := "ytnjgeclbdopdoaa", sum := "8bebc8941064d0aea02bfec77ce636b1a0381ad4e211af395612eaaf1ff22e7b", func := "loop.example/g01012/laws.FnExactSameLayout", spec := "fnExactSameLayout", apart := false, narrowed := true }
def FnExactSameLayoutUptoSaid : Prop := fnExactSameLayoutUptoRow.holds Try.pinned (OpenSpec.upto fnExactSameLayoutSpec)

/-- 'laws.FnExactKeysNeeded', WHERE WHAT IT READS IS OF BULK AT MOST 1048576: true; the input reads as it did. -/
def fnExactKeysNeededUptoRow : OpenClaim := { program := "ytnjgeclbdopdoaa", sum := "8bebc8941064d0aea02bfec77ce636b1a0381ad4e211af395612eaaf1ff22e7b", func := "loop.example/g01012/laws.FnExactKeysNeeded", spec := "fnExactKeysNeeded", inPlace := ["internal/bytealg.CountString", "internal/bytealg.IndexByteString", "internal/bytealg.IndexString"], named := ["internal/bytealg.MaxLen"], apart := false, narrowed := true }
def FnExactKeysNeededUptoSaid : Prop := fnExactKeysNeededUptoRow.holds Try.pinned (OpenSpec.upto fnExactKeysNeededSpec)

/-- 'laws.FnExactStrokesSaved', WHERE WHAT IT READS IS OF BULK AT MOST 1048576: true; the input reads as it did. -/
def fnExactStrokesSavedUptoRow : OpenClaim := { program := "ytnjgeclbdopdoaa", sum := "8bebc8941064d0aea02bfec77ce636b1a0381ad4e211af395612eaaf1ff22e7b", func := "loop.example/g01012/laws.FnExactStrokesSaved", spec := "fnExactStrokesSaved", inPlace := ["internal/bytealg.CountString", "internal/bytealg.IndexByteString", "internal/bytealg.IndexString"], named := ["internal/bytealg.MaxLen"], apart := false, narrowed := true }
def FnExactStrokesSavedUptoSaid : Prop := fnExactStrokesSavedUptoRow.holds Try.pinned (OpenSpec.upto fnExactStrokesSavedSpec)

/-- 'laws.FnExactValidLayout', WHERE WHAT IT READS IS OF BULK AT MOST 1048576: true; the input reads as it did. -/
def fnExactValidLayoutUptoRow : OpenClaim := { program := "ytnjgeclbdopdoaa", sum := "8bebc8941064d0aea02bfec77ce636b1a0381ad4e211af395612eaaf1ff22e7b", func := "loop.example/g01012/laws.FnExactValidLayout", spec := "fnExactValidLayout", unfollowed := true, recurses := true, apart := false, narrowed := true }
def FnExactValidLayoutUptoSaid : Prop := fnExactValidLayoutUptoRow.holds Try.pinned (OpenSpec.upto fnExactValidLayoutSpec)

/-- 'laws.FnExactCorrectColumn', WHERE WHAT IT READS IS OF BULK AT MOST 1048576: true; the input reads as it did. -/
def fnExactCorrectColumnUptoRow : OpenClaim := { program := "ytnjgeclbdopdoaa", sum := "8bebc8941064d0aea02bfec77ce636b1a0381ad4e211af395612eaaf1ff22e7b", func := "loop.example/g01012/laws.FnExactCorrectColumn", spec := "fnExactCorrectColumn", inPlace := ["internal/bytealg.IndexByteString"], unfollowed := true, recurses := true, apart := false, narrowed := true }
def FnExactCorrectColumnUptoSaid : Prop := fnExactCorrectColumnUptoRow.holds Try.pinned (OpenSpec.upto fnExactCorrectColumnSpec)

/-- 'laws.FnExactItemNamed', WHERE WHAT IT READS IS OF BULK AT MOST 1048576: true; the input reads as it did. -/
def fnExactItemNamedUptoRow : OpenClaim := { program := "ytnjgeclbdopdoaa", sum := "8bebc8941064d0aea02bfec77ce636b1a0381ad4e211af395612eaaf1ff22e7b", func := "loop.example/g01012/laws.FnExactItemNamed", spec := "fnExactItemNamed", unfollowed := true, recurses := true, apart := false, narrowed := true }
def FnExactItemNamedUptoSaid : Prop := fnExactItemNamedUptoRow.holds Try.pinned (OpenSpec.upto fnExactItemNamedSpec)

/-- 'laws.FnExactNumberIn', WHERE WHAT IT READS IS OF BULK AT MOST 1048576: true; the input reads as it did. -/
def fnExactNumberInUptoRow : OpenClaim := { program := "ytnjgeclbdopdoaa", sum := "8bebc8941064d0aea02bfec77ce636b1a0381ad4e211af395612eaaf1ff22e7b", func := "loop.example/g01012/laws.FnExactNumberIn", spec := "fnExactNumberIn", unfollowed := true, recurses := true, apart := false, narrowed := true }
def FnExactNumberInUptoSaid : Prop := fnExactNumberInUptoRow.holds Try.pinned (OpenSpec.upto fnExactNumberInSpec)

/-- 'laws.FnExactCompareFields', WHERE WHAT IT READS IS OF BULK AT MOST 1048576: true; the input reads as it did. -/
def fnExactCompareFieldsUptoRow : OpenClaim := { program := "ytnjgeclbdopdoaa", sum := "8bebc8941064d0aea02bfec77ce636b1a0381ad4e211af395612eaaf1ff22e7b", func := "loop.example/g01012/laws.FnExactCompareFields", spec := "fnExactCompareFields", unfollowed := true, recurses := true, apart := false, narrowed := true }
def FnExactCompareFieldsUptoSaid : Prop := fnExactCompareFieldsUptoRow.holds Try.pinned (OpenSpec.upto fnExactCompareFieldsSpec)

/-- 'laws.FnExactFreeColumns', WHERE WHAT IT READS IS OF BULK AT MOST 1048576: true; the input reads as it did. -/
def fnExactFreeColumnsUptoRow : OpenClaim := { program := "ytnjgeclbdopdoaa", sum := "8bebc8941064d0aea02bfec77ce636b1a0381ad4e211af395612eaaf1ff22e7b", func := "loop.example/g01012/laws.FnExactFreeColumns", spec := "fnExactFreeColumns", unfollowed := true, recurses := true, apart := false, narrowed := true }
def FnExactFreeColumnsUptoSaid : Prop := fnExactFreeColumnsUptoRow.holds Try.pinned (OpenSpec.upto fnExactFreeColumnsSpec)

/-- 'laws.FnExactAddItem', WHERE WHAT IT READS IS OF BULK AT MOST 1048576: true; the input reads as it did. -/
def fnExactAddItemUptoRow : OpenClaim := { program := "ytnjgeclbdopdoaa", sum := "8bebc8941064d0aea02bfec77ce636b1a0381ad4e211af395612eaaf1ff22e7b", func := "loop.example/g01012/laws.FnExactAddItem", spec := "fnExactAddItem", unfollowed := true, recurses := true, apart := false, narrowed := true }
def FnExactAddItemUptoSaid : Prop := fnExactAddItemUptoRow.holds Try.pinned (OpenSpec.upto fnExactAddItemSpec)

end Rows
end Go.Proofs.Ytnjgeclbdopdoaa
