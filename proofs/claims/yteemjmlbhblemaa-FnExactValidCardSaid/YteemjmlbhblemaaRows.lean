/-
  No cell of these rows narrows 'for every input' (looked for: loops, veiled, ifaces, maps, wideKeys, modest, calm, conditions, laid).
  DERIVED. THE GIVEN ROWS OF THIS SEAT. 11 by the template 'for every input the law returns true; each argument reads behind the call as it read before'; 0 by the template 'total and deterministic' (their statements: YteemjmlbhblemaaTotals.lean).
  GIVEN WITH THE SEED: the statements are not yours to turn. If you find one false, say at which input.
  Laid BY PROGRAM, IN A SANDBOX (cutbox-rows.mjs): the forced cells as the released guide's own fill.sh prints them over the translation b8b36cd267d03f02… (all of the seat's roots in one cut). By AI agents, Wed Nov 11 2026. No macro, syntax, notation, axiom, sorry.
-/
import Derived.Test.YteemjmlbhblemaaChecked
import GoSem.Claim
import GoSem.ClaimJoined
import GoSem.ClaimMapViews
import Derived.JoinedTies
import Derived.KernelRfl
namespace Go.Proofs.Yteemjmlbhblemaa
/- THE CELL 'sum', in the pinned program and in every row, IS THE sha256 OF THE DUMP (.gsa) THAT YteemjmlbhblemaaProg.lean LOADS. Nothing in Lean hashes anything: it is a label: what it is worth is what the hold of that sum in a sandbox is worth. -/
noncomputable def Try.pinned : Pinned := { name := "yteemjmlbhblemaa", sum := "b8b36cd267d03f02bbda163bb339026d3f235744819a743858fb4063b5816316", checked := Try.checked }
namespace Rows
def none {H : Type} : Left H := { results := [], args := [] }

/-- 'laws.FnExactConstants': WHATEVER THE INPUT: true; the input reads as it did. -/
def fnExactConstantsSpec : ChangeSpec := { name := "fnExactConstants", fn := fun _ => fun
  | [] => { results := [.lit (.bool true)], args := [] }
  | _ => none }
def fnExactConstantsRow : OpenClaim := { program := "yteemjmlbhblemaa", sum := "b8b36cd267d03f02bbda163bb339026d3f235744819a743858fb4063b5816316", func := "loop.example/g01012/laws.FnExactConstants", spec := "fnExactConstants", apart := false }
def FnExactConstantsSaid : Prop := fnExactConstantsRow.holds Try.pinned (OpenSpec.ofChange fnExactConstantsSpec)

/-- ITS FALSE NEIGHBOUR: 'it returns false'. Refute it at one input. -/
def fnExactConstantsWrong : ChangeSpec := { name := "fnExactConstants", fn := fun _ => fun
  | [] => { results := [.lit (.bool false)], args := [] }
  | _ => none }
def FnExactConstantsWrongFalsely : Prop := fnExactConstantsRow.holds Try.pinned (OpenSpec.ofChange fnExactConstantsWrong)

/-- 'laws.FnExactValidProgram': WHATEVER THE INPUT: true; the input reads as it did. -/
def fnExactValidProgramSpec : ChangeSpec := { name := "fnExactValidProgram", fn := fun _ => fun
  | [d] => { results := [.lit (.bool true)], args := [d] }
  | _ => none }
def fnExactValidProgramRow : OpenClaim := { program := "yteemjmlbhblemaa", sum := "b8b36cd267d03f02bbda163bb339026d3f235744819a743858fb4063b5816316", func := "loop.example/g01012/laws.FnExactValidProgram", spec := "fnExactValidProgram", apart := false }
def FnExactValidProgramSaid : Prop := fnExactValidProgramRow.holds Try.pinned (OpenSpec.ofChange fnExactValidProgramSpec)

/-- ITS FALSE NEIGHBOUR: 'it returns false'. Refute it at one input. -/
def fnExactValidProgramWrong : ChangeSpec := { name := "fnExactValidProgram", fn := fun _ => fun
  | [d] => { results := [.lit (.bool false)], args := [d] }
  | _ => none }
def FnExactValidProgramWrongFalsely : Prop := fnExactValidProgramRow.holds Try.pinned (OpenSpec.ofChange fnExactValidProgramWrong)

/-- 'laws.FnExactIsName': WHATEVER THE INPUT: true; the input reads as it did. -/
def fnExactIsNameSpec : ChangeSpec := { name := "fnExactIsName", fn := fun _ => fun
  | [d] => { results := [.lit (.bool true)], args := [d] }
  | _ => none }
def fnExactIsNameRow : OpenClaim := { program := "yteemjmlbhblemaa", sum := "b8b36cd267d03f02bbda163bb339026d3f235744819a743858fb4063b5816316", func := "loop.example/g01012/laws.FnExactIsName", spec := "fnExactIsName", apart := false }
def FnExactIsNameSaid : Prop := fnExactIsNameRow.holds Try.pinned (OpenSpec.ofChange fnExactIsNameSpec)

/-- ITS FALSE NEIGHBOUR: 'it returns false'. Refute it at one input. -/
def fnExactIsNameWrong : ChangeSpec := { name := "fnExactIsName", fn := fun _ => fun
  | [d] => { results := [.lit (.bool false)], args := [d] }
  | _ => none }
def FnExactIsNameWrongFalsely : Prop := fnExactIsNameRow.holds Try.pinned (OpenSpec.ofChange fnExactIsNameWrong)

/-- 'laws.FnExactRankOf': WHATEVER THE INPUT: true; the input reads as it did. -/
def fnExactRankOfSpec : ChangeSpec := { name := "fnExactRankOf", fn := fun _ => fun
  | [d] => { results := [.lit (.bool true)], args := [d] }
  | _ => none }
def fnExactRankOfRow : OpenClaim := { program := "yteemjmlbhblemaa", sum := "b8b36cd267d03f02bbda163bb339026d3f235744819a743858fb4063b5816316", func := "loop.example/g01012/laws.FnExactRankOf", spec := "fnExactRankOf", inPlace := ["internal/bytealg.IndexByteString"], apart := false }
def FnExactRankOfSaid : Prop := fnExactRankOfRow.holds Try.pinned (OpenSpec.ofChange fnExactRankOfSpec)

/-- ITS FALSE NEIGHBOUR: 'it returns false'. Refute it at one input. -/
def fnExactRankOfWrong : ChangeSpec := { name := "fnExactRankOf", fn := fun _ => fun
  | [d] => { results := [.lit (.bool false)], args := [d] }
  | _ => none }
def FnExactRankOfWrongFalsely : Prop := fnExactRankOfRow.holds Try.pinned (OpenSpec.ofChange fnExactRankOfWrong)

/-- 'laws.FnExactBitOf': WHATEVER THE INPUT: true; the input reads as it did. -/
def fnExactBitOfSpec : ChangeSpec := { name := "fnExactBitOf", fn := fun _ => fun
  | [d] => { results := [.lit (.bool true)], args := [d] }
  | _ => none }
def fnExactBitOfRow : OpenClaim := { program := "yteemjmlbhblemaa", sum := "b8b36cd267d03f02bbda163bb339026d3f235744819a743858fb4063b5816316", func := "loop.example/g01012/laws.FnExactBitOf", spec := "fnExactBitOf", apart := false }
def FnExactBitOfSaid : Prop := fnExactBitOfRow.holds Try.pinned (OpenSpec.ofChange fnExactBitOfSpec)

/-- ITS FALSE NEIGHBOUR: 'it returns false'. Refute it at one input. -/
def fnExactBitOfWrong : ChangeSpec := { name := "fnExactBitOf", fn := fun _ => fun
  | [d] => { results := [.lit (.bool false)], args := [d] }
  | _ => none }
def FnExactBitOfWrongFalsely : Prop := fnExactBitOfRow.holds Try.pinned (OpenSpec.ofChange fnExactBitOfWrong)

/-- 'laws.FnExactBlankCard': WHATEVER THE INPUT: true; the input reads as it did. -/
def fnExactBlankCardSpec : ChangeSpec := { name := "fnExactBlankCard", fn := fun _ => fun
  | [d] => { results := [.lit (.bool true)], args := [d] }
  | _ => none }
def fnExactBlankCardRow : OpenClaim := { program := "yteemjmlbhblemaa", sum := "b8b36cd267d03f02bbda163bb339026d3f235744819a743858fb4063b5816316", func := "loop.example/g01012/laws.FnExactBlankCard", spec := "fnExactBlankCard", apart := false }
def FnExactBlankCardSaid : Prop := fnExactBlankCardRow.holds Try.pinned (OpenSpec.ofChange fnExactBlankCardSpec)

/-- ITS FALSE NEIGHBOUR: 'it returns false'. Refute it at one input. -/
def fnExactBlankCardWrong : ChangeSpec := { name := "fnExactBlankCard", fn := fun _ => fun
  | [d] => { results := [.lit (.bool false)], args := [d] }
  | _ => none }
def FnExactBlankCardWrongFalsely : Prop := fnExactBlankCardRow.holds Try.pinned (OpenSpec.ofChange fnExactBlankCardWrong)

/-- 'laws.FnExactSameCard': WHATEVER THE INPUT: true; the input reads as it did. -/
def fnExactSameCardSpec : ChangeSpec := { name := "fnExactSameCard", fn := fun _ => fun
  | [d1, d2] => { results := [.lit (.bool true)], args := [d1, d2] }
  | _ => none }
def fnExactSameCardRow : OpenClaim := { program := "yteemjmlbhblemaa", sum := "b8b36cd267d03f02bbda163bb339026d3f235744819a743858fb4063b5816316", func := "loop.example/g01012/laws.FnExactSameCard", spec := "fnExactSameCard", apart := false }
def FnExactSameCardSaid : Prop := fnExactSameCardRow.holds Try.pinned (OpenSpec.ofChange fnExactSameCardSpec)

/-- ITS FALSE NEIGHBOUR: 'it returns false'. Refute it at one input. -/
def fnExactSameCardWrong : ChangeSpec := { name := "fnExactSameCard", fn := fun _ => fun
  | [d1, d2] => { results := [.lit (.bool false)], args := [d1, d2] }
  | _ => none }
def FnExactSameCardWrongFalsely : Prop := fnExactSameCardRow.holds Try.pinned (OpenSpec.ofChange fnExactSameCardWrong)

/-- 'laws.FnExactValidCard': WHATEVER THE INPUT: true; the input reads as it did. -/
def fnExactValidCardSpec : ChangeSpec := { name := "fnExactValidCard", fn := fun _ => fun
  | [d] => { results := [.lit (.bool true)], args := [d] }
  | _ => none }
def fnExactValidCardRow : OpenClaim := { program := "yteemjmlbhblemaa", sum := "b8b36cd267d03f02bbda163bb339026d3f235744819a743858fb4063b5816316", func := "loop.example/g01012/laws.FnExactValidCard", spec := "fnExactValidCard", unfollowed := true, recurses := true, apart := false }
def FnExactValidCardSaid : Prop := fnExactValidCardRow.holds Try.pinned (OpenSpec.ofChange fnExactValidCardSpec)

/-- ITS FALSE NEIGHBOUR: 'it returns false'. Refute it at one input. -/
def fnExactValidCardWrong : ChangeSpec := { name := "fnExactValidCard", fn := fun _ => fun
  | [d] => { results := [.lit (.bool false)], args := [d] }
  | _ => none }
def FnExactValidCardWrongFalsely : Prop := fnExactValidCardRow.holds Try.pinned (OpenSpec.ofChange fnExactValidCardWrong)

/-- 'laws.FnExactCodeOf': WHATEVER THE INPUT: true; the input reads as it did. -/
def fnExactCodeOfSpec : ChangeSpec := { name := "fnExactCodeOf", fn := fun _ => fun
  | [d] => { results := [.lit (.bool true)], args := [d] }
  | _ => none }
def fnExactCodeOfRow : OpenClaim := { program := "yteemjmlbhblemaa", sum := "b8b36cd267d03f02bbda163bb339026d3f235744819a743858fb4063b5816316", func := "loop.example/g01012/laws.FnExactCodeOf", spec := "fnExactCodeOf", apart := false }
def FnExactCodeOfSaid : Prop := fnExactCodeOfRow.holds Try.pinned (OpenSpec.ofChange fnExactCodeOfSpec)

/-- ITS FALSE NEIGHBOUR: 'it returns false'. Refute it at one input. -/
def fnExactCodeOfWrong : ChangeSpec := { name := "fnExactCodeOf", fn := fun _ => fun
  | [d] => { results := [.lit (.bool false)], args := [d] }
  | _ => none }
def FnExactCodeOfWrongFalsely : Prop := fnExactCodeOfRow.holds Try.pinned (OpenSpec.ofChange fnExactCodeOfWrong)

/-- 'laws.FnExactCharOf': WHATEVER THE INPUT: true; the input reads as it did. -/
def fnExactCharOfSpec : ChangeSpec := { name := "fnExactCharOf", fn := fun _ => fun
  | [d] => { results := [.lit (.bool true)], args := [d] }
  | _ => none }
def fnExactCharOfRow : OpenClaim := { program := "yteemjmlbhblemaa", sum := "b8b36cd267d03f02bbda163bb339026d3f235744819a743858fb4063b5816316", func := "loop.example/g01012/laws.FnExactCharOf", spec := "fnExactCharOf", apart := false }
def FnExactCharOfSaid : Prop := fnExactCharOfRow.holds Try.pinned (OpenSpec.ofChange fnExactCharOfSpec)

/-- ITS FALSE NEIGHBOUR: 'it returns false'. Refute it at one input. -/
def fnExactCharOfWrong : ChangeSpec := { name := "fnExactCharOf", fn := fun _ => fun
  | [d] => { results := [.lit (.bool false)], args := [d] }
  | _ => none }
def FnExactCharOfWrongFalsely : Prop := fnExactCharOfRow.holds Try.pinned (OpenSpec.ofChange fnExactCharOfWrong)

/-- 'laws.FnExactSameLayout': WHATEVER THE INPUT: true; the input reads as it did. -/
def fnExactSameLayoutSpec : ChangeSpec := { name := "fnExactSameLayout", fn := fun _ => fun
  | [d1, d2] => { results := [.lit (.bool true)], args := [d1, d2] }
  | _ => none }
def fnExactSameLayoutRow : OpenClaim := { program := "yteemjmlbhblemaa", sum := "b8b36cd267d03f02bbda163bb339026d3f235744819a743858fb4063b5816316", func := "loop.example/g01012/laws.FnExactSameLayout", spec := "fnExactSameLayout", apart := false }
def FnExactSameLayoutSaid : Prop := fnExactSameLayoutRow.holds Try.pinned (OpenSpec.ofChange fnExactSameLayoutSpec)

/-- ITS FALSE NEIGHBOUR: 'it returns false'. Refute it at one input. -/
def fnExactSameLayoutWrong : ChangeSpec := { name := "fnExactSameLayout", fn := fun _ => fun
  | [d1, d2] => { results := [.lit (.bool false)], args := [d1, d2] }
  | _ => none }
def FnExactSameLayoutWrongFalsely : Prop := fnExactSameLayoutRow.holds Try.pinned (OpenSpec.ofChange fnExactSameLayoutWrong)

/- THE SECOND FORM. 'bulk': how many values and letters a reading holds, each counted each time it is reached (what is shared counts as often as it is met; a slice's spare places count too). A statement '..UptoSaid' is the law's where the arguments, and the package variables that the reading takes, are together of bulk at most 1048576: NARROWER than '..Said'. Prove '..Said' where nothing that the law and all that it calls make is longer than what came in: it says more and counts as full. Else prove '..UptoSaid'. A law counts once. -/
mutual
def uptoBulk {H : Type} : DataW H → Nat
  | .lit (.string bytes) => bytes.length + 1
  | .lit _ => 1
  | .nil => 1
  | .ptr d => uptoBulk d + 1
  | .slice elems spare => uptoBulkAll elems + uptoBulkAll spare + 1
  | .agg parts => uptoBulkAll parts + 1
  | .iface _ d => uptoBulk d + 1
  | .map entries => uptoBulkEntries entries + 1
  | .held _ => 1
def uptoBulkAll {H : Type} : List (DataW H) → Nat
  | [] => 0
  | d :: r => uptoBulk d + uptoBulkAll r
def uptoBulkEntries {H : Type} : List (Lit × DataW H) → Nat
  | [] => 0
  | x :: r => uptoBulkEntry x + uptoBulkEntries r
def uptoBulkEntry {H : Type} : Lit × DataW H → Nat
  | (.string bytes, d) => bytes.length + uptoBulk d + 1
  | (_, d) => uptoBulk d + 1
 end
def uptoSmall : (H : Type) → List (DataW H) → Bool := fun _ ds => decide (uptoBulkAll ds ≤ 1048576)
def OpenSpec.upto (s : _root_.Go.ChangeSpec) : _root_.Go.OpenSpec := { _root_.Go.OpenSpec.ofChange s with cond := some uptoSmall }

/-- 'laws.FnExactConstants', WHERE WHAT IT READS IS OF BULK AT MOST 1048576: true; the input reads as it did. -/
def fnExactConstantsUptoRow : OpenClaim := { program := "yteemjmlbhblemaa", sum := "b8b36cd267d03f02bbda163bb339026d3f235744819a743858fb4063b5816316", func := "loop.example/g01012/laws.FnExactConstants", spec := "fnExactConstants", apart := false, narrowed := true }
def FnExactConstantsUptoSaid : Prop := fnExactConstantsUptoRow.holds Try.pinned (OpenSpec.upto fnExactConstantsSpec)

/-- 'laws.FnExactValidProgram', WHERE WHAT IT READS IS OF BULK AT MOST 1048576: true; the input reads as it did. -/
def fnExactValidProgramUptoRow : OpenClaim := { program := "yteemjmlbhblemaa", sum := "b8b36cd267d03f02bbda163bb339026d3f235744819a743858fb4063b5816316", func := "loop.example/g01012/laws.FnExactValidProgram", spec := "fnExactValidProgram", apart := false, narrowed := true }
def FnExactValidProgramUptoSaid : Prop := fnExactValidProgramUptoRow.holds Try.pinned (OpenSpec.upto fnExactValidProgramSpec)

/-- 'laws.FnExactIsName', WHERE WHAT IT READS IS OF BULK AT MOST 1048576: true; the input reads as it did. -/
def fnExactIsNameUptoRow : OpenClaim := { program := "yteemjmlbhblemaa", sum := "b8b36cd267d03f02bbda163bb339026d3f235744819a743858fb4063b5816316", func := "loop.example/g01012/laws.FnExactIsName", spec := "fnExactIsName", apart := false, narrowed := true }
def FnExactIsNameUptoSaid : Prop := fnExactIsNameUptoRow.holds Try.pinned (OpenSpec.upto fnExactIsNameSpec)

/-- 'laws.FnExactRankOf', WHERE WHAT IT READS IS OF BULK AT MOST 1048576: true; the input reads as it did. -/
def fnExactRankOfUptoRow : OpenClaim := { program := "yteemjmlbhblemaa", sum := "b8b36cd267d03f02bbda163bb339026d3f235744819a743858fb4063b5816316", func := "loop.example/g01012/laws.FnExactRankOf", spec := "fnExactRankOf", inPlace := ["internal/bytealg.IndexByteString"], apart := false, narrowed := true }
def FnExactRankOfUptoSaid : Prop := fnExactRankOfUptoRow.holds Try.pinned (OpenSpec.upto fnExactRankOfSpec)

/-- 'laws.FnExactBitOf', WHERE WHAT IT READS IS OF BULK AT MOST 1048576: true; the input reads as it did. -/
def fnExactBitOfUptoRow : OpenClaim := { program := "yteemjmlbhblemaa", sum := "b8b36cd267d03f02bbda163bb339026d3f235744819a743858fb4063b5816316", func := "loop.example/g01012/laws.FnExactBitOf", spec := "fnExactBitOf", apart := false, narrowed := true }
def FnExactBitOfUptoSaid : Prop := fnExactBitOfUptoRow.holds Try.pinned (OpenSpec.upto fnExactBitOfSpec)

/-- 'laws.FnExactBlankCard', WHERE WHAT IT READS IS OF BULK AT MOST 1048576: true; the input reads as it did. -/
def fnExactBlankCardUptoRow : OpenClaim := { program := "yteemjmlbhblemaa", sum := "b8b36cd267d03f02bbda163bb339026d3f235744819a743858fb4063b5816316", func := "loop.example/g01012/laws.FnExactBlankCard", spec := "fnExactBlankCard", apart := false, narrowed := true }
def FnExactBlankCardUptoSaid : Prop := fnExactBlankCardUptoRow.holds Try.pinned (OpenSpec.upto fnExactBlankCardSpec)

/-- 'laws.FnExactSameCard', WHERE WHAT IT READS IS OF BULK AT MOST 1048576: true; the input reads as it did. -/
def fnExactSameCardUptoRow : OpenClaim := { program := "yteemjmlbhblemaa", sum := "b8b36cd267d03f02bbda163bb339026d3f235744819a743858fb4063b5816316", func := "loop.example/g01012/laws.FnExactSameCard", spec := "fnExactSameCard", apart := false, narrowed := true }
def FnExactSameCardUptoSaid : Prop := fnExactSameCardUptoRow.holds Try.pinned (OpenSpec.upto fnExactSameCardSpec)

/-- 'laws.FnExactValidCard', WHERE WHAT IT READS IS OF BULK AT MOST 1048576: true; the input reads as it did. -/
def fnExactValidCardUptoRow : OpenClaim := { program := "yteemjmlbhblemaa", sum := "b8b36cd267d03f02bbda163bb339026d3f235744819a743858fb4063b5816316", func := "loop.example/g01012/laws.FnExactValidCard", spec := "fnExactValidCard", unfollowed := true, recurses := true, apart := false, narrowed := true }
def FnExactValidCardUptoSaid : Prop := fnExactValidCardUptoRow.holds Try.pinned (OpenSpec.upto fnExactValidCardSpec)

/-- 'laws.FnExactCodeOf', WHERE WHAT IT READS IS OF BULK AT MOST 1048576: true; the input reads as it did. -/
def fnExactCodeOfUptoRow : OpenClaim := { program := "yteemjmlbhblemaa", sum := "b8b36cd267d03f02bbda163bb339026d3f235744819a743858fb4063b5816316", func := "loop.example/g01012/laws.FnExactCodeOf", spec := "fnExactCodeOf", apart := false, narrowed := true }
def FnExactCodeOfUptoSaid : Prop := fnExactCodeOfUptoRow.holds Try.pinned (OpenSpec.upto fnExactCodeOfSpec)

/-- 'laws.FnExactCharOf', WHERE WHAT IT READS IS OF BULK AT MOST 1048576: true; the input reads as it did. -/
def fnExactCharOfUptoRow : OpenClaim := { program := "yteemjmlbhblemaa", sum := "b8b36cd267d03f02bbda163bb339026d3f235744819a743858fb4063b5816316", func := "loop.example/g01012/laws.FnExactCharOf", spec := "fnExactCharOf", apart := false, narrowed := true }
def FnExactCharOfUptoSaid : Prop := fnExactCharOfUptoRow.holds Try.pinned (OpenSpec.upto fnExactCharOfSpec)

/-- 'laws.FnExactSameLayout', WHERE WHAT IT READS IS OF BULK AT MOST 1048576: true; the input reads as it did. -/
def fnExactSameLayoutUptoRow : OpenClaim := { program := "yteemjmlbhblemaa", sum := "b8b36cd267d03f02bbda163bb339026d3f235744819a743858fb4063b5816316", func := "loop.example/g01012/laws.FnExactSameLayout", spec := "fnExactSameLayout", apart := false, narrowed := true }
def FnExactSameLayoutUptoSaid : Prop := fnExactSameLayoutUptoRow.holds Try.pinned (OpenSpec.upto fnExactSameLayoutSpec)

end Rows
end Go.Proofs.Yteemjmlbhblemaa
