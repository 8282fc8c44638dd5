/-
  No cell of these rows narrows 'for every input' (looked for: loops, veiled, ifaces, maps, wideKeys, modest, calm, conditions, laid).
  DERIVED. THE GIVEN ROWS OF THIS SEAT. 5 by the template 'for every input the law returns true; each argument reads behind the call as it read before'; 0 by the template 'total and deterministic' (their statements: YtoeohebobmkobaaTotals.lean).
  GIVEN WITH THE SEED: the statements are not yours to turn. If you find one false, say at which input.
  Laid BY PROGRAM, IN A SANDBOX (cutbox-rows.mjs): the forced cells as the released guide's own fill.sh prints them over the translation 104c68b69664da2c… (all of the seat's roots in one cut). By AI agents, Wed Nov 11 2026. No macro, syntax, notation, axiom, sorry.
-/
import Derived.Test.YtoeohebobmkobaaChecked
import GoSem.Claim
import GoSem.ClaimJoined
import GoSem.ClaimMapViews
import Derived.JoinedTies
import Derived.KernelRfl
namespace Go.Proofs.Ytoeohebobmkobaa
/- THE CELL 'sum', in the pinned program and in every row, IS THE sha256 OF THE DUMP (.gsa) THAT YtoeohebobmkobaaProg.lean LOADS. Nothing in Lean hashes anything: it is a label: what it is worth is what the hold of that sum in a sandbox is worth. -/
noncomputable def Try.pinned : Pinned := { name := "ytoeohebobmkobaa", sum := "104c68b69664da2cda014333f9fa682442cfce2f767dc3d2e88de5e367330ea4", checked := Try.checked }
namespace Rows
def none {H : Type} : Left H := { results := [], args := [] }

/-- 'laws.FnExactKeysFor': WHATEVER THE INPUT: true; the input reads as it did. -/
def fnExactKeysForSpec : ChangeSpec := { name := "fnExactKeysFor", fn := fun _ => fun
  | [d1, d2, d3] => { results := [.lit (.bool true)], args := [d1, d2, d3] }
  | _ => none }
def fnExactKeysForRow : OpenClaim := { program := "ytoeohebobmkobaa", sum := "104c68b69664da2cda014333f9fa682442cfce2f767dc3d2e88de5e367330ea4", func := "loop.example/g01012/laws.FnExactKeysFor", spec := "fnExactKeysFor", inPlace := ["internal/bytealg.CountString", "internal/bytealg.IndexByteString", "internal/bytealg.IndexString"], unfollowed := true, recurses := true, named := ["internal/bytealg.MaxLen"], apart := false }
def FnExactKeysForSaid : Prop := fnExactKeysForRow.holds Try.pinned (OpenSpec.ofChange fnExactKeysForSpec)

/-- ITS FALSE NEIGHBOUR: 'it returns false'. Refute it at one input. -/
def fnExactKeysForWrong : ChangeSpec := { name := "fnExactKeysFor", fn := fun _ => fun
  | [d1, d2, d3] => { results := [.lit (.bool false)], args := [d1, d2, d3] }
  | _ => none }
def FnExactKeysForWrongFalsely : Prop := fnExactKeysForRow.holds Try.pinned (OpenSpec.ofChange fnExactKeysForWrong)

/-- 'laws.FnExactVerifyCard': WHATEVER THE INPUT: true; the input reads as it did. -/
def fnExactVerifyCardSpec : ChangeSpec := { name := "fnExactVerifyCard", fn := fun _ => fun
  | [d1, d2, d3, d4] => { results := [.lit (.bool true)], args := [d1, d2, d3, d4] }
  | _ => none }
def fnExactVerifyCardRow : OpenClaim := { program := "ytoeohebobmkobaa", sum := "104c68b69664da2cda014333f9fa682442cfce2f767dc3d2e88de5e367330ea4", func := "loop.example/g01012/laws.FnExactVerifyCard", spec := "fnExactVerifyCard", inPlace := ["internal/bytealg.CountString", "internal/bytealg.IndexByteString", "internal/bytealg.IndexString"], unfollowed := true, recurses := true, named := ["internal/bytealg.MaxLen"], apart := false }
def FnExactVerifyCardSaid : Prop := fnExactVerifyCardRow.holds Try.pinned (OpenSpec.ofChange fnExactVerifyCardSpec)

/-- ITS FALSE NEIGHBOUR: 'it returns false'. Refute it at one input. -/
def fnExactVerifyCardWrong : ChangeSpec := { name := "fnExactVerifyCard", fn := fun _ => fun
  | [d1, d2, d3, d4] => { results := [.lit (.bool false)], args := [d1, d2, d3, d4] }
  | _ => none }
def FnExactVerifyCardWrongFalsely : Prop := fnExactVerifyCardRow.holds Try.pinned (OpenSpec.ofChange fnExactVerifyCardWrong)

/-- 'laws.FnExactPunchByProgram': WHATEVER THE INPUT: true; the input reads as it did. -/
def fnExactPunchByProgramSpec : ChangeSpec := { name := "fnExactPunchByProgram", fn := fun _ => fun
  | [d1, d2, d3] => { results := [.lit (.bool true)], args := [d1, d2, d3] }
  | _ => none }
def fnExactPunchByProgramRow : OpenClaim := { program := "ytoeohebobmkobaa", sum := "104c68b69664da2cda014333f9fa682442cfce2f767dc3d2e88de5e367330ea4", func := "loop.example/g01012/laws.FnExactPunchByProgram", spec := "fnExactPunchByProgram", inPlace := ["internal/bytealg.CountString", "internal/bytealg.IndexByteString", "internal/bytealg.IndexString"], unfollowed := true, recurses := true, named := ["internal/bytealg.MaxLen"], apart := false }
def FnExactPunchByProgramSaid : Prop := fnExactPunchByProgramRow.holds Try.pinned (OpenSpec.ofChange fnExactPunchByProgramSpec)

/-- ITS FALSE NEIGHBOUR: 'it returns false'. Refute it at one input. -/
def fnExactPunchByProgramWrong : ChangeSpec := { name := "fnExactPunchByProgram", fn := fun _ => fun
  | [d1, d2, d3] => { results := [.lit (.bool false)], args := [d1, d2, d3] }
  | _ => none }
def FnExactPunchByProgramWrongFalsely : Prop := fnExactPunchByProgramRow.holds Try.pinned (OpenSpec.ofChange fnExactPunchByProgramWrong)

/-- 'laws.FnExactPunchAll': WHATEVER THE INPUT: true; the input reads as it did. -/
def fnExactPunchAllSpec : ChangeSpec := { name := "fnExactPunchAll", fn := fun _ => fun
  | [d1, d2, d3] => { results := [.lit (.bool true)], args := [d1, d2, d3] }
  | _ => none }
def fnExactPunchAllRow : OpenClaim := { program := "ytoeohebobmkobaa", sum := "104c68b69664da2cda014333f9fa682442cfce2f767dc3d2e88de5e367330ea4", func := "loop.example/g01012/laws.FnExactPunchAll", spec := "fnExactPunchAll", inPlace := ["internal/bytealg.CountString", "internal/bytealg.IndexByteString", "internal/bytealg.IndexString"], unfollowed := true, recurses := true, named := ["internal/bytealg.MaxLen"], apart := false }
def FnExactPunchAllSaid : Prop := fnExactPunchAllRow.holds Try.pinned (OpenSpec.ofChange fnExactPunchAllSpec)

/-- ITS FALSE NEIGHBOUR: 'it returns false'. Refute it at one input. -/
def fnExactPunchAllWrong : ChangeSpec := { name := "fnExactPunchAll", fn := fun _ => fun
  | [d1, d2, d3] => { results := [.lit (.bool false)], args := [d1, d2, d3] }
  | _ => none }
def FnExactPunchAllWrongFalsely : Prop := fnExactPunchAllRow.holds Try.pinned (OpenSpec.ofChange fnExactPunchAllWrong)

/-- 'laws.FnExactItemTotal': WHATEVER THE INPUT: true; the input reads as it did. -/
def fnExactItemTotalSpec : ChangeSpec := { name := "fnExactItemTotal", fn := fun _ => fun
  | [d1, d2, d3] => { results := [.lit (.bool true)], args := [d1, d2, d3] }
  | _ => none }
def fnExactItemTotalRow : OpenClaim := { program := "ytoeohebobmkobaa", sum := "104c68b69664da2cda014333f9fa682442cfce2f767dc3d2e88de5e367330ea4", func := "loop.example/g01012/laws.FnExactItemTotal", spec := "fnExactItemTotal", unfollowed := true, recurses := true, apart := false }
def FnExactItemTotalSaid : Prop := fnExactItemTotalRow.holds Try.pinned (OpenSpec.ofChange fnExactItemTotalSpec)

/-- ITS FALSE NEIGHBOUR: 'it returns false'. Refute it at one input. -/
def fnExactItemTotalWrong : ChangeSpec := { name := "fnExactItemTotal", fn := fun _ => fun
  | [d1, d2, d3] => { results := [.lit (.bool false)], args := [d1, d2, d3] }
  | _ => none }
def FnExactItemTotalWrongFalsely : Prop := fnExactItemTotalRow.holds Try.pinned (OpenSpec.ofChange fnExactItemTotalWrong)

/- THE SECOND FORM. 'bulk': how many values and letters a reading holds, each counted each time it is reached (what is shared counts as often as it is met; a slice's spare places count too). A statement '..UptoSaid' is the law's where the arguments, and the package variables that the reading takes, are together of bulk at most 1048576: NARROWER than '..Said'. Prove '..Said' where nothing that the law and all that it calls make is longer than what came in: it says more and counts as full. Else prove '..UptoSaid'. A law counts once. -/
mutual
def uptoBulk {H : Type} : DataW H → Nat
  | .lit (.string bytes) => bytes.length + 1
  | .lit _ => 1
  | .nil => 1
  | .ptr d => uptoBulk d + 1
  | .slice elems spare => uptoBulkAll elems + uptoBulkAll spare + 1
  | .agg parts => uptoBulkAll parts + 1
  | .iface _ d => uptoBulk d + 1
  | .map entries => uptoBulkEntries entries + 1
  | .held _ => 1
def uptoBulkAll {H : Type} : List (DataW H) → Nat
  | [] => 0
  | d :: r => uptoBulk d + uptoBulkAll r
def uptoBulkEntries {H : Type} : List (Lit × DataW H) → Nat
  | [] => 0
  | x :: r => uptoBulkEntry x + uptoBulkEntries r
def uptoBulkEntry {H : Type} : Lit × DataW H → Nat
  | (.string bytes, d) => bytes.length + uptoBulk d + 1
  | (_, d) => uptoBulk d + 1
 end
def uptoSmall : (H : Type) → List (DataW H) → Bool := fun _ ds => decide (uptoBulkAll ds ≤ 1048576)
def OpenSpec.upto (s : _root_.Go.ChangeSpec) : _root_.Go.OpenSpec := { _root_.Go.OpenSpec.ofChange s with cond := some uptoSmall }

/-- 'laws.FnExactKeysFor', WHERE WHAT IT READS IS OF BULK AT MOST 1048576: true; the input reads as it did. -/
def fnExactKeysForUptoRow : OpenClaim := { program := "ytoeohebobmkobaa", sum := "104c68b69664da2cda014333f9fa682442cfce2f767dc3d2e88de5e367330ea4", func := "loop.example/g01012/laws.FnExactKeysFor", spec := "fnExactKeysFor", inPlace := ["internal/bytealg.CountString", "internal/bytealg.IndexByteString", "internal/bytealg.IndexString"], unfollowed := true, recurses := true, named := ["internal/bytealg.MaxLen"], apart := false, narrowed := true }
def FnExactKeysForUptoSaid : Prop := fnExactKeysForUptoRow.holds Try.pinned (OpenSpec.upto fnExactKeysForSpec)

/-- 'laws.FnExactVerifyCard', WHERE WHAT IT READS IS OF BULK AT MOST 1048576: true; the input reads as it did. -/
def fnExactVerifyCardUptoRow : OpenClaim := { program := "ytoeohebobmkobaa", sum := "104c68b69664da2cda014333f9fa682442cfce2f767dc3d2e88de5e367330ea4", func := "loop.example/g01012/laws.FnExactVerifyCard", spec := "fnExactVerifyCard", inPlace := ["internal/bytealg.CountString", "internal/bytealg.IndexByteString", "internal/bytealg.IndexString"], unfollowed := true, recurses := true, named := ["internal/bytealg.MaxLen"], apart := false, narrowed := true }
def FnExactVerifyCardUptoSaid : Prop := fnExactVerifyCardUptoRow.holds Try.pinned (OpenSpec.upto fnExactVerifyCardSpec)

/-- 'laws.FnExactPunchByProgram', WHERE WHAT IT READS IS OF BULK AT MOST 1048576: true; the input reads as it did. -/
def fnExactPunchByProgramUptoRow : OpenClaim := { program := "ytoeohebobmkobaa", sum := "104c68b69664da2cda014333f9fa682442cfce2f767dc3d2e88de5e367330ea4", func := "loop.example/g01012/laws.FnExactPunchByProgram", spec := "fnExactPunchByProgram", inPlace := ["internal/bytealg.CountString", "internal/bytealg.IndexByteString", "internal/bytealg.IndexString"], unfollowed := true, recurses := true, named := ["internal/bytealg.MaxLen"], apart := false, narrowed := true }
def FnExactPunchByProgramUptoSaid : Prop := fnExactPunchByProgramUptoRow.holds Try.pinned (OpenSpec.upto fnExactPunchByProgramSpec)

/-- 'laws.FnExactPunchAll', WHERE WHAT IT READS IS OF BULK AT MOST 1048576: true; the input reads as it did. -/
def fnExactPunchAllUptoRow : OpenClaim := { program := "ytoeohebobmkobaa", sum := "104c68b69664da2cda014333f9fa682442cfce2f767dc3d2e88de5e367330ea4", func := "loop.example/g01012/laws.FnExactPunchAll", spec := "fnExactPunchAll", inPlace := ["internal/bytealg.CountString", "internal/bytealg.IndexByteString", "internal/bytealg.IndexString"], unfollowed := true, recurses := true, named := ["internal/bytealg.MaxLen"], apart := false, narrowed := true }
def FnExactPunchAllUptoSaid : Prop := fnExactPunchAllUptoRow.holds Try.pinned (OpenSpec.upto fnExactPunchAllSpec)

/-- 'laws.FnExactItemTotal', WHERE WHAT IT READS IS OF BULK AT MOST 1048576: true; the input reads as it did. -/
def fnExactItemTotalUptoRow : OpenClaim := { program := "ytoeohebobmkobaa", sum := "104c68b69664da2cda014333f9fa682442cfce2f767dc3d2e88de5e367330ea4", func := "loop.example/g01012/laws.FnExactItemTotal", spec := "fnExactItemTotal", unfollowed := true, recurses := true, apart := false, narrowed := true }
def FnExactItemTotalUptoSaid : Prop := fnExactItemTotalUptoRow.holds Try.pinned (OpenSpec.upto fnExactItemTotalSpec)

end Rows
end Go.Proofs.Ytoeohebobmkobaa
