/-
  DERIVED. GIVEN WITH THE SEED: THE CARDS: each row of YtcbjfgjlhjjpiaaDoorRows.lean that lists a variable, with what it lists TIED to the program's text (the seventh form; the later family's looks); each row that meets fmt, with fmt's text TOLD by the authors' own Lean function (tested against real Go, not proved from fmt's source: count such statements apart). THE CARD IS WHAT COUNTS. Prove the row's statement (the work); the ties are given (YtcbjfgjlhjjpiaaDoorTie.lean); close each card by the builder's one call (the guide's Derived/Test/ToyasCard.lean, 'card_holds'). Laid BY PROGRAM, IN A SANDBOX (cutbox-door.mjs). By AI agents, Wed Nov 11 2026. No macro, syntax, notation, axiom, sorry.
-/
import Derived.Test.YtcbjfgjlhjjpiaaDoorRows
import GoSem.ClaimSeven
namespace Go.Proofs.YtcbjfgjlhjjpiaaDoor
namespace Rows

/-- THE TIED CARD OF 'laws.FnExactProgramRuns'. -/
def fnExactProgramRunsCard : Claim7 := { stood := { row := fnExactProgramRunsRow, standIns := [], harness := (true, "c1dc6d356616b0d034d0a1161a26bda4078f024a5ed51b7c932b99986eff6b82"), looks := true }, kinds := [], alts := [], laidByText := true, laidKinds := [.data, .data, .data], laidTests := true, laidLooks := .later }
def FnExactProgramRunsCardSaid : Prop := Claim7.holds Tryd.pinned (.plain (OpenSpec.ofChange fnExactProgramRunsSpec)) fnExactProgramRunsCard

/-- THE TIED CARD OF 'laws.FnNumbers'. -/
def fnNumbersCard : Claim7 := { stood := { row := fnNumbersRow, standIns := [], harness := (true, "c1dc6d356616b0d034d0a1161a26bda4078f024a5ed51b7c932b99986eff6b82"), looks := true }, kinds := [], alts := [], laidByText := true, laidKinds := [.data, .data, .data], laidTests := true, laidLooks := .later }
def FnNumbersCardSaid : Prop := Claim7.holds Tryd.pinned (.plain (OpenSpec.ofChange fnNumbersSpec)) fnNumbersCard

/-- THE TIED CARD OF 'laws.FnExactLayoutText'. -/
def fnExactLayoutTextCard : Claim7 := { stood := { row := fnExactLayoutTextRow, standIns := [], harness := (true, "c1dc6d356616b0d034d0a1161a26bda4078f024a5ed51b7c932b99986eff6b82"), looks := true }, kinds := [], alts := [], laidByText := true, laidKinds := [.data, .data, .data, .widerDeep], laidTests := true, laidLooks := .later }
def FnExactLayoutTextCardSaid : Prop := Claim7.holds Tryd.pinned (.plain (OpenSpec.ofChange fnExactLayoutTextSpec)) fnExactLayoutTextCard

/-- THE TIED CARD OF 'laws.FnExactReadDecimal'. -/
def fnExactReadDecimalCard : Claim7 := { stood := { row := fnExactReadDecimalRow, standIns := [], harness := (true, "c1dc6d356616b0d034d0a1161a26bda4078f024a5ed51b7c932b99986eff6b82"), looks := true }, kinds := [], alts := [], laidByText := true, laidKinds := [.data, .data, .data, .sentinel, .sentinel], laidTests := true, laidLooks := .later }
def FnExactReadDecimalCardSaid : Prop := Claim7.holds Tryd.pinned (.plain (OpenSpec.ofChange fnExactReadDecimalSpec)) fnExactReadDecimalCard

/-- THE TIED CARD OF 'laws.FnExactReadLayout'. -/
def fnExactReadLayoutCard : Claim7 := { stood := { row := fnExactReadLayoutRow, standIns := [], harness := (true, "c1dc6d356616b0d034d0a1161a26bda4078f024a5ed51b7c932b99986eff6b82"), looks := true }, kinds := [], alts := [], laidByText := true, laidKinds := [.data, .data, .data, .data, .sentinel, .sentinel, .widerDeep, .pinned], laidTests := true, laidLooks := .later }
def FnExactReadLayoutCardSaid : Prop := Claim7.holds Tryd.pinned (.plain (OpenSpec.ofChange fnExactReadLayoutSpec)) fnExactReadLayoutCard

/-- THE SECOND FORM's CARD OF 'laws.FnExactProgramRuns'. -/
def fnExactProgramRunsUptoCard : Claim7 := { stood := { row := fnExactProgramRunsUptoRow, standIns := [], harness := (true, "c1dc6d356616b0d034d0a1161a26bda4078f024a5ed51b7c932b99986eff6b82"), looks := true }, kinds := [], alts := [], laidByText := true, laidKinds := [.data, .data, .data], laidTests := true, laidLooks := .later }
def FnExactProgramRunsUptoCardSaid : Prop := Claim7.holds Tryd.pinned (.plain (OpenSpec.upto fnExactProgramRunsSpec)) fnExactProgramRunsUptoCard

/-- THE SECOND FORM's CARD OF 'laws.FnNumbers'. -/
def fnNumbersUptoCard : Claim7 := { stood := { row := fnNumbersUptoRow, standIns := [], harness := (true, "c1dc6d356616b0d034d0a1161a26bda4078f024a5ed51b7c932b99986eff6b82"), looks := true }, kinds := [], alts := [], laidByText := true, laidKinds := [.data, .data, .data], laidTests := true, laidLooks := .later }
def FnNumbersUptoCardSaid : Prop := Claim7.holds Tryd.pinned (.plain (OpenSpec.upto fnNumbersSpec)) fnNumbersUptoCard

/-- THE SECOND FORM's CARD OF 'laws.FnExactLayoutText'. -/
def fnExactLayoutTextUptoCard : Claim7 := { stood := { row := fnExactLayoutTextUptoRow, standIns := [], harness := (true, "c1dc6d356616b0d034d0a1161a26bda4078f024a5ed51b7c932b99986eff6b82"), looks := true }, kinds := [], alts := [], laidByText := true, laidKinds := [.data, .data, .data, .widerDeep], laidTests := true, laidLooks := .later }
def FnExactLayoutTextUptoCardSaid : Prop := Claim7.holds Tryd.pinned (.plain (OpenSpec.upto fnExactLayoutTextSpec)) fnExactLayoutTextUptoCard

/-- THE SECOND FORM's CARD OF 'laws.FnExactReadDecimal'. -/
def fnExactReadDecimalUptoCard : Claim7 := { stood := { row := fnExactReadDecimalUptoRow, standIns := [], harness := (true, "c1dc6d356616b0d034d0a1161a26bda4078f024a5ed51b7c932b99986eff6b82"), looks := true }, kinds := [], alts := [], laidByText := true, laidKinds := [.data, .data, .data, .sentinel, .sentinel], laidTests := true, laidLooks := .later }
def FnExactReadDecimalUptoCardSaid : Prop := Claim7.holds Tryd.pinned (.plain (OpenSpec.upto fnExactReadDecimalSpec)) fnExactReadDecimalUptoCard

/-- THE SECOND FORM's CARD OF 'laws.FnExactReadLayout'. -/
def fnExactReadLayoutUptoCard : Claim7 := { stood := { row := fnExactReadLayoutUptoRow, standIns := [], harness := (true, "c1dc6d356616b0d034d0a1161a26bda4078f024a5ed51b7c932b99986eff6b82"), looks := true }, kinds := [], alts := [], laidByText := true, laidKinds := [.data, .data, .data, .data, .sentinel, .sentinel, .widerDeep, .pinned], laidTests := true, laidLooks := .later }
def FnExactReadLayoutUptoCardSaid : Prop := Claim7.holds Tryd.pinned (.plain (OpenSpec.upto fnExactReadLayoutSpec)) fnExactReadLayoutUptoCard
end Rows
end Go.Proofs.YtcbjfgjlhjjpiaaDoor
