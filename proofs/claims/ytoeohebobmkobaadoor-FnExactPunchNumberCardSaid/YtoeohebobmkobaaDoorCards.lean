/-
  DERIVED. GIVEN WITH THE SEED: THE CARDS: each row of YtoeohebobmkobaaDoorRows.lean that lists a variable, with what it lists TIED to the program's text (the seventh form; the later family's looks); each row that meets fmt, with fmt's text TOLD by the authors' own Lean function (tested against real Go, not proved from fmt's source: count such statements apart). THE CARD IS WHAT COUNTS. Prove the row's statement (the work); the ties are given (YtoeohebobmkobaaDoorTie.lean); close each card by the builder's one call (the guide's Derived/Test/ToyasCard.lean, 'card_holds'). Laid BY PROGRAM, IN A SANDBOX (cutbox-door.mjs). By AI agents, Wed Nov 11 2026. No macro, syntax, notation, axiom, sorry.
-/
import Derived.Test.YtoeohebobmkobaaDoorRows
import GoSem.ClaimSeven
namespace Go.Proofs.YtoeohebobmkobaaDoor
namespace Rows

/-- THE TIED CARD OF 'laws.FnExactPunchNumber'. -/
def fnExactPunchNumberCard : Claim7 := { stood := { row := fnExactPunchNumberRow, standIns := [], harness := (true, "fdab8b662c3628e19efa12168214880a1edadc03d63dea611a09e445d365b841"), looks := true }, kinds := [], alts := [], laidByText := true, laidKinds := [.data, .data, .data], laidTests := true, laidLooks := .later }
def FnExactPunchNumberCardSaid : Prop := Claim7.holds Tryd.pinned (.plain (OpenSpec.ofChange fnExactPunchNumberSpec)) fnExactPunchNumberCard

/-- THE TIED CARD OF 'laws.FnExactReadDecimal'. -/
def fnExactReadDecimalCard : Claim7 := { stood := { row := fnExactReadDecimalRow, standIns := [], harness := (true, "fdab8b662c3628e19efa12168214880a1edadc03d63dea611a09e445d365b841"), looks := true }, kinds := [], alts := [], laidByText := true, laidKinds := [.data, .data, .data, .sentinel, .sentinel], laidTests := true, laidLooks := .later }
def FnExactReadDecimalCardSaid : Prop := Claim7.holds Tryd.pinned (.plain (OpenSpec.ofChange fnExactReadDecimalSpec)) fnExactReadDecimalCard

/-- THE TIED CARD OF 'laws.FnExactProgramRuns'. -/
def fnExactProgramRunsCard : Claim7 := { stood := { row := fnExactProgramRunsRow, standIns := [], harness := (true, "fdab8b662c3628e19efa12168214880a1edadc03d63dea611a09e445d365b841"), looks := true }, kinds := [], alts := [], laidByText := true, laidKinds := [.data, .data, .data], laidTests := true, laidLooks := .later }
def FnExactProgramRunsCardSaid : Prop := Claim7.holds Tryd.pinned (.plain (OpenSpec.ofChange fnExactProgramRunsSpec)) fnExactProgramRunsCard

/-- THE SECOND FORM's CARD OF 'laws.FnExactPunchNumber'. -/
def fnExactPunchNumberUptoCard : Claim7 := { stood := { row := fnExactPunchNumberUptoRow, standIns := [], harness := (true, "fdab8b662c3628e19efa12168214880a1edadc03d63dea611a09e445d365b841"), looks := true }, kinds := [], alts := [], laidByText := true, laidKinds := [.data, .data, .data], laidTests := true, laidLooks := .later }
def FnExactPunchNumberUptoCardSaid : Prop := Claim7.holds Tryd.pinned (.plain (OpenSpec.upto fnExactPunchNumberSpec)) fnExactPunchNumberUptoCard

/-- THE SECOND FORM's CARD OF 'laws.FnExactReadDecimal'. -/
def fnExactReadDecimalUptoCard : Claim7 := { stood := { row := fnExactReadDecimalUptoRow, standIns := [], harness := (true, "fdab8b662c3628e19efa12168214880a1edadc03d63dea611a09e445d365b841"), looks := true }, kinds := [], alts := [], laidByText := true, laidKinds := [.data, .data, .data, .sentinel, .sentinel], laidTests := true, laidLooks := .later }
def FnExactReadDecimalUptoCardSaid : Prop := Claim7.holds Tryd.pinned (.plain (OpenSpec.upto fnExactReadDecimalSpec)) fnExactReadDecimalUptoCard

/-- THE SECOND FORM's CARD OF 'laws.FnExactProgramRuns'. -/
def fnExactProgramRunsUptoCard : Claim7 := { stood := { row := fnExactProgramRunsUptoRow, standIns := [], harness := (true, "fdab8b662c3628e19efa12168214880a1edadc03d63dea611a09e445d365b841"), looks := true }, kinds := [], alts := [], laidByText := true, laidKinds := [.data, .data, .data], laidTests := true, laidLooks := .later }
def FnExactProgramRunsUptoCardSaid : Prop := Claim7.holds Tryd.pinned (.plain (OpenSpec.upto fnExactProgramRunsSpec)) fnExactProgramRunsUptoCard
end Rows
end Go.Proofs.YtoeohebobmkobaaDoor
