/-
  DERIVED. GIVEN WITH THE SEED: THE CARDS: each row of YtdjggbccdjbcoaaDoorRows.lean that lists a variable, with what it lists TIED to the program's text (the seventh form; the later family's looks); each row that meets fmt, with fmt's text TOLD by the authors' own Lean function (tested against real Go, not proved from fmt's source: count such statements apart). THE CARD IS WHAT COUNTS. Prove the row's statement (the work); the ties are given (YtdjggbccdjbcoaaDoorTie.lean); close each card by the builder's one call (the guide's Derived/Test/ToyasCard.lean, 'card_holds'). Laid BY PROGRAM, IN A SANDBOX (cutbox-door.mjs). By AI agents, Wed Nov 11 2026. No macro, syntax, notation, axiom, sorry.
-/
import Derived.Test.YtdjggbccdjbcoaaDoorRows
import GoSem.ClaimSeven
namespace Go.Proofs.YtdjggbccdjbcoaaDoor
namespace Rows

/-- THE TIED CARD OF 'laws.FnExactCodeName'. -/
def fnExactCodeNameCard : Claim7 := { stood := { row := fnExactCodeNameRow, standIns := [], harness := (true, "b54c8361ab5faf107b6447d7e2522fdcca16132d82e48ca0c72936ff8bad5a55"), looks := false }, kinds := [], alts := [], laidByText := true, laidKinds := [.data], laidTests := true, laidLooks := .later }
def FnExactCodeNameCardSaid : Prop := Claim7.holds Tryd.pinned (.plain (OpenSpec.ofChange fnExactCodeNameSpec)) fnExactCodeNameCard

/-- THE TIED CARD OF 'laws.FnExactSplitWords'. -/
def fnExactSplitWordsCard : Claim7 := { stood := { row := fnExactSplitWordsRow, standIns := [], harness := (true, "b54c8361ab5faf107b6447d7e2522fdcca16132d82e48ca0c72936ff8bad5a55"), looks := false }, kinds := [], alts := [], laidByText := true, laidKinds := [.data, .pinned], laidTests := true, laidLooks := .later }
def FnExactSplitWordsCardSaid : Prop := Claim7.holds Tryd.pinned (.plain (OpenSpec.ofChange fnExactSplitWordsSpec)) fnExactSplitWordsCard

/-- THE TIED CARD OF 'laws.FnExactDecimal'. -/
def fnExactDecimalCard : Claim7 := { stood := { row := fnExactDecimalRow, standIns := [], harness := (true, "b54c8361ab5faf107b6447d7e2522fdcca16132d82e48ca0c72936ff8bad5a55"), looks := false }, kinds := [], alts := [], laidByText := true, laidKinds := [.data, .data, .data], laidTests := true, laidLooks := .later }
def FnExactDecimalCardSaid : Prop := Claim7.holds Tryd.pinned (.plain (OpenSpec.ofChange fnExactDecimalSpec)) fnExactDecimalCard

/-- THE SECOND FORM's CARD OF 'laws.FnExactCodeName'. -/
def fnExactCodeNameUptoCard : Claim7 := { stood := { row := fnExactCodeNameUptoRow, standIns := [], harness := (true, "b54c8361ab5faf107b6447d7e2522fdcca16132d82e48ca0c72936ff8bad5a55"), looks := false }, kinds := [], alts := [], laidByText := true, laidKinds := [.data], laidTests := true, laidLooks := .later }
def FnExactCodeNameUptoCardSaid : Prop := Claim7.holds Tryd.pinned (.plain (OpenSpec.upto fnExactCodeNameSpec)) fnExactCodeNameUptoCard

/-- THE SECOND FORM's CARD OF 'laws.FnExactSplitWords'. -/
def fnExactSplitWordsUptoCard : Claim7 := { stood := { row := fnExactSplitWordsUptoRow, standIns := [], harness := (true, "b54c8361ab5faf107b6447d7e2522fdcca16132d82e48ca0c72936ff8bad5a55"), looks := false }, kinds := [], alts := [], laidByText := true, laidKinds := [.data, .pinned], laidTests := true, laidLooks := .later }
def FnExactSplitWordsUptoCardSaid : Prop := Claim7.holds Tryd.pinned (.plain (OpenSpec.upto fnExactSplitWordsSpec)) fnExactSplitWordsUptoCard

/-- THE SECOND FORM's CARD OF 'laws.FnExactDecimal'. -/
def fnExactDecimalUptoCard : Claim7 := { stood := { row := fnExactDecimalUptoRow, standIns := [], harness := (true, "b54c8361ab5faf107b6447d7e2522fdcca16132d82e48ca0c72936ff8bad5a55"), looks := false }, kinds := [], alts := [], laidByText := true, laidKinds := [.data, .data, .data], laidTests := true, laidLooks := .later }
def FnExactDecimalUptoCardSaid : Prop := Claim7.holds Tryd.pinned (.plain (OpenSpec.upto fnExactDecimalSpec)) fnExactDecimalUptoCard
end Rows
end Go.Proofs.YtdjggbccdjbcoaaDoor
