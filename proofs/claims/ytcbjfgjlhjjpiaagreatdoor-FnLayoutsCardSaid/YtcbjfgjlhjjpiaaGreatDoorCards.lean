/-
  DERIVED. GIVEN WITH THE SEED: THE CARDS: each row of YtcbjfgjlhjjpiaaGreatDoorRows.lean that lists a variable, with what it lists TIED to the program's text (the seventh form; the later family's looks); each row that meets fmt, with fmt's text TOLD by the authors' own Lean function (tested against real Go, not proved from fmt's source: count such statements apart). THE CARD IS WHAT COUNTS. Prove the row's statement (the work); the ties are given (YtcbjfgjlhjjpiaaGreatDoorTie.lean); close each card by the builder's one call (the guide's Derived/Test/ToyasCard.lean, 'card_holds'). Laid BY PROGRAM, IN A SANDBOX (cutbox-door.mjs). By AI agents, Wed Nov 11 2026. No macro, syntax, notation, axiom, sorry.
-/
import Derived.Test.YtcbjfgjlhjjpiaaGreatDoorRows
import GoSem.ClaimSeven
namespace Go.Proofs.YtcbjfgjlhjjpiaaGreatDoor
namespace Rows

/-- THE TIED CARD OF 'laws.FnExactChangeItem'. -/
def fnExactChangeItemCard : Claim7 := { stood := { row := fnExactChangeItemRow, standIns := [], harness := (true, "e95ef0dde93da359ca70d7eb426d056c38f5b70d536e106184fcb10effcd690a"), looks := true }, kinds := [], alts := [], laidByText := true, laidKinds := [.data, .data, .data, .sentinel, .sentinel], laidTests := true, laidLooks := .later }
def FnExactChangeItemCardSaid : Prop := Claim7.holds Tryz.pinned (.plain (OpenSpec.ofChange fnExactChangeItemSpec)) fnExactChangeItemCard

/-- THE TIED CARD OF 'laws.FnLayouts'. -/
def fnLayoutsCard : Claim7 := { stood := { row := fnLayoutsRow, standIns := [], harness := (true, "e95ef0dde93da359ca70d7eb426d056c38f5b70d536e106184fcb10effcd690a"), looks := true }, kinds := [], alts := [], laidByText := true, laidKinds := [.data, .data, .data, .data, .pinned], laidTests := true, laidLooks := .later }
def FnLayoutsCardSaid : Prop := Claim7.holds Tryz.pinned (.plain (OpenSpec.ofChange fnLayoutsSpec)) fnLayoutsCard

/-- THE TIED CARD OF 'laws.FnRecords'. -/
def fnRecordsCard : Claim7 := { stood := { row := fnRecordsRow, standIns := [], harness := (true, "e95ef0dde93da359ca70d7eb426d056c38f5b70d536e106184fcb10effcd690a"), looks := true }, kinds := [], alts := [], laidByText := true, laidKinds := [.data, .data, .data, .data, .sentinel, .sentinel, .widerDeep, .pinned], laidTests := true, laidLooks := .later }
def FnRecordsCardSaid : Prop := Claim7.holds Tryz.pinned (.plain (OpenSpec.ofChange fnRecordsSpec)) fnRecordsCard

/-- THE TIED CARD OF 'laws.FnExactCardFor'. -/
def fnExactCardForCard : Claim7 := { stood := { row := fnExactCardForRow, standIns := [], harness := (true, "e95ef0dde93da359ca70d7eb426d056c38f5b70d536e106184fcb10effcd690a"), looks := true }, kinds := [], alts := [], laidByText := true, laidKinds := [.data, .data, .data, .sentinel, .sentinel], laidTests := true, laidLooks := .later }
def FnExactCardForCardSaid : Prop := Claim7.holds Tryz.pinned (.plain (OpenSpec.ofChange fnExactCardForSpec)) fnExactCardForCard

/-- THE SECOND FORM's CARD OF 'laws.FnExactChangeItem'. -/
def fnExactChangeItemUptoCard : Claim7 := { stood := { row := fnExactChangeItemUptoRow, standIns := [], harness := (true, "e95ef0dde93da359ca70d7eb426d056c38f5b70d536e106184fcb10effcd690a"), looks := true }, kinds := [], alts := [], laidByText := true, laidKinds := [.data, .data, .data, .sentinel, .sentinel], laidTests := true, laidLooks := .later }
def FnExactChangeItemUptoCardSaid : Prop := Claim7.holds Tryz.pinned (.plain (OpenSpec.upto fnExactChangeItemSpec)) fnExactChangeItemUptoCard

/-- THE SECOND FORM's CARD OF 'laws.FnLayouts'. -/
def fnLayoutsUptoCard : Claim7 := { stood := { row := fnLayoutsUptoRow, standIns := [], harness := (true, "e95ef0dde93da359ca70d7eb426d056c38f5b70d536e106184fcb10effcd690a"), looks := true }, kinds := [], alts := [], laidByText := true, laidKinds := [.data, .data, .data, .data, .pinned], laidTests := true, laidLooks := .later }
def FnLayoutsUptoCardSaid : Prop := Claim7.holds Tryz.pinned (.plain (OpenSpec.upto fnLayoutsSpec)) fnLayoutsUptoCard

/-- THE SECOND FORM's CARD OF 'laws.FnRecords'. -/
def fnRecordsUptoCard : Claim7 := { stood := { row := fnRecordsUptoRow, standIns := [], harness := (true, "e95ef0dde93da359ca70d7eb426d056c38f5b70d536e106184fcb10effcd690a"), looks := true }, kinds := [], alts := [], laidByText := true, laidKinds := [.data, .data, .data, .data, .sentinel, .sentinel, .widerDeep, .pinned], laidTests := true, laidLooks := .later }
def FnRecordsUptoCardSaid : Prop := Claim7.holds Tryz.pinned (.plain (OpenSpec.upto fnRecordsSpec)) fnRecordsUptoCard

/-- THE SECOND FORM's CARD OF 'laws.FnExactCardFor'. -/
def fnExactCardForUptoCard : Claim7 := { stood := { row := fnExactCardForUptoRow, standIns := [], harness := (true, "e95ef0dde93da359ca70d7eb426d056c38f5b70d536e106184fcb10effcd690a"), looks := true }, kinds := [], alts := [], laidByText := true, laidKinds := [.data, .data, .data, .sentinel, .sentinel], laidTests := true, laidLooks := .later }
def FnExactCardForUptoCardSaid : Prop := Claim7.holds Tryz.pinned (.plain (OpenSpec.upto fnExactCardForSpec)) fnExactCardForUptoCard
end Rows
end Go.Proofs.YtcbjfgjlhjjpiaaGreatDoor
