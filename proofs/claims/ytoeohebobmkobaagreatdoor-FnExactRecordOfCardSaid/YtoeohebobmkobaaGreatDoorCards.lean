/-
  DERIVED. GIVEN WITH THE SEED: THE CARDS: each row of YtoeohebobmkobaaGreatDoorRows.lean that lists a variable, with what it lists TIED to the program's text (the seventh form; the later family's looks); each row that meets fmt, with fmt's text TOLD by the authors' own Lean function (tested against real Go, not proved from fmt's source: count such statements apart). THE CARD IS WHAT COUNTS. Prove the row's statement (the work); the ties are given (YtoeohebobmkobaaGreatDoorTie.lean); close each card by the builder's one call (the guide's Derived/Test/ToyasCard.lean, 'card_holds'). Laid BY PROGRAM, IN A SANDBOX (cutbox-door.mjs). By AI agents, Wed Nov 11 2026. No macro, syntax, notation, axiom, sorry.
-/
import Derived.Test.YtoeohebobmkobaaGreatDoorRows
import GoSem.ClaimSeven
namespace Go.Proofs.YtoeohebobmkobaaGreatDoor
namespace Rows

/-- THE TIED CARD OF 'laws.FnExactCountValue'. -/
def fnExactCountValueCard : Claim7 := { stood := { row := fnExactCountValueRow, standIns := [], harness := (true, "bf096b28379c415c3db09d44e02de9f83e97cb30b8708c6e72c03038934adb1f"), looks := true }, kinds := [], alts := [], laidByText := true, laidKinds := [.data, .data, .data, .data, .pinned], laidTests := true, laidLooks := .later }
def FnExactCountValueCardSaid : Prop := Claim7.holds Tryz.pinned (.plain (OpenSpec.ofChange fnExactCountValueSpec)) fnExactCountValueCard

/-- THE TIED CARD OF 'laws.FnExactRecordOf'. -/
def fnExactRecordOfCard : Claim7 := { stood := { row := fnExactRecordOfRow, standIns := [], harness := (true, "bf096b28379c415c3db09d44e02de9f83e97cb30b8708c6e72c03038934adb1f"), looks := true }, kinds := [], alts := [], laidByText := true, laidKinds := [.data, .data, .data, .data, .pinned], laidTests := true, laidLooks := .later }
def FnExactRecordOfCardSaid : Prop := Claim7.holds Tryz.pinned (.plain (OpenSpec.ofChange fnExactRecordOfSpec)) fnExactRecordOfCard

/-- THE TIED CARD OF 'laws.FnExactCardFor'. -/
def fnExactCardForCard : Claim7 := { stood := { row := fnExactCardForRow, standIns := [], harness := (true, "bf096b28379c415c3db09d44e02de9f83e97cb30b8708c6e72c03038934adb1f"), looks := true }, kinds := [], alts := [], laidByText := true, laidKinds := [.data, .data, .data, .sentinel, .sentinel], laidTests := true, laidLooks := .later }
def FnExactCardForCardSaid : Prop := Claim7.holds Tryz.pinned (.plain (OpenSpec.ofChange fnExactCardForSpec)) fnExactCardForCard

/-- THE TIED CARD OF 'laws.FnExactChangeItem'. -/
def fnExactChangeItemCard : Claim7 := { stood := { row := fnExactChangeItemRow, standIns := [], harness := (true, "bf096b28379c415c3db09d44e02de9f83e97cb30b8708c6e72c03038934adb1f"), looks := true }, kinds := [], alts := [], laidByText := true, laidKinds := [.data, .data, .data, .sentinel, .sentinel], laidTests := true, laidLooks := .later }
def FnExactChangeItemCardSaid : Prop := Claim7.holds Tryz.pinned (.plain (OpenSpec.ofChange fnExactChangeItemSpec)) fnExactChangeItemCard

/-- THE SECOND FORM's CARD OF 'laws.FnExactCountValue'. -/
def fnExactCountValueUptoCard : Claim7 := { stood := { row := fnExactCountValueUptoRow, standIns := [], harness := (true, "bf096b28379c415c3db09d44e02de9f83e97cb30b8708c6e72c03038934adb1f"), looks := true }, kinds := [], alts := [], laidByText := true, laidKinds := [.data, .data, .data, .data, .pinned], laidTests := true, laidLooks := .later }
def FnExactCountValueUptoCardSaid : Prop := Claim7.holds Tryz.pinned (.plain (OpenSpec.upto fnExactCountValueSpec)) fnExactCountValueUptoCard

/-- THE SECOND FORM's CARD OF 'laws.FnExactRecordOf'. -/
def fnExactRecordOfUptoCard : Claim7 := { stood := { row := fnExactRecordOfUptoRow, standIns := [], harness := (true, "bf096b28379c415c3db09d44e02de9f83e97cb30b8708c6e72c03038934adb1f"), looks := true }, kinds := [], alts := [], laidByText := true, laidKinds := [.data, .data, .data, .data, .pinned], laidTests := true, laidLooks := .later }
def FnExactRecordOfUptoCardSaid : Prop := Claim7.holds Tryz.pinned (.plain (OpenSpec.upto fnExactRecordOfSpec)) fnExactRecordOfUptoCard

/-- THE SECOND FORM's CARD OF 'laws.FnExactCardFor'. -/
def fnExactCardForUptoCard : Claim7 := { stood := { row := fnExactCardForUptoRow, standIns := [], harness := (true, "bf096b28379c415c3db09d44e02de9f83e97cb30b8708c6e72c03038934adb1f"), looks := true }, kinds := [], alts := [], laidByText := true, laidKinds := [.data, .data, .data, .sentinel, .sentinel], laidTests := true, laidLooks := .later }
def FnExactCardForUptoCardSaid : Prop := Claim7.holds Tryz.pinned (.plain (OpenSpec.upto fnExactCardForSpec)) fnExactCardForUptoCard

/-- THE SECOND FORM's CARD OF 'laws.FnExactChangeItem'. -/
def fnExactChangeItemUptoCard : Claim7 := { stood := { row := fnExactChangeItemUptoRow, standIns := [], harness := (true, "bf096b28379c415c3db09d44e02de9f83e97cb30b8708c6e72c03038934adb1f"), looks := true }, kinds := [], alts := [], laidByText := true, laidKinds := [.data, .data, .data, .sentinel, .sentinel], laidTests := true, laidLooks := .later }
def FnExactChangeItemUptoCardSaid : Prop := Claim7.holds Tryz.pinned (.plain (OpenSpec.upto fnExactChangeItemSpec)) fnExactChangeItemUptoCard
end Rows
end Go.Proofs.YtoeohebobmkobaaGreatDoor
