/-
  No cell of these rows narrows 'for every input' (looked for: loops, veiled, ifaces, maps, wideKeys, modest, calm, conditions, laid).
  DERIVED. THE GIVEN ROWS OF THIS SEAT. 12 by the template 'for every input the law returns true; each argument reads behind the call as it read before'; 0 by the template 'total and deterministic' (their statements: YtfegimjikmonhaaTotals.lean).
  GIVEN WITH THE SEED: the statements are not yours to turn. If you find one false, say at which input.
  Laid BY PROGRAM, IN A SANDBOX (cutbox-rows.mjs): the forced cells as the released guide's own fill.sh prints them over the translation 91913cdd1b5a2429… (all of the seat's roots in one cut). By AI agents, Wed Nov 11 2026. No macro, syntax, notation, axiom, sorry.
-/
import Derived.Test.YtfegimjikmonhaaChecked
import GoSem.Claim
import GoSem.ClaimJoined
import GoSem.ClaimMapViews
import Derived.JoinedTies
import Derived.KernelRfl
namespace Go.Proofs.Ytfegimjikmonhaa
/- THE CELL 'sum', in the pinned program and in every row, IS THE sha256 OF THE DUMP (.gsa) THAT YtfegimjikmonhaaProg.lean LOADS. Nothing in Lean hashes anything: it is a label: what it is worth is what the hold of that sum in a sandbox is worth. -/
noncomputable def Try.pinned : Pinned := { name := "ytfegimjikmonhaa", sum := "91913cdd1b5a2429ae00e28db4fc2b0c021314125fab9948076fcfbbede93ec2", checked := Try.checked }
namespace Rows
def none {H : Type} : Left H := { results := [], args := [] }

/-- 'laws.FnExactHasHole': WHATEVER THE INPUT: true; the input reads as it did. -/
def fnExactHasHoleSpec : ChangeSpec := { name := "fnExactHasHole", fn := fun _ => fun
  | [d1, d2, d3] => { results := [.lit (.bool true)], args := [d1, d2, d3] }
  | _ => none }
def fnExactHasHoleRow : OpenClaim := { program := "ytfegimjikmonhaa", sum := "91913cdd1b5a2429ae00e28db4fc2b0c021314125fab9948076fcfbbede93ec2", func := "loop.example/g01012/laws.FnExactHasHole", spec := "fnExactHasHole", unfollowed := true, recurses := true, apart := false }
def FnExactHasHoleSaid : Prop := fnExactHasHoleRow.holds Try.pinned (OpenSpec.ofChange fnExactHasHoleSpec)

/-- ITS FALSE NEIGHBOUR: 'it returns false'. Refute it at one input. -/
def fnExactHasHoleWrong : ChangeSpec := { name := "fnExactHasHole", fn := fun _ => fun
  | [d1, d2, d3] => { results := [.lit (.bool false)], args := [d1, d2, d3] }
  | _ => none }
def FnExactHasHoleWrongFalsely : Prop := fnExactHasHoleRow.holds Try.pinned (OpenSpec.ofChange fnExactHasHoleWrong)

/-- 'laws.FnExactCountHoles': WHATEVER THE INPUT: true; the input reads as it did. -/
def fnExactCountHolesSpec : ChangeSpec := { name := "fnExactCountHoles", fn := fun _ => fun
  | [d] => { results := [.lit (.bool true)], args := [d] }
  | _ => none }
def fnExactCountHolesRow : OpenClaim := { program := "ytfegimjikmonhaa", sum := "91913cdd1b5a2429ae00e28db4fc2b0c021314125fab9948076fcfbbede93ec2", func := "loop.example/g01012/laws.FnExactCountHoles", spec := "fnExactCountHoles", unfollowed := true, recurses := true, apart := false }
def FnExactCountHolesSaid : Prop := fnExactCountHolesRow.holds Try.pinned (OpenSpec.ofChange fnExactCountHolesSpec)

/-- ITS FALSE NEIGHBOUR: 'it returns false'. Refute it at one input. -/
def fnExactCountHolesWrong : ChangeSpec := { name := "fnExactCountHoles", fn := fun _ => fun
  | [d] => { results := [.lit (.bool false)], args := [d] }
  | _ => none }
def FnExactCountHolesWrongFalsely : Prop := fnExactCountHolesRow.holds Try.pinned (OpenSpec.ofChange fnExactCountHolesWrong)

/-- 'laws.FnExactOverlay': WHATEVER THE INPUT: true; the input reads as it did. -/
def fnExactOverlaySpec : ChangeSpec := { name := "fnExactOverlay", fn := fun _ => fun
  | [d1, d2] => { results := [.lit (.bool true)], args := [d1, d2] }
  | _ => none }
def fnExactOverlayRow : OpenClaim := { program := "ytfegimjikmonhaa", sum := "91913cdd1b5a2429ae00e28db4fc2b0c021314125fab9948076fcfbbede93ec2", func := "loop.example/g01012/laws.FnExactOverlay", spec := "fnExactOverlay", unfollowed := true, recurses := true, apart := false }
def FnExactOverlaySaid : Prop := fnExactOverlayRow.holds Try.pinned (OpenSpec.ofChange fnExactOverlaySpec)

/-- ITS FALSE NEIGHBOUR: 'it returns false'. Refute it at one input. -/
def fnExactOverlayWrong : ChangeSpec := { name := "fnExactOverlay", fn := fun _ => fun
  | [d1, d2] => { results := [.lit (.bool false)], args := [d1, d2] }
  | _ => none }
def FnExactOverlayWrongFalsely : Prop := fnExactOverlayRow.holds Try.pinned (OpenSpec.ofChange fnExactOverlayWrong)

/-- 'laws.FnExactPartOf': WHATEVER THE INPUT: true; the input reads as it did. -/
def fnExactPartOfSpec : ChangeSpec := { name := "fnExactPartOf", fn := fun _ => fun
  | [d1, d2] => { results := [.lit (.bool true)], args := [d1, d2] }
  | _ => none }
def fnExactPartOfRow : OpenClaim := { program := "ytfegimjikmonhaa", sum := "91913cdd1b5a2429ae00e28db4fc2b0c021314125fab9948076fcfbbede93ec2", func := "loop.example/g01012/laws.FnExactPartOf", spec := "fnExactPartOf", unfollowed := true, recurses := true, apart := false }
def FnExactPartOfSaid : Prop := fnExactPartOfRow.holds Try.pinned (OpenSpec.ofChange fnExactPartOfSpec)

/-- ITS FALSE NEIGHBOUR: 'it returns false'. Refute it at one input. -/
def fnExactPartOfWrong : ChangeSpec := { name := "fnExactPartOf", fn := fun _ => fun
  | [d1, d2] => { results := [.lit (.bool false)], args := [d1, d2] }
  | _ => none }
def FnExactPartOfWrongFalsely : Prop := fnExactPartOfRow.holds Try.pinned (OpenSpec.ofChange fnExactPartOfWrong)

/-- 'laws.FnExactCardPicture': WHATEVER THE INPUT: true; the input reads as it did. -/
def fnExactCardPictureSpec : ChangeSpec := { name := "fnExactCardPicture", fn := fun _ => fun
  | [d] => { results := [.lit (.bool true)], args := [d] }
  | _ => none }
def fnExactCardPictureRow : OpenClaim := { program := "ytfegimjikmonhaa", sum := "91913cdd1b5a2429ae00e28db4fc2b0c021314125fab9948076fcfbbede93ec2", func := "loop.example/g01012/laws.FnExactCardPicture", spec := "fnExactCardPicture", unfollowed := true, recurses := true, apart := false }
def FnExactCardPictureSaid : Prop := fnExactCardPictureRow.holds Try.pinned (OpenSpec.ofChange fnExactCardPictureSpec)

/-- ITS FALSE NEIGHBOUR: 'it returns false'. Refute it at one input. -/
def fnExactCardPictureWrong : ChangeSpec := { name := "fnExactCardPicture", fn := fun _ => fun
  | [d] => { results := [.lit (.bool false)], args := [d] }
  | _ => none }
def FnExactCardPictureWrongFalsely : Prop := fnExactCardPictureRow.holds Try.pinned (OpenSpec.ofChange fnExactCardPictureWrong)

/-- 'laws.FnExactPunchHole': WHATEVER THE INPUT: true; the input reads as it did. -/
def fnExactPunchHoleSpec : ChangeSpec := { name := "fnExactPunchHole", fn := fun _ => fun
  | [d1, d2, d3] => { results := [.lit (.bool true)], args := [d1, d2, d3] }
  | _ => none }
def fnExactPunchHoleRow : OpenClaim := { program := "ytfegimjikmonhaa", sum := "91913cdd1b5a2429ae00e28db4fc2b0c021314125fab9948076fcfbbede93ec2", func := "loop.example/g01012/laws.FnExactPunchHole", spec := "fnExactPunchHole", unfollowed := true, recurses := true, apart := false }
def FnExactPunchHoleSaid : Prop := fnExactPunchHoleRow.holds Try.pinned (OpenSpec.ofChange fnExactPunchHoleSpec)

/-- ITS FALSE NEIGHBOUR: 'it returns false'. Refute it at one input. -/
def fnExactPunchHoleWrong : ChangeSpec := { name := "fnExactPunchHole", fn := fun _ => fun
  | [d1, d2, d3] => { results := [.lit (.bool false)], args := [d1, d2, d3] }
  | _ => none }
def FnExactPunchHoleWrongFalsely : Prop := fnExactPunchHoleRow.holds Try.pinned (OpenSpec.ofChange fnExactPunchHoleWrong)

/-- 'laws.FnExactIsBlankField': WHATEVER THE INPUT: true; the input reads as it did. -/
def fnExactIsBlankFieldSpec : ChangeSpec := { name := "fnExactIsBlankField", fn := fun _ => fun
  | [d1, d2] => { results := [.lit (.bool true)], args := [d1, d2] }
  | _ => none }
def fnExactIsBlankFieldRow : OpenClaim := { program := "ytfegimjikmonhaa", sum := "91913cdd1b5a2429ae00e28db4fc2b0c021314125fab9948076fcfbbede93ec2", func := "loop.example/g01012/laws.FnExactIsBlankField", spec := "fnExactIsBlankField", unfollowed := true, recurses := true, apart := false }
def FnExactIsBlankFieldSaid : Prop := fnExactIsBlankFieldRow.holds Try.pinned (OpenSpec.ofChange fnExactIsBlankFieldSpec)

/-- ITS FALSE NEIGHBOUR: 'it returns false'. Refute it at one input. -/
def fnExactIsBlankFieldWrong : ChangeSpec := { name := "fnExactIsBlankField", fn := fun _ => fun
  | [d1, d2] => { results := [.lit (.bool false)], args := [d1, d2] }
  | _ => none }
def FnExactIsBlankFieldWrongFalsely : Prop := fnExactIsBlankFieldRow.holds Try.pinned (OpenSpec.ofChange fnExactIsBlankFieldWrong)

/-- 'laws.FnExactValidDeck': WHATEVER THE INPUT: true; the input reads as it did. -/
def fnExactValidDeckSpec : ChangeSpec := { name := "fnExactValidDeck", fn := fun _ => fun
  | [d] => { results := [.lit (.bool true)], args := [d] }
  | _ => none }
def fnExactValidDeckRow : OpenClaim := { program := "ytfegimjikmonhaa", sum := "91913cdd1b5a2429ae00e28db4fc2b0c021314125fab9948076fcfbbede93ec2", func := "loop.example/g01012/laws.FnExactValidDeck", spec := "fnExactValidDeck", unfollowed := true, recurses := true, apart := false }
def FnExactValidDeckSaid : Prop := fnExactValidDeckRow.holds Try.pinned (OpenSpec.ofChange fnExactValidDeckSpec)

/-- ITS FALSE NEIGHBOUR: 'it returns false'. Refute it at one input. -/
def fnExactValidDeckWrong : ChangeSpec := { name := "fnExactValidDeck", fn := fun _ => fun
  | [d] => { results := [.lit (.bool false)], args := [d] }
  | _ => none }
def FnExactValidDeckWrongFalsely : Prop := fnExactValidDeckRow.holds Try.pinned (OpenSpec.ofChange fnExactValidDeckWrong)

/-- 'laws.FnExactSameDeck': WHATEVER THE INPUT: true; the input reads as it did. -/
def fnExactSameDeckSpec : ChangeSpec := { name := "fnExactSameDeck", fn := fun _ => fun
  | [d1, d2] => { results := [.lit (.bool true)], args := [d1, d2] }
  | _ => none }
def fnExactSameDeckRow : OpenClaim := { program := "ytfegimjikmonhaa", sum := "91913cdd1b5a2429ae00e28db4fc2b0c021314125fab9948076fcfbbede93ec2", func := "loop.example/g01012/laws.FnExactSameDeck", spec := "fnExactSameDeck", unfollowed := true, recurses := true, apart := false }
def FnExactSameDeckSaid : Prop := fnExactSameDeckRow.holds Try.pinned (OpenSpec.ofChange fnExactSameDeckSpec)

/-- ITS FALSE NEIGHBOUR: 'it returns false'. Refute it at one input. -/
def fnExactSameDeckWrong : ChangeSpec := { name := "fnExactSameDeck", fn := fun _ => fun
  | [d1, d2] => { results := [.lit (.bool false)], args := [d1, d2] }
  | _ => none }
def FnExactSameDeckWrongFalsely : Prop := fnExactSameDeckRow.holds Try.pinned (OpenSpec.ofChange fnExactSameDeckWrong)

/-- 'laws.FnExactPunchText': WHATEVER THE INPUT: true; the input reads as it did. -/
def fnExactPunchTextSpec : ChangeSpec := { name := "fnExactPunchText", fn := fun _ => fun
  | [d1, d2] => { results := [.lit (.bool true)], args := [d1, d2] }
  | _ => none }
def fnExactPunchTextRow : OpenClaim := { program := "ytfegimjikmonhaa", sum := "91913cdd1b5a2429ae00e28db4fc2b0c021314125fab9948076fcfbbede93ec2", func := "loop.example/g01012/laws.FnExactPunchText", spec := "fnExactPunchText", inPlace := ["internal/bytealg.IndexByteString"], apart := false }
def FnExactPunchTextSaid : Prop := fnExactPunchTextRow.holds Try.pinned (OpenSpec.ofChange fnExactPunchTextSpec)

/-- ITS FALSE NEIGHBOUR: 'it returns false'. Refute it at one input. -/
def fnExactPunchTextWrong : ChangeSpec := { name := "fnExactPunchText", fn := fun _ => fun
  | [d1, d2] => { results := [.lit (.bool false)], args := [d1, d2] }
  | _ => none }
def FnExactPunchTextWrongFalsely : Prop := fnExactPunchTextRow.holds Try.pinned (OpenSpec.ofChange fnExactPunchTextWrong)

/-- 'laws.FnExactReadText': WHATEVER THE INPUT: true; the input reads as it did. -/
def fnExactReadTextSpec : ChangeSpec := { name := "fnExactReadText", fn := fun _ => fun
  | [d] => { results := [.lit (.bool true)], args := [d] }
  | _ => none }
def fnExactReadTextRow : OpenClaim := { program := "ytfegimjikmonhaa", sum := "91913cdd1b5a2429ae00e28db4fc2b0c021314125fab9948076fcfbbede93ec2", func := "loop.example/g01012/laws.FnExactReadText", spec := "fnExactReadText", unfollowed := true, recurses := true, apart := false }
def FnExactReadTextSaid : Prop := fnExactReadTextRow.holds Try.pinned (OpenSpec.ofChange fnExactReadTextSpec)

/-- ITS FALSE NEIGHBOUR: 'it returns false'. Refute it at one input. -/
def fnExactReadTextWrong : ChangeSpec := { name := "fnExactReadText", fn := fun _ => fun
  | [d] => { results := [.lit (.bool false)], args := [d] }
  | _ => none }
def FnExactReadTextWrongFalsely : Prop := fnExactReadTextRow.holds Try.pinned (OpenSpec.ofChange fnExactReadTextWrong)

/-- 'laws.FnExactIllegalColumns': WHATEVER THE INPUT: true; the input reads as it did. -/
def fnExactIllegalColumnsSpec : ChangeSpec := { name := "fnExactIllegalColumns", fn := fun _ => fun
  | [d] => { results := [.lit (.bool true)], args := [d] }
  | _ => none }
def fnExactIllegalColumnsRow : OpenClaim := { program := "ytfegimjikmonhaa", sum := "91913cdd1b5a2429ae00e28db4fc2b0c021314125fab9948076fcfbbede93ec2", func := "loop.example/g01012/laws.FnExactIllegalColumns", spec := "fnExactIllegalColumns", unfollowed := true, recurses := true, apart := false }
def FnExactIllegalColumnsSaid : Prop := fnExactIllegalColumnsRow.holds Try.pinned (OpenSpec.ofChange fnExactIllegalColumnsSpec)

/-- ITS FALSE NEIGHBOUR: 'it returns false'. Refute it at one input. -/
def fnExactIllegalColumnsWrong : ChangeSpec := { name := "fnExactIllegalColumns", fn := fun _ => fun
  | [d] => { results := [.lit (.bool false)], args := [d] }
  | _ => none }
def FnExactIllegalColumnsWrongFalsely : Prop := fnExactIllegalColumnsRow.holds Try.pinned (OpenSpec.ofChange fnExactIllegalColumnsWrong)

/- THE SECOND FORM. 'bulk': how many values and letters a reading holds, each counted each time it is reached (what is shared counts as often as it is met; a slice's spare places count too). A statement '..UptoSaid' is the law's where the arguments, and the package variables that the reading takes, are together of bulk at most 1048576: NARROWER than '..Said'. Prove '..Said' where nothing that the law and all that it calls make is longer than what came in: it says more and counts as full. Else prove '..UptoSaid'. A law counts once. -/
mutual
def uptoBulk {H : Type} : DataW H → Nat
  | .lit (.string bytes) => bytes.length + 1
  | .lit _ => 1
  | .nil => 1
  | .ptr d => uptoBulk d + 1
  | .slice elems spare => uptoBulkAll elems + uptoBulkAll spare + 1
  | .agg parts => uptoBulkAll parts + 1
  | .iface _ d => uptoBulk d + 1
  | .map entries => uptoBulkEntries entries + 1
  | .held _ => 1
def uptoBulkAll {H : Type} : List (DataW H) → Nat
  | [] => 0
  | d :: r => uptoBulk d + uptoBulkAll r
def uptoBulkEntries {H : Type} : List (Lit × DataW H) → Nat
  | [] => 0
  | x :: r => uptoBulkEntry x + uptoBulkEntries r
def uptoBulkEntry {H : Type} : Lit × DataW H → Nat
  | (.string bytes, d) => bytes.length + uptoBulk d + 1
  | (_, d) => uptoBulk d + 1
 end
def uptoSmall : (H : Type) → List (DataW H) → Bool := fun _ ds => decide (uptoBulkAll ds ≤ 1048576)
def OpenSpec.upto (s : _root_.Go.ChangeSpec) : _root_.Go.OpenSpec := { _root_.Go.OpenSpec.ofChange s with cond := some uptoSmall }

/-- 'laws.FnExactHasHole', WHERE WHAT IT READS IS OF BULK AT MOST 1048576: true; the input reads as it did. -/
def fnExactHasHoleUptoRow : OpenClaim := { program := "ytfegimjikmonhaa", sum := "91913cdd1b5a2429ae00e28db4fc2b0c021314125fab9948076fcfbbede93ec2", func := "loop.example/g01012/laws.FnExactHasHole", spec := "fnExactHasHole", unfollowed := true, recurses := true, apart := false, narrowed := true }
def FnExactHasHoleUptoSaid : Prop := fnExactHasHoleUptoRow.holds Try.pinned (OpenSpec.upto fnExactHasHoleSpec)

/-- 'laws.FnExactCountHoles', WHERE WHAT IT READS IS OF BULK AT MOST 1048576: true; the input reads as it did. -/
def fnExactCountHolesUptoRow : OpenClaim := { program := "ytfegimjikmonhaa", sum := "91913cdd1b5a2429ae00e28db4fc2b0c021314125fab9948076fcfbbede93ec2", func := "loop.example/g01012/laws.FnExactCountHoles", spec := "fnExactCountHoles", unfollowed := true, recurses := true, apart := false, narrowed := true }
def FnExactCountHolesUptoSaid : Prop := fnExactCountHolesUptoRow.holds Try.pinned (OpenSpec.upto fnExactCountHolesSpec)

/-- 'laws.FnExactOverlay', WHERE WHAT IT READS IS OF BULK AT MOST 1048576: true; the input reads as it did. -/
def fnExactOverlayUptoRow : OpenClaim := { program := "ytfegimjikmonhaa", sum := "91913cdd1b5a2429ae00e28db4fc2b0c021314125fab9948076fcfbbede93ec2", func := "loop.example/g01012/laws.FnExactOverlay", spec := "fnExactOverlay", unfollowed := true, recurses := true, apart := false, narrowed := true }
def FnExactOverlayUptoSaid : Prop := fnExactOverlayUptoRow.holds Try.pinned (OpenSpec.upto fnExactOverlaySpec)

/-- 'laws.FnExactPartOf', WHERE WHAT IT READS IS OF BULK AT MOST 1048576: true; the input reads as it did. -/
def fnExactPartOfUptoRow : OpenClaim := { program := "ytfegimjikmonhaa", sum := "91913cdd1b5a2429ae00e28db4fc2b0c021314125fab9948076fcfbbede93ec2", func := "loop.example/g01012/laws.FnExactPartOf", spec := "fnExactPartOf", unfollowed := true, recurses := true, apart := false, narrowed := true }
def FnExactPartOfUptoSaid : Prop := fnExactPartOfUptoRow.holds Try.pinned (OpenSpec.upto fnExactPartOfSpec)

/-- 'laws.FnExactCardPicture', WHERE WHAT IT READS IS OF BULK AT MOST 1048576: true; the input reads as it did. -/
def fnExactCardPictureUptoRow : OpenClaim := { program := "ytfegimjikmonhaa", sum := "91913cdd1b5a2429ae00e28db4fc2b0c021314125fab9948076fcfbbede93ec2", func := "loop.example/g01012/laws.FnExactCardPicture", spec := "fnExactCardPicture", unfollowed := true, recurses := true, apart := false, narrowed := true }
def FnExactCardPictureUptoSaid : Prop := fnExactCardPictureUptoRow.holds Try.pinned (OpenSpec.upto fnExactCardPictureSpec)

/-- 'laws.FnExactPunchHole', WHERE WHAT IT READS IS OF BULK AT MOST 1048576: true; the input reads as it did. -/
def fnExactPunchHoleUptoRow : OpenClaim := { program := "ytfegimjikmonhaa", sum := "91913cdd1b5a2429ae00e28db4fc2b0c021314125fab9948076fcfbbede93ec2", func := "loop.example/g01012/laws.FnExactPunchHole", spec := "fnExactPunchHole", unfollowed := true, recurses := true, apart := false, narrowed := true }
def FnExactPunchHoleUptoSaid : Prop := fnExactPunchHoleUptoRow.holds Try.pinned (OpenSpec.upto fnExactPunchHoleSpec)

/-- 'laws.FnExactIsBlankField', WHERE WHAT IT READS IS OF BULK AT MOST 1048576: true; the input reads as it did. -/
def fnExactIsBlankFieldUptoRow : OpenClaim := { program := "ytfegimjikmonhaa", sum := "91913cdd1b5a2429ae00e28db4fc2b0c021314125fab9948076fcfbbede93ec2", func := "loop.example/g01012/laws.FnExactIsBlankField", spec := "fnExactIsBlankField", unfollowed := true, recurses := true, apart := false, narrowed := true }
def FnExactIsBlankFieldUptoSaid : Prop := fnExactIsBlankFieldUptoRow.holds Try.pinned (OpenSpec.upto fnExactIsBlankFieldSpec)

/-- 'laws.FnExactValidDeck', WHERE WHAT IT READS IS OF BULK AT MOST 1048576: true; the input reads as it did. -/
def fnExactValidDeckUptoRow : OpenClaim := { program := "ytfegimjikmonhaa", sum := "91913cdd1b5a2429ae00e28db4fc2b0c021314125fab9948076fcfbbede93ec2", func := "loop.example/g01012/laws.FnExactValidDeck", spec := "fnExactValidDeck", unfollowed := true, recurses := true, apart := false, narrowed := true }
def FnExactValidDeckUptoSaid : Prop := fnExactValidDeckUptoRow.holds Try.pinned (OpenSpec.upto fnExactValidDeckSpec)

/-- 'laws.FnExactSameDeck', WHERE WHAT IT READS IS OF BULK AT MOST 1048576: true; the input reads as it did. -/
def fnExactSameDeckUptoRow : OpenClaim := { program := "ytfegimjikmonhaa", sum := "91913cdd1b5a2429ae00e28db4fc2b0c021314125fab9948076fcfbbede93ec2", func := "loop.example/g01012/laws.FnExactSameDeck", spec := "fnExactSameDeck", unfollowed := true, recurses := true, apart := false, narrowed := true }
def FnExactSameDeckUptoSaid : Prop := fnExactSameDeckUptoRow.holds Try.pinned (OpenSpec.upto fnExactSameDeckSpec)

/-- 'laws.FnExactPunchText', WHERE WHAT IT READS IS OF BULK AT MOST 1048576: true; the input reads as it did. -/
def fnExactPunchTextUptoRow : OpenClaim := { program := "ytfegimjikmonhaa", sum := "91913cdd1b5a2429ae00e28db4fc2b0c021314125fab9948076fcfbbede93ec2", func := "loop.example/g01012/laws.FnExactPunchText", spec := "fnExactPunchText", inPlace := ["internal/bytealg.IndexByteString"], apart := false, narrowed := true }
def FnExactPunchTextUptoSaid : Prop := fnExactPunchTextUptoRow.holds Try.pinned (OpenSpec.upto fnExactPunchTextSpec)

/-- 'laws.FnExactReadText', WHERE WHAT IT READS IS OF BULK AT MOST 1048576: true; the input reads as it did. -/
def fnExactReadTextUptoRow : OpenClaim := { program := "ytfegimjikmonhaa", sum := "91913cdd1b5a2429ae00e28db4fc2b0c021314125fab9948076fcfbbede93ec2", func := "loop.example/g01012/laws.FnExactReadText", spec := "fnExactReadText", unfollowed := true, recurses := true, apart := false, narrowed := true }
def FnExactReadTextUptoSaid : Prop := fnExactReadTextUptoRow.holds Try.pinned (OpenSpec.upto fnExactReadTextSpec)

/-- 'laws.FnExactIllegalColumns', WHERE WHAT IT READS IS OF BULK AT MOST 1048576: true; the input reads as it did. -/
def fnExactIllegalColumnsUptoRow : OpenClaim := { program := "ytfegimjikmonhaa", sum := "91913cdd1b5a2429ae00e28db4fc2b0c021314125fab9948076fcfbbede93ec2", func := "loop.example/g01012/laws.FnExactIllegalColumns", spec := "fnExactIllegalColumns", unfollowed := true, recurses := true, apart := false, narrowed := true }
def FnExactIllegalColumnsUptoSaid : Prop := fnExactIllegalColumnsUptoRow.holds Try.pinned (OpenSpec.upto fnExactIllegalColumnsSpec)

end Rows
end Go.Proofs.Ytfegimjikmonhaa
