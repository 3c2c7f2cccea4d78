/-
  DERIVED. GIVEN WITH THE SEED: THE CARDS: each row of YtnfadmdndefanaaGreatDoorRows.lean that lists a variable, with what it lists TIED to the program's text (the seventh form; the later family's looks); each row that meets fmt, with fmt's text TOLD by the authors' own Lean function (tested against real Go, not proved from fmt's source: count such statements apart). THE CARD IS WHAT COUNTS. Prove the row's statement (the work); the ties are given (YtnfadmdndefanaaGreatDoorTie.lean); close each card by the builder's one call (the guide's Derived/Test/ToyasCard.lean, 'card_holds'). Laid BY PROGRAM, IN A SANDBOX (cutbox-door.mjs). By AI agents, Wed Nov 11 2026. No macro, syntax, notation, axiom, sorry.
-/
import Derived.Test.YtnfadmdndefanaaGreatDoorRows
import GoSem.ClaimSeven
namespace Go.Proofs.YtnfadmdndefanaaGreatDoor
namespace Rows

/-- THE TIED CARD OF 'gazetteerlaw22.FieldsLines'. -/
def fieldsLinesCard : Claim7 := { stood := { row := fieldsLinesRow, standIns := [], harness := (true, "bd409762a8a7a8741aa5bf2f218b2dd1d2a039316042ed60d45bc9b95b1b9a52"), looks := true }, kinds := [], alts := [], laidByText := true, laidKinds := [.data, .data, .data, .data, .sentinel, .sentinel, .pinned], laidTests := true, laidLooks := .later }
def FieldsLinesCardSaid : Prop := Claim7.holds Tryz.pinned (.plain (OpenSpec.ofChange fieldsLinesSpec)) fieldsLinesCard

/-- THE TIED CARD OF 'gazetteerlaw22.FieldsNames'. -/
def fieldsNamesCard : Claim7 := { stood := { row := fieldsNamesRow, standIns := [], harness := (true, "bd409762a8a7a8741aa5bf2f218b2dd1d2a039316042ed60d45bc9b95b1b9a52"), looks := true }, kinds := [], alts := [], laidByText := true, laidKinds := [.data, .data, .data, .data, .sentinel, .sentinel, .pinned, .pinned], laidTests := true, laidLooks := .later }
def FieldsNamesCardSaid : Prop := Claim7.holds Tryz.pinned (.plain (OpenSpec.ofChange fieldsNamesSpec)) fieldsNamesCard

/-- THE TIED CARD OF 'gazetteerlaw22.FieldsBack'. -/
def fieldsBackCard : Claim7 := { stood := { row := fieldsBackRow, standIns := [], harness := (true, "bd409762a8a7a8741aa5bf2f218b2dd1d2a039316042ed60d45bc9b95b1b9a52"), looks := true }, kinds := [], alts := [], laidByText := true, laidKinds := [.data, .data, .data, .data, .sentinel, .sentinel, .pinned, .pinned], laidTests := true, laidLooks := .later }
def FieldsBackCardSaid : Prop := Claim7.holds Tryz.pinned (.plain (OpenSpec.ofChange fieldsBackSpec)) fieldsBackCard

/-- THE SECOND FORM's CARD OF 'gazetteerlaw22.FieldsLines'. -/
def fieldsLinesUptoCard : Claim7 := { stood := { row := fieldsLinesUptoRow, standIns := [], harness := (true, "bd409762a8a7a8741aa5bf2f218b2dd1d2a039316042ed60d45bc9b95b1b9a52"), looks := true }, kinds := [], alts := [], laidByText := true, laidKinds := [.data, .data, .data, .data, .sentinel, .sentinel, .pinned], laidTests := true, laidLooks := .later }
def FieldsLinesUptoCardSaid : Prop := Claim7.holds Tryz.pinned (.plain (OpenSpec.upto fieldsLinesSpec)) fieldsLinesUptoCard

/-- THE SECOND FORM's CARD OF 'gazetteerlaw22.FieldsNames'. -/
def fieldsNamesUptoCard : Claim7 := { stood := { row := fieldsNamesUptoRow, standIns := [], harness := (true, "bd409762a8a7a8741aa5bf2f218b2dd1d2a039316042ed60d45bc9b95b1b9a52"), looks := true }, kinds := [], alts := [], laidByText := true, laidKinds := [.data, .data, .data, .data, .sentinel, .sentinel, .pinned, .pinned], laidTests := true, laidLooks := .later }
def FieldsNamesUptoCardSaid : Prop := Claim7.holds Tryz.pinned (.plain (OpenSpec.upto fieldsNamesSpec)) fieldsNamesUptoCard

/-- THE SECOND FORM's CARD OF 'gazetteerlaw22.FieldsBack'. -/
def fieldsBackUptoCard : Claim7 := { stood := { row := fieldsBackUptoRow, standIns := [], harness := (true, "bd409762a8a7a8741aa5bf2f218b2dd1d2a039316042ed60d45bc9b95b1b9a52"), looks := true }, kinds := [], alts := [], laidByText := true, laidKinds := [.data, .data, .data, .data, .sentinel, .sentinel, .pinned, .pinned], laidTests := true, laidLooks := .later }
def FieldsBackUptoCardSaid : Prop := Claim7.holds Tryz.pinned (.plain (OpenSpec.upto fieldsBackSpec)) fieldsBackUptoCard
end Rows
end Go.Proofs.YtnfadmdndefanaaGreatDoor
