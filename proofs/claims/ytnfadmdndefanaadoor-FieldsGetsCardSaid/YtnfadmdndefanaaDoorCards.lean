/-
  DERIVED. GIVEN WITH THE SEED: THE CARDS: each row of YtnfadmdndefanaaDoorRows.lean that lists a variable, with what it lists TIED to the program's text (the seventh form; the later family's looks); each row that meets fmt, with fmt's text TOLD by the authors' own Lean function (tested against real Go, not proved from fmt's source: count such statements apart). THE CARD IS WHAT COUNTS. Prove the row's statement (the work); the ties are given (YtnfadmdndefanaaDoorTie.lean); close each card by the builder's one call (the guide's Derived/Test/ToyasCard.lean, 'card_holds'). Laid BY PROGRAM, IN A SANDBOX (cutbox-door.mjs). By AI agents, Wed Nov 11 2026. No macro, syntax, notation, axiom, sorry.
-/
import Derived.Test.YtnfadmdndefanaaDoorRows
import GoSem.ClaimSeven
namespace Go.Proofs.YtnfadmdndefanaaDoor
namespace Rows

/-- THE TIED CARD OF 'gazetteerlaw21.LinesTakes'. -/
def linesTakesCard : Claim7 := { stood := { row := linesTakesRow, standIns := [], harness := (true, "f7061483a7b68e1875864d807ca959ee06f02f65579c877df9f99e4b6b635fe3"), looks := true }, kinds := [], alts := [], laidByText := true, laidKinds := [.data, .pinned], laidTests := true, laidLooks := .later }
def LinesTakesCardSaid : Prop := Claim7.holds Tryd.pinned (.plain (OpenSpec.ofChange linesTakesSpec)) linesTakesCard

/-- THE TIED CARD OF 'gazetteerlaw21.LinesHeads'. -/
def linesHeadsCard : Claim7 := { stood := { row := linesHeadsRow, standIns := [], harness := (true, "f7061483a7b68e1875864d807ca959ee06f02f65579c877df9f99e4b6b635fe3"), looks := true }, kinds := [], alts := [], laidByText := true, laidKinds := [.data, .pinned], laidTests := true, laidLooks := .later }
def LinesHeadsCardSaid : Prop := Claim7.holds Tryd.pinned (.plain (OpenSpec.ofChange linesHeadsSpec)) linesHeadsCard

/-- THE TIED CARD OF 'gazetteerlaw21.LinesBack'. -/
def linesBackCard : Claim7 := { stood := { row := linesBackRow, standIns := [], harness := (true, "f7061483a7b68e1875864d807ca959ee06f02f65579c877df9f99e4b6b635fe3"), looks := true }, kinds := [], alts := [], laidByText := true, laidKinds := [.data, .pinned], laidTests := true, laidLooks := .later }
def LinesBackCardSaid : Prop := Claim7.holds Tryd.pinned (.plain (OpenSpec.ofChange linesBackSpec)) linesBackCard

/-- THE TIED CARD OF 'gazetteerlaw21.LinesWords'. -/
def linesWordsCard : Claim7 := { stood := { row := linesWordsRow, standIns := [], harness := (true, "f7061483a7b68e1875864d807ca959ee06f02f65579c877df9f99e4b6b635fe3"), looks := true }, kinds := [], alts := [], laidByText := true, laidKinds := [.data, .pinned], laidTests := true, laidLooks := .later }
def LinesWordsCardSaid : Prop := Claim7.holds Tryd.pinned (.plain (OpenSpec.ofChange linesWordsSpec)) linesWordsCard

/-- THE TIED CARD OF 'gazetteerlaw21.LinesLong'. -/
def linesLongCard : Claim7 := { stood := { row := linesLongRow, standIns := [], harness := (true, "f7061483a7b68e1875864d807ca959ee06f02f65579c877df9f99e4b6b635fe3"), looks := true }, kinds := [], alts := [], laidByText := true, laidKinds := [.data, .pinned], laidTests := true, laidLooks := .later }
def LinesLongCardSaid : Prop := Claim7.holds Tryd.pinned (.plain (OpenSpec.ofChange linesLongSpec)) linesLongCard

/-- THE TIED CARD OF 'gazetteerlaw23.StatusTells'. -/
def statusTellsCard : Claim7 := { stood := { row := statusTellsRow, standIns := [], harness := (true, "f7061483a7b68e1875864d807ca959ee06f02f65579c877df9f99e4b6b635fe3"), looks := true }, kinds := [], alts := [], laidByText := true, laidKinds := [.data, .data, .data, .data, .sentinel, .sentinel, .pinned], laidTests := true, laidLooks := .later }
def StatusTellsCardSaid : Prop := Claim7.holds Tryd.pinned (.plain (OpenSpec.ofChange statusTellsSpec)) statusTellsCard

/-- THE TIED CARD OF 'gazetteerlaw23.StatusBack'. -/
def statusBackCard : Claim7 := { stood := { row := statusBackRow, standIns := [], harness := (true, "f7061483a7b68e1875864d807ca959ee06f02f65579c877df9f99e4b6b635fe3"), looks := true }, kinds := [], alts := [], laidByText := true, laidKinds := [.data, .data, .data, .data, .sentinel, .sentinel, .pinned], laidTests := true, laidLooks := .later }
def StatusBackCardSaid : Prop := Claim7.holds Tryd.pinned (.plain (OpenSpec.ofChange statusBackSpec)) statusBackCard

/-- THE TIED CARD OF 'gazetteerlaw22.FieldsGets'. -/
def fieldsGetsCard : Claim7 := { stood := { row := fieldsGetsRow, standIns := [], harness := (true, "f7061483a7b68e1875864d807ca959ee06f02f65579c877df9f99e4b6b635fe3"), looks := true }, kinds := [], alts := [], laidByText := true, laidKinds := [.data, .data, .data, .data, .sentinel, .sentinel, .pinned], laidTests := true, laidLooks := .later }
def FieldsGetsCardSaid : Prop := Claim7.holds Tryd.pinned (.plain (OpenSpec.ofChange fieldsGetsSpec)) fieldsGetsCard

/-- THE TIED CARD OF 'gazetteerlaw22.FieldsNumbers'. -/
def fieldsNumbersCard : Claim7 := { stood := { row := fieldsNumbersRow, standIns := [], harness := (true, "f7061483a7b68e1875864d807ca959ee06f02f65579c877df9f99e4b6b635fe3"), looks := true }, kinds := [], alts := [], laidByText := true, laidKinds := [.data, .data, .data, .data, .sentinel, .sentinel, .pinned], laidTests := true, laidLooks := .later }
def FieldsNumbersCardSaid : Prop := Claim7.holds Tryd.pinned (.plain (OpenSpec.ofChange fieldsNumbersSpec)) fieldsNumbersCard

/-- THE SECOND FORM's CARD OF 'gazetteerlaw21.LinesTakes'. -/
def linesTakesUptoCard : Claim7 := { stood := { row := linesTakesUptoRow, standIns := [], harness := (true, "f7061483a7b68e1875864d807ca959ee06f02f65579c877df9f99e4b6b635fe3"), looks := true }, kinds := [], alts := [], laidByText := true, laidKinds := [.data, .pinned], laidTests := true, laidLooks := .later }
def LinesTakesUptoCardSaid : Prop := Claim7.holds Tryd.pinned (.plain (OpenSpec.upto linesTakesSpec)) linesTakesUptoCard

/-- THE SECOND FORM's CARD OF 'gazetteerlaw21.LinesHeads'. -/
def linesHeadsUptoCard : Claim7 := { stood := { row := linesHeadsUptoRow, standIns := [], harness := (true, "f7061483a7b68e1875864d807ca959ee06f02f65579c877df9f99e4b6b635fe3"), looks := true }, kinds := [], alts := [], laidByText := true, laidKinds := [.data, .pinned], laidTests := true, laidLooks := .later }
def LinesHeadsUptoCardSaid : Prop := Claim7.holds Tryd.pinned (.plain (OpenSpec.upto linesHeadsSpec)) linesHeadsUptoCard

/-- THE SECOND FORM's CARD OF 'gazetteerlaw21.LinesBack'. -/
def linesBackUptoCard : Claim7 := { stood := { row := linesBackUptoRow, standIns := [], harness := (true, "f7061483a7b68e1875864d807ca959ee06f02f65579c877df9f99e4b6b635fe3"), looks := true }, kinds := [], alts := [], laidByText := true, laidKinds := [.data, .pinned], laidTests := true, laidLooks := .later }
def LinesBackUptoCardSaid : Prop := Claim7.holds Tryd.pinned (.plain (OpenSpec.upto linesBackSpec)) linesBackUptoCard

/-- THE SECOND FORM's CARD OF 'gazetteerlaw21.LinesWords'. -/
def linesWordsUptoCard : Claim7 := { stood := { row := linesWordsUptoRow, standIns := [], harness := (true, "f7061483a7b68e1875864d807ca959ee06f02f65579c877df9f99e4b6b635fe3"), looks := true }, kinds := [], alts := [], laidByText := true, laidKinds := [.data, .pinned], laidTests := true, laidLooks := .later }
def LinesWordsUptoCardSaid : Prop := Claim7.holds Tryd.pinned (.plain (OpenSpec.upto linesWordsSpec)) linesWordsUptoCard

/-- THE SECOND FORM's CARD OF 'gazetteerlaw21.LinesLong'. -/
def linesLongUptoCard : Claim7 := { stood := { row := linesLongUptoRow, standIns := [], harness := (true, "f7061483a7b68e1875864d807ca959ee06f02f65579c877df9f99e4b6b635fe3"), looks := true }, kinds := [], alts := [], laidByText := true, laidKinds := [.data, .pinned], laidTests := true, laidLooks := .later }
def LinesLongUptoCardSaid : Prop := Claim7.holds Tryd.pinned (.plain (OpenSpec.upto linesLongSpec)) linesLongUptoCard

/-- THE SECOND FORM's CARD OF 'gazetteerlaw23.StatusTells'. -/
def statusTellsUptoCard : Claim7 := { stood := { row := statusTellsUptoRow, standIns := [], harness := (true, "f7061483a7b68e1875864d807ca959ee06f02f65579c877df9f99e4b6b635fe3"), looks := true }, kinds := [], alts := [], laidByText := true, laidKinds := [.data, .data, .data, .data, .sentinel, .sentinel, .pinned], laidTests := true, laidLooks := .later }
def StatusTellsUptoCardSaid : Prop := Claim7.holds Tryd.pinned (.plain (OpenSpec.upto statusTellsSpec)) statusTellsUptoCard

/-- THE SECOND FORM's CARD OF 'gazetteerlaw23.StatusBack'. -/
def statusBackUptoCard : Claim7 := { stood := { row := statusBackUptoRow, standIns := [], harness := (true, "f7061483a7b68e1875864d807ca959ee06f02f65579c877df9f99e4b6b635fe3"), looks := true }, kinds := [], alts := [], laidByText := true, laidKinds := [.data, .data, .data, .data, .sentinel, .sentinel, .pinned], laidTests := true, laidLooks := .later }
def StatusBackUptoCardSaid : Prop := Claim7.holds Tryd.pinned (.plain (OpenSpec.upto statusBackSpec)) statusBackUptoCard

/-- THE SECOND FORM's CARD OF 'gazetteerlaw22.FieldsGets'. -/
def fieldsGetsUptoCard : Claim7 := { stood := { row := fieldsGetsUptoRow, standIns := [], harness := (true, "f7061483a7b68e1875864d807ca959ee06f02f65579c877df9f99e4b6b635fe3"), looks := true }, kinds := [], alts := [], laidByText := true, laidKinds := [.data, .data, .data, .data, .sentinel, .sentinel, .pinned], laidTests := true, laidLooks := .later }
def FieldsGetsUptoCardSaid : Prop := Claim7.holds Tryd.pinned (.plain (OpenSpec.upto fieldsGetsSpec)) fieldsGetsUptoCard

/-- THE SECOND FORM's CARD OF 'gazetteerlaw22.FieldsNumbers'. -/
def fieldsNumbersUptoCard : Claim7 := { stood := { row := fieldsNumbersUptoRow, standIns := [], harness := (true, "f7061483a7b68e1875864d807ca959ee06f02f65579c877df9f99e4b6b635fe3"), looks := true }, kinds := [], alts := [], laidByText := true, laidKinds := [.data, .data, .data, .data, .sentinel, .sentinel, .pinned], laidTests := true, laidLooks := .later }
def FieldsNumbersUptoCardSaid : Prop := Claim7.holds Tryd.pinned (.plain (OpenSpec.upto fieldsNumbersSpec)) fieldsNumbersUptoCard
end Rows
end Go.Proofs.YtnfadmdndefanaaDoor
