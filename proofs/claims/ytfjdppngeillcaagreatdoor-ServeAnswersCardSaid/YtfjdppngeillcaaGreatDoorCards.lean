/-
  DERIVED. GIVEN WITH THE SEED: THE CARDS: each row of YtfjdppngeillcaaGreatDoorRows.lean that lists a variable, with what it lists TIED to the program's text (the seventh form; the later family's looks); each row that meets fmt, with fmt's text TOLD by the authors' own Lean function (tested against real Go, not proved from fmt's source: count such statements apart). THE CARD IS WHAT COUNTS. Prove the row's statement (the work); the ties are given (YtfjdppngeillcaaGreatDoorTie.lean); close each card by the builder's one call (the guide's Derived/Test/ToyasCard.lean, 'card_holds'). Laid BY PROGRAM, IN A SANDBOX (cutbox-door.mjs). By AI agents, Wed Nov 11 2026. No macro, syntax, notation, axiom, sorry.
-/
import Derived.Test.YtfjdppngeillcaaGreatDoorRows
import GoSem.ClaimSeven
namespace Go.Proofs.YtfjdppngeillcaaGreatDoor
namespace Rows

/-- THE TIED CARD OF 'gazetteerlaw46.ServeAnswers'. -/
def serveAnswersCard : Claim7 := { stood := { row := serveAnswersRow, standIns := [], harness := (true, "215bed34f1516e24d344d231e255ee153da5d0520dc49f01a22d398f78d9f321"), looks := true }, kinds := [], alts := [], laidByText := true, laidKinds := [.data, .data, .data, .data, .sentinel, .sentinel, .pinned], laidTests := true, laidLooks := .later }
def ServeAnswersCardSaid : Prop := Claim7.holds Tryz.pinned (.plain (OpenSpec.ofChange serveAnswersSpec)) serveAnswersCard

/-- THE TIED CARD OF 'gazetteerlaw46.ServeMany'. -/
def serveManyCard : Claim7 := { stood := { row := serveManyRow, standIns := [], harness := (true, "215bed34f1516e24d344d231e255ee153da5d0520dc49f01a22d398f78d9f321"), looks := true }, kinds := [], alts := [], laidByText := true, laidKinds := [.data, .data, .data, .data, .sentinel, .sentinel, .pinned], laidTests := true, laidLooks := .later }
def ServeManyCardSaid : Prop := Claim7.holds Tryz.pinned (.plain (OpenSpec.ofChange serveManySpec)) serveManyCard

/-- THE TIED CARD OF 'gazetteerlaw46.ServeNobody'. -/
def serveNobodyCard : Claim7 := { stood := { row := serveNobodyRow, standIns := [], harness := (true, "215bed34f1516e24d344d231e255ee153da5d0520dc49f01a22d398f78d9f321"), looks := true }, kinds := [], alts := [], laidByText := true, laidKinds := [.data, .data, .data, .data, .sentinel, .sentinel, .pinned], laidTests := true, laidLooks := .later }
def ServeNobodyCardSaid : Prop := Claim7.holds Tryz.pinned (.plain (OpenSpec.ofChange serveNobodySpec)) serveNobodyCard

/-- THE TIED CARD OF 'gazetteerlaw46.ServePieces'. -/
def servePiecesCard : Claim7 := { stood := { row := servePiecesRow, standIns := [], harness := (true, "215bed34f1516e24d344d231e255ee153da5d0520dc49f01a22d398f78d9f321"), looks := true }, kinds := [], alts := [], laidByText := true, laidKinds := [.data, .data, .data, .data, .sentinel, .sentinel, .pinned], laidTests := true, laidLooks := .later }
def ServePiecesCardSaid : Prop := Claim7.holds Tryz.pinned (.plain (OpenSpec.ofChange servePiecesSpec)) servePiecesCard

/-- THE SECOND FORM's CARD OF 'gazetteerlaw46.ServeAnswers'. -/
def serveAnswersUptoCard : Claim7 := { stood := { row := serveAnswersUptoRow, standIns := [], harness := (true, "215bed34f1516e24d344d231e255ee153da5d0520dc49f01a22d398f78d9f321"), looks := true }, kinds := [], alts := [], laidByText := true, laidKinds := [.data, .data, .data, .data, .sentinel, .sentinel, .pinned], laidTests := true, laidLooks := .later }
def ServeAnswersUptoCardSaid : Prop := Claim7.holds Tryz.pinned (.plain (OpenSpec.upto serveAnswersSpec)) serveAnswersUptoCard

/-- THE SECOND FORM's CARD OF 'gazetteerlaw46.ServeMany'. -/
def serveManyUptoCard : Claim7 := { stood := { row := serveManyUptoRow, standIns := [], harness := (true, "215bed34f1516e24d344d231e255ee153da5d0520dc49f01a22d398f78d9f321"), looks := true }, kinds := [], alts := [], laidByText := true, laidKinds := [.data, .data, .data, .data, .sentinel, .sentinel, .pinned], laidTests := true, laidLooks := .later }
def ServeManyUptoCardSaid : Prop := Claim7.holds Tryz.pinned (.plain (OpenSpec.upto serveManySpec)) serveManyUptoCard

/-- THE SECOND FORM's CARD OF 'gazetteerlaw46.ServeNobody'. -/
def serveNobodyUptoCard : Claim7 := { stood := { row := serveNobodyUptoRow, standIns := [], harness := (true, "215bed34f1516e24d344d231e255ee153da5d0520dc49f01a22d398f78d9f321"), looks := true }, kinds := [], alts := [], laidByText := true, laidKinds := [.data, .data, .data, .data, .sentinel, .sentinel, .pinned], laidTests := true, laidLooks := .later }
def ServeNobodyUptoCardSaid : Prop := Claim7.holds Tryz.pinned (.plain (OpenSpec.upto serveNobodySpec)) serveNobodyUptoCard

/-- THE SECOND FORM's CARD OF 'gazetteerlaw46.ServePieces'. -/
def servePiecesUptoCard : Claim7 := { stood := { row := servePiecesUptoRow, standIns := [], harness := (true, "215bed34f1516e24d344d231e255ee153da5d0520dc49f01a22d398f78d9f321"), looks := true }, kinds := [], alts := [], laidByText := true, laidKinds := [.data, .data, .data, .data, .sentinel, .sentinel, .pinned], laidTests := true, laidLooks := .later }
def ServePiecesUptoCardSaid : Prop := Claim7.holds Tryz.pinned (.plain (OpenSpec.upto servePiecesSpec)) servePiecesUptoCard
end Rows
end Go.Proofs.YtfjdppngeillcaaGreatDoor
