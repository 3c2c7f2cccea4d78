/-
  DERIVED. GIVEN WITH THE SEED: THE CARDS: each row of YtdihhbkajcngeaaGreatDoorRows.lean that lists a variable, with what it lists TIED to the program's text (the seventh form; the later family's looks); each row that meets fmt, with fmt's text TOLD by the authors' own Lean function (tested against real Go, not proved from fmt's source: count such statements apart). THE CARD IS WHAT COUNTS. Prove the row's statement (the work); the ties are given (YtdihhbkajcngeaaGreatDoorTie.lean); close each card by the builder's one call (the guide's Derived/Test/ToyasCard.lean, 'card_holds'). Laid BY PROGRAM, IN A SANDBOX (cutbox-door.mjs). By AI agents, Wed Nov 11 2026. No macro, syntax, notation, axiom, sorry.
-/
import Derived.Test.YtdihhbkajcngeaaGreatDoorRows
import GoSem.ClaimSeven
namespace Go.Proofs.YtdihhbkajcngeaaGreatDoor
namespace Rows

/-- THE TIED CARD OF 'gazetteerlaw45.FeedTakes'. -/
def feedTakesCard : Claim7 := { stood := { row := feedTakesRow, standIns := [], harness := (true, "c52901185e117ec01894710a2d636a608df380285aa3d05d4721d6cb9e31319d"), looks := true }, kinds := [], alts := [], laidByText := true, laidKinds := [.data, .data, .data, .data, .sentinel, .sentinel, .pinned], laidTests := true, laidLooks := .later }
def FeedTakesCardSaid : Prop := Claim7.holds Tryz.pinned (.plain (OpenSpec.ofChange feedTakesSpec)) feedTakesCard

/-- THE TIED CARD OF 'gazetteerlaw45.FeedReplies'. -/
def feedRepliesCard : Claim7 := { stood := { row := feedRepliesRow, standIns := [], harness := (true, "c52901185e117ec01894710a2d636a608df380285aa3d05d4721d6cb9e31319d"), looks := true }, kinds := [], alts := [], laidByText := true, laidKinds := [.data, .data, .data, .data, .sentinel, .sentinel, .pinned], laidTests := true, laidLooks := .later }
def FeedRepliesCardSaid : Prop := Claim7.holds Tryz.pinned (.plain (OpenSpec.ofChange feedRepliesSpec)) feedRepliesCard

/-- THE TIED CARD OF 'gazetteerlaw45.FeedPieces'. -/
def feedPiecesCard : Claim7 := { stood := { row := feedPiecesRow, standIns := [], harness := (true, "c52901185e117ec01894710a2d636a608df380285aa3d05d4721d6cb9e31319d"), looks := true }, kinds := [], alts := [], laidByText := true, laidKinds := [.data, .data, .data, .data, .sentinel, .sentinel, .pinned], laidTests := true, laidLooks := .later }
def FeedPiecesCardSaid : Prop := Claim7.holds Tryz.pinned (.plain (OpenSpec.ofChange feedPiecesSpec)) feedPiecesCard

/-- THE TIED CARD OF 'gazetteerlaw45.FeedForks'. -/
def feedForksCard : Claim7 := { stood := { row := feedForksRow, standIns := [], harness := (true, "c52901185e117ec01894710a2d636a608df380285aa3d05d4721d6cb9e31319d"), looks := true }, kinds := [], alts := [], laidByText := true, laidKinds := [.data, .data, .data, .data, .sentinel, .sentinel, .pinned], laidTests := true, laidLooks := .later }
def FeedForksCardSaid : Prop := Claim7.holds Tryz.pinned (.plain (OpenSpec.ofChange feedForksSpec)) feedForksCard

/-- THE SECOND FORM's CARD OF 'gazetteerlaw45.FeedTakes'. -/
def feedTakesUptoCard : Claim7 := { stood := { row := feedTakesUptoRow, standIns := [], harness := (true, "c52901185e117ec01894710a2d636a608df380285aa3d05d4721d6cb9e31319d"), looks := true }, kinds := [], alts := [], laidByText := true, laidKinds := [.data, .data, .data, .data, .sentinel, .sentinel, .pinned], laidTests := true, laidLooks := .later }
def FeedTakesUptoCardSaid : Prop := Claim7.holds Tryz.pinned (.plain (OpenSpec.upto feedTakesSpec)) feedTakesUptoCard

/-- THE SECOND FORM's CARD OF 'gazetteerlaw45.FeedReplies'. -/
def feedRepliesUptoCard : Claim7 := { stood := { row := feedRepliesUptoRow, standIns := [], harness := (true, "c52901185e117ec01894710a2d636a608df380285aa3d05d4721d6cb9e31319d"), looks := true }, kinds := [], alts := [], laidByText := true, laidKinds := [.data, .data, .data, .data, .sentinel, .sentinel, .pinned], laidTests := true, laidLooks := .later }
def FeedRepliesUptoCardSaid : Prop := Claim7.holds Tryz.pinned (.plain (OpenSpec.upto feedRepliesSpec)) feedRepliesUptoCard

/-- THE SECOND FORM's CARD OF 'gazetteerlaw45.FeedPieces'. -/
def feedPiecesUptoCard : Claim7 := { stood := { row := feedPiecesUptoRow, standIns := [], harness := (true, "c52901185e117ec01894710a2d636a608df380285aa3d05d4721d6cb9e31319d"), looks := true }, kinds := [], alts := [], laidByText := true, laidKinds := [.data, .data, .data, .data, .sentinel, .sentinel, .pinned], laidTests := true, laidLooks := .later }
def FeedPiecesUptoCardSaid : Prop := Claim7.holds Tryz.pinned (.plain (OpenSpec.upto feedPiecesSpec)) feedPiecesUptoCard

/-- THE SECOND FORM's CARD OF 'gazetteerlaw45.FeedForks'. -/
def feedForksUptoCard : Claim7 := { stood := { row := feedForksUptoRow, standIns := [], harness := (true, "c52901185e117ec01894710a2d636a608df380285aa3d05d4721d6cb9e31319d"), looks := true }, kinds := [], alts := [], laidByText := true, laidKinds := [.data, .data, .data, .data, .sentinel, .sentinel, .pinned], laidTests := true, laidLooks := .later }
def FeedForksUptoCardSaid : Prop := Claim7.holds Tryz.pinned (.plain (OpenSpec.upto feedForksSpec)) feedForksUptoCard
end Rows
end Go.Proofs.YtdihhbkajcngeaaGreatDoor
