/-
  DERIVED. GIVEN WITH THE SEED: THE CARDS: each row of YtiljjkdpjbffbaaGreatDoorRows.lean that lists a variable, with what it lists TIED to the program's text (the seventh form; the later family's looks); each row that meets fmt, with fmt's text TOLD by the authors' own Lean function (tested against real Go, not proved from fmt's source: count such statements apart). THE CARD IS WHAT COUNTS. Prove the row's statement (the work); the ties are given (YtiljjkdpjbffbaaGreatDoorTie.lean); close each card by the builder's one call (the guide's Derived/Test/ToyasCard.lean, 'card_holds'). Laid BY PROGRAM, IN A SANDBOX (cutbox-door.mjs). By AI agents, Wed Nov 11 2026. No macro, syntax, notation, axiom, sorry.
-/
import Derived.Test.YtiljjkdpjbffbaaGreatDoorRows
import GoSem.ClaimSeven
namespace Go.Proofs.YtiljjkdpjbffbaaGreatDoor
namespace Rows

/-- THE TIED CARD OF 'gazetteerlaw26.ReplyLays'. -/
def replyLaysCard : Claim7 := { stood := { row := replyLaysRow, standIns := [], harness := (true, "75772ba971f1dafceb91a08ab55f640eb55b0726a15fae63ac9257a9396d9e83"), looks := true }, kinds := [], alts := [], laidByText := true, laidKinds := [.data, .data, .data, .data, .sentinel, .sentinel, .pinned], laidTests := true, laidLooks := .later }
def ReplyLaysCardSaid : Prop := Claim7.holds Tryz.pinned (.plain (OpenSpec.ofChange replyLaysSpec)) replyLaysCard

/-- THE TIED CARD OF 'gazetteerlaw26.ReplyTakes'. -/
def replyTakesCard : Claim7 := { stood := { row := replyTakesRow, standIns := [], harness := (true, "75772ba971f1dafceb91a08ab55f640eb55b0726a15fae63ac9257a9396d9e83"), looks := true }, kinds := [], alts := [], laidByText := true, laidKinds := [.data, .data, .data, .data, .sentinel, .sentinel, .pinned], laidTests := true, laidLooks := .later }
def ReplyTakesCardSaid : Prop := Claim7.holds Tryz.pinned (.plain (OpenSpec.ofChange replyTakesSpec)) replyTakesCard

/-- THE TIED CARD OF 'gazetteerlaw26.ReplyBack'. -/
def replyBackCard : Claim7 := { stood := { row := replyBackRow, standIns := [], harness := (true, "75772ba971f1dafceb91a08ab55f640eb55b0726a15fae63ac9257a9396d9e83"), looks := true }, kinds := [], alts := [], laidByText := true, laidKinds := [.data, .data, .data, .data, .sentinel, .sentinel, .pinned], laidTests := true, laidLooks := .later }
def ReplyBackCardSaid : Prop := Claim7.holds Tryz.pinned (.plain (OpenSpec.ofChange replyBackSpec)) replyBackCard

/-- THE TIED CARD OF 'gazetteerlaw26.ReplyAgain'. -/
def replyAgainCard : Claim7 := { stood := { row := replyAgainRow, standIns := [], harness := (true, "75772ba971f1dafceb91a08ab55f640eb55b0726a15fae63ac9257a9396d9e83"), looks := true }, kinds := [], alts := [], laidByText := true, laidKinds := [.data, .data, .data, .data, .sentinel, .sentinel, .pinned], laidTests := true, laidLooks := .later }
def ReplyAgainCardSaid : Prop := Claim7.holds Tryz.pinned (.plain (OpenSpec.ofChange replyAgainSpec)) replyAgainCard

/-- THE SECOND FORM's CARD OF 'gazetteerlaw26.ReplyLays'. -/
def replyLaysUptoCard : Claim7 := { stood := { row := replyLaysUptoRow, standIns := [], harness := (true, "75772ba971f1dafceb91a08ab55f640eb55b0726a15fae63ac9257a9396d9e83"), looks := true }, kinds := [], alts := [], laidByText := true, laidKinds := [.data, .data, .data, .data, .sentinel, .sentinel, .pinned], laidTests := true, laidLooks := .later }
def ReplyLaysUptoCardSaid : Prop := Claim7.holds Tryz.pinned (.plain (OpenSpec.upto replyLaysSpec)) replyLaysUptoCard

/-- THE SECOND FORM's CARD OF 'gazetteerlaw26.ReplyTakes'. -/
def replyTakesUptoCard : Claim7 := { stood := { row := replyTakesUptoRow, standIns := [], harness := (true, "75772ba971f1dafceb91a08ab55f640eb55b0726a15fae63ac9257a9396d9e83"), looks := true }, kinds := [], alts := [], laidByText := true, laidKinds := [.data, .data, .data, .data, .sentinel, .sentinel, .pinned], laidTests := true, laidLooks := .later }
def ReplyTakesUptoCardSaid : Prop := Claim7.holds Tryz.pinned (.plain (OpenSpec.upto replyTakesSpec)) replyTakesUptoCard

/-- THE SECOND FORM's CARD OF 'gazetteerlaw26.ReplyBack'. -/
def replyBackUptoCard : Claim7 := { stood := { row := replyBackUptoRow, standIns := [], harness := (true, "75772ba971f1dafceb91a08ab55f640eb55b0726a15fae63ac9257a9396d9e83"), looks := true }, kinds := [], alts := [], laidByText := true, laidKinds := [.data, .data, .data, .data, .sentinel, .sentinel, .pinned], laidTests := true, laidLooks := .later }
def ReplyBackUptoCardSaid : Prop := Claim7.holds Tryz.pinned (.plain (OpenSpec.upto replyBackSpec)) replyBackUptoCard

/-- THE SECOND FORM's CARD OF 'gazetteerlaw26.ReplyAgain'. -/
def replyAgainUptoCard : Claim7 := { stood := { row := replyAgainUptoRow, standIns := [], harness := (true, "75772ba971f1dafceb91a08ab55f640eb55b0726a15fae63ac9257a9396d9e83"), looks := true }, kinds := [], alts := [], laidByText := true, laidKinds := [.data, .data, .data, .data, .sentinel, .sentinel, .pinned], laidTests := true, laidLooks := .later }
def ReplyAgainUptoCardSaid : Prop := Claim7.holds Tryz.pinned (.plain (OpenSpec.upto replyAgainSpec)) replyAgainUptoCard
end Rows
end Go.Proofs.YtiljjkdpjbffbaaGreatDoor
