/-
  DERIVED. GIVEN WITH THE SEED: THE CARDS: each row of YtgaojfebmcmpaaaGreatDoorRows.lean that lists a variable, with what it lists TIED to the program's text (the seventh form; the later family's looks); each row that meets fmt, with fmt's text TOLD by the authors' own Lean function (tested against real Go, not proved from fmt's source: count such statements apart). THE CARD IS WHAT COUNTS. Prove the row's statement (the work); the ties are given (YtgaojfebmcmpaaaGreatDoorTie.lean); close each card by the builder's one call (the guide's Derived/Test/ToyasCard.lean, 'card_holds'). Laid BY PROGRAM, IN A SANDBOX (cutbox-door.mjs). By AI agents, Wed Nov 11 2026. No macro, syntax, notation, axiom, sorry.
-/
import Derived.Test.YtgaojfebmcmpaaaGreatDoorRows
import GoSem.ClaimSeven
namespace Go.Proofs.YtgaojfebmcmpaaaGreatDoor
namespace Rows

/-- THE TIED CARD OF 'gazetteerlaw25.AskingTells'. -/
def askingTellsCard : Claim7 := { stood := { row := askingTellsRow, standIns := [], harness := (true, "450b5f4debab227b32d9d644f97ad7c0215450cf78aa40fa6d13f463f5b510aa"), looks := true }, kinds := [], alts := [], laidByText := true, laidKinds := [.data, .data, .data, .data, .sentinel, .sentinel, .pinned], laidTests := true, laidLooks := .later }
def AskingTellsCardSaid : Prop := Claim7.holds Tryz.pinned (.plain (OpenSpec.ofChange askingTellsSpec)) askingTellsCard

/-- THE TIED CARD OF 'gazetteerlaw25.AskingBack'. -/
def askingBackCard : Claim7 := { stood := { row := askingBackRow, standIns := [], harness := (true, "450b5f4debab227b32d9d644f97ad7c0215450cf78aa40fa6d13f463f5b510aa"), looks := true }, kinds := [], alts := [], laidByText := true, laidKinds := [.data, .data, .data, .data, .sentinel, .sentinel, .pinned], laidTests := true, laidLooks := .later }
def AskingBackCardSaid : Prop := Claim7.holds Tryz.pinned (.plain (OpenSpec.ofChange askingBackSpec)) askingBackCard

/-- THE TIED CARD OF 'gazetteerlaw26.ReplyLays'. -/
def replyLaysCard : Claim7 := { stood := { row := replyLaysRow, standIns := [], harness := (true, "450b5f4debab227b32d9d644f97ad7c0215450cf78aa40fa6d13f463f5b510aa"), looks := true }, kinds := [], alts := [], laidByText := true, laidKinds := [.data, .data, .data, .data, .sentinel, .sentinel, .pinned], laidTests := true, laidLooks := .later }
def ReplyLaysCardSaid : Prop := Claim7.holds Tryz.pinned (.plain (OpenSpec.ofChange replyLaysSpec)) replyLaysCard

/-- THE TIED CARD OF 'gazetteerlaw26.ReplyTakes'. -/
def replyTakesCard : Claim7 := { stood := { row := replyTakesRow, standIns := [], harness := (true, "450b5f4debab227b32d9d644f97ad7c0215450cf78aa40fa6d13f463f5b510aa"), looks := true }, kinds := [], alts := [], laidByText := true, laidKinds := [.data, .data, .data, .data, .sentinel, .sentinel, .pinned], laidTests := true, laidLooks := .later }
def ReplyTakesCardSaid : Prop := Claim7.holds Tryz.pinned (.plain (OpenSpec.ofChange replyTakesSpec)) replyTakesCard

/-- THE TIED CARD OF 'gazetteerlaw26.ReplyBack'. -/
def replyBackCard : Claim7 := { stood := { row := replyBackRow, standIns := [], harness := (true, "450b5f4debab227b32d9d644f97ad7c0215450cf78aa40fa6d13f463f5b510aa"), looks := true }, kinds := [], alts := [], laidByText := true, laidKinds := [.data, .data, .data, .data, .sentinel, .sentinel, .pinned], laidTests := true, laidLooks := .later }
def ReplyBackCardSaid : Prop := Claim7.holds Tryz.pinned (.plain (OpenSpec.ofChange replyBackSpec)) replyBackCard

/-- THE TIED CARD OF 'gazetteerlaw26.ReplyAgain'. -/
def replyAgainCard : Claim7 := { stood := { row := replyAgainRow, standIns := [], harness := (true, "450b5f4debab227b32d9d644f97ad7c0215450cf78aa40fa6d13f463f5b510aa"), looks := true }, kinds := [], alts := [], laidByText := true, laidKinds := [.data, .data, .data, .data, .sentinel, .sentinel, .pinned], laidTests := true, laidLooks := .later }
def ReplyAgainCardSaid : Prop := Claim7.holds Tryz.pinned (.plain (OpenSpec.ofChange replyAgainSpec)) replyAgainCard

/-- THE TIED CARD OF 'gazetteerlaw27.OriginTells'. -/
def originTellsCard : Claim7 := { stood := { row := originTellsRow, standIns := [], harness := (true, "450b5f4debab227b32d9d644f97ad7c0215450cf78aa40fa6d13f463f5b510aa"), looks := true }, kinds := [], alts := [], laidByText := true, laidKinds := [.data, .data, .data, .data, .sentinel, .sentinel, .pinned], laidTests := true, laidLooks := .later }
def OriginTellsCardSaid : Prop := Claim7.holds Tryz.pinned (.plain (OpenSpec.ofChange originTellsSpec)) originTellsCard

/-- THE TIED CARD OF 'gazetteerlaw27.OriginOnly'. -/
def originOnlyCard : Claim7 := { stood := { row := originOnlyRow, standIns := [], harness := (true, "450b5f4debab227b32d9d644f97ad7c0215450cf78aa40fa6d13f463f5b510aa"), looks := true }, kinds := [], alts := [], laidByText := true, laidKinds := [.data, .data, .data, .data, .sentinel, .sentinel, .pinned], laidTests := true, laidLooks := .later }
def OriginOnlyCardSaid : Prop := Claim7.holds Tryz.pinned (.plain (OpenSpec.ofChange originOnlySpec)) originOnlyCard

/-- THE TIED CARD OF 'gazetteerlaw27.OriginServes'. -/
def originServesCard : Claim7 := { stood := { row := originServesRow, standIns := [], harness := (true, "450b5f4debab227b32d9d644f97ad7c0215450cf78aa40fa6d13f463f5b510aa"), looks := true }, kinds := [], alts := [], laidByText := true, laidKinds := [.data, .data, .data, .data, .sentinel, .sentinel, .pinned], laidTests := true, laidLooks := .later }
def OriginServesCardSaid : Prop := Claim7.holds Tryz.pinned (.plain (OpenSpec.ofChange originServesSpec)) originServesCard

/-- THE TIED CARD OF 'gazetteerlaw28.FaultTells'. -/
def faultTellsCard : Claim7 := { stood := { row := faultTellsRow, standIns := [], harness := (true, "450b5f4debab227b32d9d644f97ad7c0215450cf78aa40fa6d13f463f5b510aa"), looks := true }, kinds := [], alts := [], laidByText := true, laidKinds := [.data, .data, .data, .data, .pinned], laidTests := true, laidLooks := .later }
def FaultTellsCardSaid : Prop := Claim7.holds Tryz.pinned (.plain (OpenSpec.ofChange faultTellsSpec)) faultTellsCard

/-- THE TIED CARD OF 'gazetteerlaw28.FaultKeeps'. -/
def faultKeepsCard : Claim7 := { stood := { row := faultKeepsRow, standIns := [], harness := (true, "450b5f4debab227b32d9d644f97ad7c0215450cf78aa40fa6d13f463f5b510aa"), looks := true }, kinds := [], alts := [], laidByText := true, laidKinds := [.data, .data, .data, .data, .pinned], laidTests := true, laidLooks := .later }
def FaultKeepsCardSaid : Prop := Claim7.holds Tryz.pinned (.plain (OpenSpec.ofChange faultKeepsSpec)) faultKeepsCard

/-- THE TIED CARD OF 'gazetteerlaw28.FaultBody'. -/
def faultBodyCard : Claim7 := { stood := { row := faultBodyRow, standIns := [], harness := (true, "450b5f4debab227b32d9d644f97ad7c0215450cf78aa40fa6d13f463f5b510aa"), looks := true }, kinds := [], alts := [], laidByText := true, laidKinds := [.data, .data, .data, .data, .sentinel, .sentinel, .pinned], laidTests := true, laidLooks := .later }
def FaultBodyCardSaid : Prop := Claim7.holds Tryz.pinned (.plain (OpenSpec.ofChange faultBodySpec)) faultBodyCard

/-- THE SECOND FORM's CARD OF 'gazetteerlaw25.AskingTells'. -/
def askingTellsUptoCard : Claim7 := { stood := { row := askingTellsUptoRow, standIns := [], harness := (true, "450b5f4debab227b32d9d644f97ad7c0215450cf78aa40fa6d13f463f5b510aa"), looks := true }, kinds := [], alts := [], laidByText := true, laidKinds := [.data, .data, .data, .data, .sentinel, .sentinel, .pinned], laidTests := true, laidLooks := .later }
def AskingTellsUptoCardSaid : Prop := Claim7.holds Tryz.pinned (.plain (OpenSpec.upto askingTellsSpec)) askingTellsUptoCard

/-- THE SECOND FORM's CARD OF 'gazetteerlaw25.AskingBack'. -/
def askingBackUptoCard : Claim7 := { stood := { row := askingBackUptoRow, standIns := [], harness := (true, "450b5f4debab227b32d9d644f97ad7c0215450cf78aa40fa6d13f463f5b510aa"), looks := true }, kinds := [], alts := [], laidByText := true, laidKinds := [.data, .data, .data, .data, .sentinel, .sentinel, .pinned], laidTests := true, laidLooks := .later }
def AskingBackUptoCardSaid : Prop := Claim7.holds Tryz.pinned (.plain (OpenSpec.upto askingBackSpec)) askingBackUptoCard

/-- THE SECOND FORM's CARD OF 'gazetteerlaw26.ReplyLays'. -/
def replyLaysUptoCard : Claim7 := { stood := { row := replyLaysUptoRow, standIns := [], harness := (true, "450b5f4debab227b32d9d644f97ad7c0215450cf78aa40fa6d13f463f5b510aa"), looks := true }, kinds := [], alts := [], laidByText := true, laidKinds := [.data, .data, .data, .data, .sentinel, .sentinel, .pinned], laidTests := true, laidLooks := .later }
def ReplyLaysUptoCardSaid : Prop := Claim7.holds Tryz.pinned (.plain (OpenSpec.upto replyLaysSpec)) replyLaysUptoCard

/-- THE SECOND FORM's CARD OF 'gazetteerlaw26.ReplyTakes'. -/
def replyTakesUptoCard : Claim7 := { stood := { row := replyTakesUptoRow, standIns := [], harness := (true, "450b5f4debab227b32d9d644f97ad7c0215450cf78aa40fa6d13f463f5b510aa"), looks := true }, kinds := [], alts := [], laidByText := true, laidKinds := [.data, .data, .data, .data, .sentinel, .sentinel, .pinned], laidTests := true, laidLooks := .later }
def ReplyTakesUptoCardSaid : Prop := Claim7.holds Tryz.pinned (.plain (OpenSpec.upto replyTakesSpec)) replyTakesUptoCard

/-- THE SECOND FORM's CARD OF 'gazetteerlaw26.ReplyBack'. -/
def replyBackUptoCard : Claim7 := { stood := { row := replyBackUptoRow, standIns := [], harness := (true, "450b5f4debab227b32d9d644f97ad7c0215450cf78aa40fa6d13f463f5b510aa"), looks := true }, kinds := [], alts := [], laidByText := true, laidKinds := [.data, .data, .data, .data, .sentinel, .sentinel, .pinned], laidTests := true, laidLooks := .later }
def ReplyBackUptoCardSaid : Prop := Claim7.holds Tryz.pinned (.plain (OpenSpec.upto replyBackSpec)) replyBackUptoCard

/-- THE SECOND FORM's CARD OF 'gazetteerlaw26.ReplyAgain'. -/
def replyAgainUptoCard : Claim7 := { stood := { row := replyAgainUptoRow, standIns := [], harness := (true, "450b5f4debab227b32d9d644f97ad7c0215450cf78aa40fa6d13f463f5b510aa"), looks := true }, kinds := [], alts := [], laidByText := true, laidKinds := [.data, .data, .data, .data, .sentinel, .sentinel, .pinned], laidTests := true, laidLooks := .later }
def ReplyAgainUptoCardSaid : Prop := Claim7.holds Tryz.pinned (.plain (OpenSpec.upto replyAgainSpec)) replyAgainUptoCard

/-- THE SECOND FORM's CARD OF 'gazetteerlaw27.OriginTells'. -/
def originTellsUptoCard : Claim7 := { stood := { row := originTellsUptoRow, standIns := [], harness := (true, "450b5f4debab227b32d9d644f97ad7c0215450cf78aa40fa6d13f463f5b510aa"), looks := true }, kinds := [], alts := [], laidByText := true, laidKinds := [.data, .data, .data, .data, .sentinel, .sentinel, .pinned], laidTests := true, laidLooks := .later }
def OriginTellsUptoCardSaid : Prop := Claim7.holds Tryz.pinned (.plain (OpenSpec.upto originTellsSpec)) originTellsUptoCard

/-- THE SECOND FORM's CARD OF 'gazetteerlaw27.OriginOnly'. -/
def originOnlyUptoCard : Claim7 := { stood := { row := originOnlyUptoRow, standIns := [], harness := (true, "450b5f4debab227b32d9d644f97ad7c0215450cf78aa40fa6d13f463f5b510aa"), looks := true }, kinds := [], alts := [], laidByText := true, laidKinds := [.data, .data, .data, .data, .sentinel, .sentinel, .pinned], laidTests := true, laidLooks := .later }
def OriginOnlyUptoCardSaid : Prop := Claim7.holds Tryz.pinned (.plain (OpenSpec.upto originOnlySpec)) originOnlyUptoCard

/-- THE SECOND FORM's CARD OF 'gazetteerlaw27.OriginServes'. -/
def originServesUptoCard : Claim7 := { stood := { row := originServesUptoRow, standIns := [], harness := (true, "450b5f4debab227b32d9d644f97ad7c0215450cf78aa40fa6d13f463f5b510aa"), looks := true }, kinds := [], alts := [], laidByText := true, laidKinds := [.data, .data, .data, .data, .sentinel, .sentinel, .pinned], laidTests := true, laidLooks := .later }
def OriginServesUptoCardSaid : Prop := Claim7.holds Tryz.pinned (.plain (OpenSpec.upto originServesSpec)) originServesUptoCard

/-- THE SECOND FORM's CARD OF 'gazetteerlaw28.FaultTells'. -/
def faultTellsUptoCard : Claim7 := { stood := { row := faultTellsUptoRow, standIns := [], harness := (true, "450b5f4debab227b32d9d644f97ad7c0215450cf78aa40fa6d13f463f5b510aa"), looks := true }, kinds := [], alts := [], laidByText := true, laidKinds := [.data, .data, .data, .data, .pinned], laidTests := true, laidLooks := .later }
def FaultTellsUptoCardSaid : Prop := Claim7.holds Tryz.pinned (.plain (OpenSpec.upto faultTellsSpec)) faultTellsUptoCard

/-- THE SECOND FORM's CARD OF 'gazetteerlaw28.FaultKeeps'. -/
def faultKeepsUptoCard : Claim7 := { stood := { row := faultKeepsUptoRow, standIns := [], harness := (true, "450b5f4debab227b32d9d644f97ad7c0215450cf78aa40fa6d13f463f5b510aa"), looks := true }, kinds := [], alts := [], laidByText := true, laidKinds := [.data, .data, .data, .data, .pinned], laidTests := true, laidLooks := .later }
def FaultKeepsUptoCardSaid : Prop := Claim7.holds Tryz.pinned (.plain (OpenSpec.upto faultKeepsSpec)) faultKeepsUptoCard

/-- THE SECOND FORM's CARD OF 'gazetteerlaw28.FaultBody'. -/
def faultBodyUptoCard : Claim7 := { stood := { row := faultBodyUptoRow, standIns := [], harness := (true, "450b5f4debab227b32d9d644f97ad7c0215450cf78aa40fa6d13f463f5b510aa"), looks := true }, kinds := [], alts := [], laidByText := true, laidKinds := [.data, .data, .data, .data, .sentinel, .sentinel, .pinned], laidTests := true, laidLooks := .later }
def FaultBodyUptoCardSaid : Prop := Claim7.holds Tryz.pinned (.plain (OpenSpec.upto faultBodySpec)) faultBodyUptoCard
end Rows
end Go.Proofs.YtgaojfebmcmpaaaGreatDoor
