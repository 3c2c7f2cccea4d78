/-
  DERIVED. GIVEN WITH THE SEED: THE CARDS: each row of YtbdmmgmcbecolaaGreatDoorRows.lean that lists a variable, with what it lists TIED to the program's text (the seventh form; the later family's looks); each row that meets fmt, with fmt's text TOLD by the authors' own Lean function (tested against real Go, not proved from fmt's source: count such statements apart). THE CARD IS WHAT COUNTS. Prove the row's statement (the work); the ties are given (YtbdmmgmcbecolaaGreatDoorTie.lean); close each card by the builder's one call (the guide's Derived/Test/ToyasCard.lean, 'card_holds'). Laid BY PROGRAM, IN A SANDBOX (cutbox-door.mjs). By AI agents, Wed Nov 11 2026. No macro, syntax, notation, axiom, sorry.
-/
import Derived.Test.YtbdmmgmcbecolaaGreatDoorRows
import GoSem.ClaimSeven
namespace Go.Proofs.YtbdmmgmcbecolaaGreatDoor
namespace Rows

/-- THE TIED CARD OF 'gazetteerlaw30.FetchJudges'. -/
def fetchJudgesCard : Claim7 := { stood := { row := fetchJudgesRow, standIns := [], harness := (true, "b458ec5a07fd843a7b23e6ea0a38205059a0613ea82c933347d5cf95c931245d"), looks := true }, kinds := [], alts := [], laidByText := true, laidKinds := [.data, .data, .data, .data, .handle, .sentinel, .sentinel, .pinned], laidTests := true, laidLooks := .later }
def FetchJudgesCardSaid : Prop := Claim7.holds Tryz.pinned (.plain (OpenSpec.ofChange fetchJudgesSpec)) fetchJudgesCard

/-- THE TIED CARD OF 'gazetteerlaw30.FetchNobody'. -/
def fetchNobodyCard : Claim7 := { stood := { row := fetchNobodyRow, standIns := [], harness := (true, "b458ec5a07fd843a7b23e6ea0a38205059a0613ea82c933347d5cf95c931245d"), looks := true }, kinds := [], alts := [], laidByText := true, laidKinds := [.data, .data, .data, .data, .handle, .sentinel, .sentinel, .pinned], laidTests := true, laidLooks := .later }
def FetchNobodyCardSaid : Prop := Claim7.holds Tryz.pinned (.plain (OpenSpec.ofChange fetchNobodySpec)) fetchNobodyCard

/-- THE TIED CARD OF 'gazetteerlaw30.FetchRight'. -/
def fetchRightCard : Claim7 := { stood := { row := fetchRightRow, standIns := [], harness := (true, "b458ec5a07fd843a7b23e6ea0a38205059a0613ea82c933347d5cf95c931245d"), looks := true }, kinds := [], alts := [], laidByText := true, laidKinds := [.data, .data, .data, .data, .handle, .sentinel, .sentinel, .pinned], laidTests := true, laidLooks := .later }
def FetchRightCardSaid : Prop := Claim7.holds Tryz.pinned (.plain (OpenSpec.ofChange fetchRightSpec)) fetchRightCard

/-- THE TIED CARD OF 'gazetteerlaw30.FetchGets'. -/
def fetchGetsCard : Claim7 := { stood := { row := fetchGetsRow, standIns := [], harness := (true, "b458ec5a07fd843a7b23e6ea0a38205059a0613ea82c933347d5cf95c931245d"), looks := true }, kinds := [], alts := [], laidByText := true, laidKinds := [.data, .data, .data, .data, .handle, .sentinel, .sentinel, .pinned], laidTests := true, laidLooks := .later }
def FetchGetsCardSaid : Prop := Claim7.holds Tryz.pinned (.plain (OpenSpec.ofChange fetchGetsSpec)) fetchGetsCard

/-- THE SECOND FORM's CARD OF 'gazetteerlaw30.FetchJudges'. -/
def fetchJudgesUptoCard : Claim7 := { stood := { row := fetchJudgesUptoRow, standIns := [], harness := (true, "b458ec5a07fd843a7b23e6ea0a38205059a0613ea82c933347d5cf95c931245d"), looks := true }, kinds := [], alts := [], laidByText := true, laidKinds := [.data, .data, .data, .data, .handle, .sentinel, .sentinel, .pinned], laidTests := true, laidLooks := .later }
def FetchJudgesUptoCardSaid : Prop := Claim7.holds Tryz.pinned (.plain (OpenSpec.upto fetchJudgesSpec)) fetchJudgesUptoCard

/-- THE SECOND FORM's CARD OF 'gazetteerlaw30.FetchNobody'. -/
def fetchNobodyUptoCard : Claim7 := { stood := { row := fetchNobodyUptoRow, standIns := [], harness := (true, "b458ec5a07fd843a7b23e6ea0a38205059a0613ea82c933347d5cf95c931245d"), looks := true }, kinds := [], alts := [], laidByText := true, laidKinds := [.data, .data, .data, .data, .handle, .sentinel, .sentinel, .pinned], laidTests := true, laidLooks := .later }
def FetchNobodyUptoCardSaid : Prop := Claim7.holds Tryz.pinned (.plain (OpenSpec.upto fetchNobodySpec)) fetchNobodyUptoCard

/-- THE SECOND FORM's CARD OF 'gazetteerlaw30.FetchRight'. -/
def fetchRightUptoCard : Claim7 := { stood := { row := fetchRightUptoRow, standIns := [], harness := (true, "b458ec5a07fd843a7b23e6ea0a38205059a0613ea82c933347d5cf95c931245d"), looks := true }, kinds := [], alts := [], laidByText := true, laidKinds := [.data, .data, .data, .data, .handle, .sentinel, .sentinel, .pinned], laidTests := true, laidLooks := .later }
def FetchRightUptoCardSaid : Prop := Claim7.holds Tryz.pinned (.plain (OpenSpec.upto fetchRightSpec)) fetchRightUptoCard

/-- THE SECOND FORM's CARD OF 'gazetteerlaw30.FetchGets'. -/
def fetchGetsUptoCard : Claim7 := { stood := { row := fetchGetsUptoRow, standIns := [], harness := (true, "b458ec5a07fd843a7b23e6ea0a38205059a0613ea82c933347d5cf95c931245d"), looks := true }, kinds := [], alts := [], laidByText := true, laidKinds := [.data, .data, .data, .data, .handle, .sentinel, .sentinel, .pinned], laidTests := true, laidLooks := .later }
def FetchGetsUptoCardSaid : Prop := Claim7.holds Tryz.pinned (.plain (OpenSpec.upto fetchGetsSpec)) fetchGetsUptoCard
end Rows
end Go.Proofs.YtbdmmgmcbecolaaGreatDoor
