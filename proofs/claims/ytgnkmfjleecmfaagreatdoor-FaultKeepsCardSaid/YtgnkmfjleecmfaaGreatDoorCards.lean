/-
  DERIVED. GIVEN WITH THE SEED: THE CARDS: each row of YtgnkmfjleecmfaaGreatDoorRows.lean that lists a variable, with what it lists TIED to the program's text (the seventh form; the later family's looks); each row that meets fmt, with fmt's text TOLD by the authors' own Lean function (tested against real Go, not proved from fmt's source: count such statements apart). THE CARD IS WHAT COUNTS. Prove the row's statement (the work); the ties are given (YtgnkmfjleecmfaaGreatDoorTie.lean); close each card by the builder's one call (the guide's Derived/Test/ToyasCard.lean, 'card_holds'). Laid BY PROGRAM, IN A SANDBOX (cutbox-door.mjs). By AI agents, Wed Nov 11 2026. No macro, syntax, notation, axiom, sorry.
-/
import Derived.Test.YtgnkmfjleecmfaaGreatDoorRows
import GoSem.ClaimSeven
namespace Go.Proofs.YtgnkmfjleecmfaaGreatDoor
namespace Rows

/-- THE TIED CARD OF 'gazetteerlaw28.FaultTells'. -/
def faultTellsCard : Claim7 := { stood := { row := faultTellsRow, standIns := [], harness := (true, "948cd6de2e5332e5e1defde0a3b316461522b2d930cad0e3feb92537c4920766"), looks := true }, kinds := [], alts := [], laidByText := true, laidKinds := [.data, .data, .data, .data, .pinned], laidTests := true, laidLooks := .later }
def FaultTellsCardSaid : Prop := Claim7.holds Tryz.pinned (.plain (OpenSpec.ofChange faultTellsSpec)) faultTellsCard

/-- THE TIED CARD OF 'gazetteerlaw28.FaultKeeps'. -/
def faultKeepsCard : Claim7 := { stood := { row := faultKeepsRow, standIns := [], harness := (true, "948cd6de2e5332e5e1defde0a3b316461522b2d930cad0e3feb92537c4920766"), looks := true }, kinds := [], alts := [], laidByText := true, laidKinds := [.data, .data, .data, .data, .pinned], laidTests := true, laidLooks := .later }
def FaultKeepsCardSaid : Prop := Claim7.holds Tryz.pinned (.plain (OpenSpec.ofChange faultKeepsSpec)) faultKeepsCard

/-- THE TIED CARD OF 'gazetteerlaw46.ServeMany'. -/
def serveManyCard : Claim7 := { stood := { row := serveManyRow, standIns := [], harness := (true, "948cd6de2e5332e5e1defde0a3b316461522b2d930cad0e3feb92537c4920766"), looks := true }, kinds := [], alts := [], laidByText := true, laidKinds := [.data, .data, .data, .data, .sentinel, .sentinel, .pinned], laidTests := true, laidLooks := .later }
def ServeManyCardSaid : Prop := Claim7.holds Tryz.pinned (.plain (OpenSpec.ofChange serveManySpec)) serveManyCard

/-- THE TIED CARD OF 'gazetteerlaw28.FaultBody'. -/
def faultBodyCard : Claim7 := { stood := { row := faultBodyRow, standIns := [], harness := (true, "948cd6de2e5332e5e1defde0a3b316461522b2d930cad0e3feb92537c4920766"), looks := true }, kinds := [], alts := [], laidByText := true, laidKinds := [.data, .data, .data, .data, .sentinel, .sentinel, .pinned], laidTests := true, laidLooks := .later }
def FaultBodyCardSaid : Prop := Claim7.holds Tryz.pinned (.plain (OpenSpec.ofChange faultBodySpec)) faultBodyCard

/-- THE SECOND FORM's CARD OF 'gazetteerlaw28.FaultTells'. -/
def faultTellsUptoCard : Claim7 := { stood := { row := faultTellsUptoRow, standIns := [], harness := (true, "948cd6de2e5332e5e1defde0a3b316461522b2d930cad0e3feb92537c4920766"), looks := true }, kinds := [], alts := [], laidByText := true, laidKinds := [.data, .data, .data, .data, .pinned], laidTests := true, laidLooks := .later }
def FaultTellsUptoCardSaid : Prop := Claim7.holds Tryz.pinned (.plain (OpenSpec.upto faultTellsSpec)) faultTellsUptoCard

/-- THE SECOND FORM's CARD OF 'gazetteerlaw28.FaultKeeps'. -/
def faultKeepsUptoCard : Claim7 := { stood := { row := faultKeepsUptoRow, standIns := [], harness := (true, "948cd6de2e5332e5e1defde0a3b316461522b2d930cad0e3feb92537c4920766"), looks := true }, kinds := [], alts := [], laidByText := true, laidKinds := [.data, .data, .data, .data, .pinned], laidTests := true, laidLooks := .later }
def FaultKeepsUptoCardSaid : Prop := Claim7.holds Tryz.pinned (.plain (OpenSpec.upto faultKeepsSpec)) faultKeepsUptoCard

/-- THE SECOND FORM's CARD OF 'gazetteerlaw46.ServeMany'. -/
def serveManyUptoCard : Claim7 := { stood := { row := serveManyUptoRow, standIns := [], harness := (true, "948cd6de2e5332e5e1defde0a3b316461522b2d930cad0e3feb92537c4920766"), looks := true }, kinds := [], alts := [], laidByText := true, laidKinds := [.data, .data, .data, .data, .sentinel, .sentinel, .pinned], laidTests := true, laidLooks := .later }
def ServeManyUptoCardSaid : Prop := Claim7.holds Tryz.pinned (.plain (OpenSpec.upto serveManySpec)) serveManyUptoCard

/-- THE SECOND FORM's CARD OF 'gazetteerlaw28.FaultBody'. -/
def faultBodyUptoCard : Claim7 := { stood := { row := faultBodyUptoRow, standIns := [], harness := (true, "948cd6de2e5332e5e1defde0a3b316461522b2d930cad0e3feb92537c4920766"), looks := true }, kinds := [], alts := [], laidByText := true, laidKinds := [.data, .data, .data, .data, .sentinel, .sentinel, .pinned], laidTests := true, laidLooks := .later }
def FaultBodyUptoCardSaid : Prop := Claim7.holds Tryz.pinned (.plain (OpenSpec.upto faultBodySpec)) faultBodyUptoCard
end Rows
end Go.Proofs.YtgnkmfjleecmfaaGreatDoor
