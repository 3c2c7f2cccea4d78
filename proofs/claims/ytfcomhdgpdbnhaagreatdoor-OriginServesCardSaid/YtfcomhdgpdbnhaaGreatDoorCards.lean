/-
  DERIVED. GIVEN WITH THE SEED: THE CARDS: each row of YtfcomhdgpdbnhaaGreatDoorRows.lean that lists a variable, with what it lists TIED to the program's text (the seventh form; the later family's looks); each row that meets fmt, with fmt's text TOLD by the authors' own Lean function (tested against real Go, not proved from fmt's source: count such statements apart). THE CARD IS WHAT COUNTS. Prove the row's statement (the work); the ties are given (YtfcomhdgpdbnhaaGreatDoorTie.lean); close each card by the builder's one call (the guide's Derived/Test/ToyasCard.lean, 'card_holds'). Laid BY PROGRAM, IN A SANDBOX (cutbox-door.mjs). By AI agents, Wed Nov 11 2026. No macro, syntax, notation, axiom, sorry.
-/
import Derived.Test.YtfcomhdgpdbnhaaGreatDoorRows
import GoSem.ClaimSeven
namespace Go.Proofs.YtfcomhdgpdbnhaaGreatDoor
namespace Rows

/-- THE TIED CARD OF 'gazetteerlaw27.OriginTells'. -/
def originTellsCard : Claim7 := { stood := { row := originTellsRow, standIns := [], harness := (true, "03f0f53144c8da85cbb7eb3f03a7c76abbac1b0a4e97b0cca776ac4640cd5782"), looks := true }, kinds := [], alts := [], laidByText := true, laidKinds := [.data, .data, .data, .data, .sentinel, .sentinel, .pinned], laidTests := true, laidLooks := .later }
def OriginTellsCardSaid : Prop := Claim7.holds Tryz.pinned (.plain (OpenSpec.ofChange originTellsSpec)) originTellsCard

/-- THE TIED CARD OF 'gazetteerlaw27.OriginOnly'. -/
def originOnlyCard : Claim7 := { stood := { row := originOnlyRow, standIns := [], harness := (true, "03f0f53144c8da85cbb7eb3f03a7c76abbac1b0a4e97b0cca776ac4640cd5782"), looks := true }, kinds := [], alts := [], laidByText := true, laidKinds := [.data, .data, .data, .data, .sentinel, .sentinel, .pinned], laidTests := true, laidLooks := .later }
def OriginOnlyCardSaid : Prop := Claim7.holds Tryz.pinned (.plain (OpenSpec.ofChange originOnlySpec)) originOnlyCard

/-- THE TIED CARD OF 'gazetteerlaw27.OriginServes'. -/
def originServesCard : Claim7 := { stood := { row := originServesRow, standIns := [], harness := (true, "03f0f53144c8da85cbb7eb3f03a7c76abbac1b0a4e97b0cca776ac4640cd5782"), looks := true }, kinds := [], alts := [], laidByText := true, laidKinds := [.data, .data, .data, .data, .sentinel, .sentinel, .pinned], laidTests := true, laidLooks := .later }
def OriginServesCardSaid : Prop := Claim7.holds Tryz.pinned (.plain (OpenSpec.ofChange originServesSpec)) originServesCard

/-- THE SECOND FORM's CARD OF 'gazetteerlaw27.OriginTells'. -/
def originTellsUptoCard : Claim7 := { stood := { row := originTellsUptoRow, standIns := [], harness := (true, "03f0f53144c8da85cbb7eb3f03a7c76abbac1b0a4e97b0cca776ac4640cd5782"), looks := true }, kinds := [], alts := [], laidByText := true, laidKinds := [.data, .data, .data, .data, .sentinel, .sentinel, .pinned], laidTests := true, laidLooks := .later }
def OriginTellsUptoCardSaid : Prop := Claim7.holds Tryz.pinned (.plain (OpenSpec.upto originTellsSpec)) originTellsUptoCard

/-- THE SECOND FORM's CARD OF 'gazetteerlaw27.OriginOnly'. -/
def originOnlyUptoCard : Claim7 := { stood := { row := originOnlyUptoRow, standIns := [], harness := (true, "03f0f53144c8da85cbb7eb3f03a7c76abbac1b0a4e97b0cca776ac4640cd5782"), looks := true }, kinds := [], alts := [], laidByText := true, laidKinds := [.data, .data, .data, .data, .sentinel, .sentinel, .pinned], laidTests := true, laidLooks := .later }
def OriginOnlyUptoCardSaid : Prop := Claim7.holds Tryz.pinned (.plain (OpenSpec.upto originOnlySpec)) originOnlyUptoCard

/-- THE SECOND FORM's CARD OF 'gazetteerlaw27.OriginServes'. -/
def originServesUptoCard : Claim7 := { stood := { row := originServesUptoRow, standIns := [], harness := (true, "03f0f53144c8da85cbb7eb3f03a7c76abbac1b0a4e97b0cca776ac4640cd5782"), looks := true }, kinds := [], alts := [], laidByText := true, laidKinds := [.data, .data, .data, .data, .sentinel, .sentinel, .pinned], laidTests := true, laidLooks := .later }
def OriginServesUptoCardSaid : Prop := Claim7.holds Tryz.pinned (.plain (OpenSpec.upto originServesSpec)) originServesUptoCard
end Rows
end Go.Proofs.YtfcomhdgpdbnhaaGreatDoor
