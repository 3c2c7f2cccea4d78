/-
  DERIVED. GIVEN WITH THE SEED: THE CARDS: each row of YthcomjhpjlcpdaaGreatDoorRows.lean that lists a variable, with what it lists TIED to the program's text (the seventh form; the later family's looks); each row that meets fmt, with fmt's text TOLD by the authors' own Lean function (tested against real Go, not proved from fmt's source: count such statements apart). THE CARD IS WHAT COUNTS. Prove the row's statement (the work); the ties are given (YthcomjhpjlcpdaaGreatDoorTie.lean); close each card by the builder's one call (the guide's Derived/Test/ToyasCard.lean, 'card_holds'). Laid BY PROGRAM, IN A SANDBOX (cutbox-door.mjs). By AI agents, Wed Nov 11 2026. No macro, syntax, notation, axiom, sorry.
-/
import Derived.Test.YthcomjhpjlcpdaaGreatDoorRows
import GoSem.ClaimSeven
namespace Go.Proofs.YthcomjhpjlcpdaaGreatDoor
namespace Rows

/-- THE TIED CARD OF 'gazetteerlaw29.LinkAsks'. -/
def linkAsksCard : Claim7 := { stood := { row := linkAsksRow, standIns := [], harness := (true, "b477f2a9c48d96a68e70c731734ff5e369010b9146c38aadfde93834e241ac27"), looks := true }, kinds := [], alts := [], laidByText := true, laidKinds := [.data, .data, .data, .data, .sentinel, .sentinel, .pinned], laidTests := true, laidLooks := .later }
def LinkAsksCardSaid : Prop := Claim7.holds Tryz.pinned (.plain (OpenSpec.ofChange linkAsksSpec)) linkAsksCard

/-- THE TIED CARD OF 'gazetteerlaw29.LinkClean'. -/
def linkCleanCard : Claim7 := { stood := { row := linkCleanRow, standIns := [], harness := (true, "b477f2a9c48d96a68e70c731734ff5e369010b9146c38aadfde93834e241ac27"), looks := true }, kinds := [], alts := [], laidByText := true, laidKinds := [.data, .data, .data, .data, .sentinel, .sentinel, .pinned], laidTests := true, laidLooks := .later }
def LinkCleanCardSaid : Prop := Claim7.holds Tryz.pinned (.plain (OpenSpec.ofChange linkCleanSpec)) linkCleanCard

/-- THE TIED CARD OF 'gazetteerlaw29.LinkScripts'. -/
def linkScriptsCard : Claim7 := { stood := { row := linkScriptsRow, standIns := [], harness := (true, "b477f2a9c48d96a68e70c731734ff5e369010b9146c38aadfde93834e241ac27"), looks := true }, kinds := [], alts := [], laidByText := true, laidKinds := [.data, .data, .data, .data, .sentinel, .sentinel, .pinned], laidTests := true, laidLooks := .later }
def LinkScriptsCardSaid : Prop := Claim7.holds Tryz.pinned (.plain (OpenSpec.ofChange linkScriptsSpec)) linkScriptsCard

/-- THE TIED CARD OF 'gazetteerlaw29.LinkForks'. -/
def linkForksCard : Claim7 := { stood := { row := linkForksRow, standIns := [], harness := (true, "b477f2a9c48d96a68e70c731734ff5e369010b9146c38aadfde93834e241ac27"), looks := true }, kinds := [], alts := [], laidByText := true, laidKinds := [.data, .data, .data, .data, .sentinel, .sentinel, .pinned], laidTests := true, laidLooks := .later }
def LinkForksCardSaid : Prop := Claim7.holds Tryz.pinned (.plain (OpenSpec.ofChange linkForksSpec)) linkForksCard

/-- THE TIED CARD OF 'gazetteerlaw29.LinkNobody'. -/
def linkNobodyCard : Claim7 := { stood := { row := linkNobodyRow, standIns := [], harness := (true, "b477f2a9c48d96a68e70c731734ff5e369010b9146c38aadfde93834e241ac27"), looks := true }, kinds := [], alts := [], laidByText := true, laidKinds := [.data, .data, .data, .data, .sentinel, .sentinel, .pinned], laidTests := true, laidLooks := .later }
def LinkNobodyCardSaid : Prop := Claim7.holds Tryz.pinned (.plain (OpenSpec.ofChange linkNobodySpec)) linkNobodyCard

/-- THE SECOND FORM's CARD OF 'gazetteerlaw29.LinkAsks'. -/
def linkAsksUptoCard : Claim7 := { stood := { row := linkAsksUptoRow, standIns := [], harness := (true, "b477f2a9c48d96a68e70c731734ff5e369010b9146c38aadfde93834e241ac27"), looks := true }, kinds := [], alts := [], laidByText := true, laidKinds := [.data, .data, .data, .data, .sentinel, .sentinel, .pinned], laidTests := true, laidLooks := .later }
def LinkAsksUptoCardSaid : Prop := Claim7.holds Tryz.pinned (.plain (OpenSpec.upto linkAsksSpec)) linkAsksUptoCard

/-- THE SECOND FORM's CARD OF 'gazetteerlaw29.LinkClean'. -/
def linkCleanUptoCard : Claim7 := { stood := { row := linkCleanUptoRow, standIns := [], harness := (true, "b477f2a9c48d96a68e70c731734ff5e369010b9146c38aadfde93834e241ac27"), looks := true }, kinds := [], alts := [], laidByText := true, laidKinds := [.data, .data, .data, .data, .sentinel, .sentinel, .pinned], laidTests := true, laidLooks := .later }
def LinkCleanUptoCardSaid : Prop := Claim7.holds Tryz.pinned (.plain (OpenSpec.upto linkCleanSpec)) linkCleanUptoCard

/-- THE SECOND FORM's CARD OF 'gazetteerlaw29.LinkScripts'. -/
def linkScriptsUptoCard : Claim7 := { stood := { row := linkScriptsUptoRow, standIns := [], harness := (true, "b477f2a9c48d96a68e70c731734ff5e369010b9146c38aadfde93834e241ac27"), looks := true }, kinds := [], alts := [], laidByText := true, laidKinds := [.data, .data, .data, .data, .sentinel, .sentinel, .pinned], laidTests := true, laidLooks := .later }
def LinkScriptsUptoCardSaid : Prop := Claim7.holds Tryz.pinned (.plain (OpenSpec.upto linkScriptsSpec)) linkScriptsUptoCard

/-- THE SECOND FORM's CARD OF 'gazetteerlaw29.LinkForks'. -/
def linkForksUptoCard : Claim7 := { stood := { row := linkForksUptoRow, standIns := [], harness := (true, "b477f2a9c48d96a68e70c731734ff5e369010b9146c38aadfde93834e241ac27"), looks := true }, kinds := [], alts := [], laidByText := true, laidKinds := [.data, .data, .data, .data, .sentinel, .sentinel, .pinned], laidTests := true, laidLooks := .later }
def LinkForksUptoCardSaid : Prop := Claim7.holds Tryz.pinned (.plain (OpenSpec.upto linkForksSpec)) linkForksUptoCard

/-- THE SECOND FORM's CARD OF 'gazetteerlaw29.LinkNobody'. -/
def linkNobodyUptoCard : Claim7 := { stood := { row := linkNobodyUptoRow, standIns := [], harness := (true, "b477f2a9c48d96a68e70c731734ff5e369010b9146c38aadfde93834e241ac27"), looks := true }, kinds := [], alts := [], laidByText := true, laidKinds := [.data, .data, .data, .data, .sentinel, .sentinel, .pinned], laidTests := true, laidLooks := .later }
def LinkNobodyUptoCardSaid : Prop := Claim7.holds Tryz.pinned (.plain (OpenSpec.upto linkNobodySpec)) linkNobodyUptoCard
end Rows
end Go.Proofs.YthcomjhpjlcpdaaGreatDoor
