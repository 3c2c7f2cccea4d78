/-
  DERIVED. GIVEN WITH THE SEED: THE CARDS: each row of YtomkeckknoclcaaGreatDoorRows.lean that lists a variable, with what it lists TIED to the program's text (the seventh form; the later family's looks); each row that meets fmt, with fmt's text TOLD by the authors' own Lean function (tested against real Go, not proved from fmt's source: count such statements apart). THE CARD IS WHAT COUNTS. Prove the row's statement (the work); the ties are given (YtomkeckknoclcaaGreatDoorTie.lean); close each card by the builder's one call (the guide's Derived/Test/ToyasCard.lean, 'card_holds'). Laid BY PROGRAM, IN A SANDBOX (cutbox-door.mjs). By AI agents, Wed Nov 11 2026. No macro, syntax, notation, axiom, sorry.
-/
import Derived.Test.YtomkeckknoclcaaGreatDoorRows
import GoSem.ClaimSeven
namespace Go.Proofs.YtomkeckknoclcaaGreatDoor
namespace Rows

/-- THE TIED CARD OF 'gazetteerlaw29.LinkAsks'. -/
def linkAsksCard : Claim7 := { stood := { row := linkAsksRow, standIns := [], harness := (true, "03f675b90c0d5914bf84531912879b83ba375c562d275ad3d8f0083b6cc32e3f"), looks := true }, kinds := [], alts := [], laidByText := true, laidKinds := [.data, .data, .data, .data, .sentinel, .sentinel, .pinned], laidTests := true, laidLooks := .later }
def LinkAsksCardSaid : Prop := Claim7.holds Tryz.pinned (.plain (OpenSpec.ofChange linkAsksSpec)) linkAsksCard

/-- THE TIED CARD OF 'gazetteerlaw29.LinkClean'. -/
def linkCleanCard : Claim7 := { stood := { row := linkCleanRow, standIns := [], harness := (true, "03f675b90c0d5914bf84531912879b83ba375c562d275ad3d8f0083b6cc32e3f"), looks := true }, kinds := [], alts := [], laidByText := true, laidKinds := [.data, .data, .data, .data, .sentinel, .sentinel, .pinned], laidTests := true, laidLooks := .later }
def LinkCleanCardSaid : Prop := Claim7.holds Tryz.pinned (.plain (OpenSpec.ofChange linkCleanSpec)) linkCleanCard

/-- THE TIED CARD OF 'gazetteerlaw29.LinkScripts'. -/
def linkScriptsCard : Claim7 := { stood := { row := linkScriptsRow, standIns := [], harness := (true, "03f675b90c0d5914bf84531912879b83ba375c562d275ad3d8f0083b6cc32e3f"), looks := true }, kinds := [], alts := [], laidByText := true, laidKinds := [.data, .data, .data, .data, .sentinel, .sentinel, .pinned], laidTests := true, laidLooks := .later }
def LinkScriptsCardSaid : Prop := Claim7.holds Tryz.pinned (.plain (OpenSpec.ofChange linkScriptsSpec)) linkScriptsCard

/-- THE TIED CARD OF 'gazetteerlaw29.LinkForks'. -/
def linkForksCard : Claim7 := { stood := { row := linkForksRow, standIns := [], harness := (true, "03f675b90c0d5914bf84531912879b83ba375c562d275ad3d8f0083b6cc32e3f"), looks := true }, kinds := [], alts := [], laidByText := true, laidKinds := [.data, .data, .data, .data, .sentinel, .sentinel, .pinned], laidTests := true, laidLooks := .later }
def LinkForksCardSaid : Prop := Claim7.holds Tryz.pinned (.plain (OpenSpec.ofChange linkForksSpec)) linkForksCard

/-- THE SECOND FORM's CARD OF 'gazetteerlaw29.LinkAsks'. -/
def linkAsksUptoCard : Claim7 := { stood := { row := linkAsksUptoRow, standIns := [], harness := (true, "03f675b90c0d5914bf84531912879b83ba375c562d275ad3d8f0083b6cc32e3f"), looks := true }, kinds := [], alts := [], laidByText := true, laidKinds := [.data, .data, .data, .data, .sentinel, .sentinel, .pinned], laidTests := true, laidLooks := .later }
def LinkAsksUptoCardSaid : Prop := Claim7.holds Tryz.pinned (.plain (OpenSpec.upto linkAsksSpec)) linkAsksUptoCard

/-- THE SECOND FORM's CARD OF 'gazetteerlaw29.LinkClean'. -/
def linkCleanUptoCard : Claim7 := { stood := { row := linkCleanUptoRow, standIns := [], harness := (true, "03f675b90c0d5914bf84531912879b83ba375c562d275ad3d8f0083b6cc32e3f"), looks := true }, kinds := [], alts := [], laidByText := true, laidKinds := [.data, .data, .data, .data, .sentinel, .sentinel, .pinned], laidTests := true, laidLooks := .later }
def LinkCleanUptoCardSaid : Prop := Claim7.holds Tryz.pinned (.plain (OpenSpec.upto linkCleanSpec)) linkCleanUptoCard

/-- THE SECOND FORM's CARD OF 'gazetteerlaw29.LinkScripts'. -/
def linkScriptsUptoCard : Claim7 := { stood := { row := linkScriptsUptoRow, standIns := [], harness := (true, "03f675b90c0d5914bf84531912879b83ba375c562d275ad3d8f0083b6cc32e3f"), looks := true }, kinds := [], alts := [], laidByText := true, laidKinds := [.data, .data, .data, .data, .sentinel, .sentinel, .pinned], laidTests := true, laidLooks := .later }
def LinkScriptsUptoCardSaid : Prop := Claim7.holds Tryz.pinned (.plain (OpenSpec.upto linkScriptsSpec)) linkScriptsUptoCard

/-- THE SECOND FORM's CARD OF 'gazetteerlaw29.LinkForks'. -/
def linkForksUptoCard : Claim7 := { stood := { row := linkForksUptoRow, standIns := [], harness := (true, "03f675b90c0d5914bf84531912879b83ba375c562d275ad3d8f0083b6cc32e3f"), looks := true }, kinds := [], alts := [], laidByText := true, laidKinds := [.data, .data, .data, .data, .sentinel, .sentinel, .pinned], laidTests := true, laidLooks := .later }
def LinkForksUptoCardSaid : Prop := Claim7.holds Tryz.pinned (.plain (OpenSpec.upto linkForksSpec)) linkForksUptoCard
end Rows
end Go.Proofs.YtomkeckknoclcaaGreatDoor
