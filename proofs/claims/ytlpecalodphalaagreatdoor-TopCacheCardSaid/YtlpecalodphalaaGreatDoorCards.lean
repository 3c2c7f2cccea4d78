/-
  DERIVED. GIVEN WITH THE SEED: THE CARDS: each row of YtlpecalodphalaaGreatDoorRows.lean that lists a variable, with what it lists TIED to the program's text (the seventh form; the later family's looks); each row that meets fmt, with fmt's text TOLD by the authors' own Lean function (tested against real Go, not proved from fmt's source: count such statements apart). THE CARD IS WHAT COUNTS. Prove the row's statement (the work); the ties are given (YtlpecalodphalaaGreatDoorTie.lean); close each card by the builder's one call (the guide's Derived/Test/ToyasCard.lean, 'card_holds'). Laid BY PROGRAM, IN A SANDBOX (cutbox-door.mjs). By AI agents, Wed Nov 11 2026. No macro, syntax, notation, axiom, sorry.
-/
import Derived.Test.YtlpecalodphalaaGreatDoorRows
import GoSem.ClaimSeven
namespace Go.Proofs.YtlpecalodphalaaGreatDoor
namespace Rows

/-- THE TIED CARD OF 'gazetteertop.TopCache'. -/
def topCacheCard : Claim7 := { stood := { row := topCacheRow, standIns := [], harness := (true, "d242db6cfd6aaa436869e556a4d73e4165bae3e782475f5ff9185ecf4647bdaf"), looks := true }, kinds := [], alts := [], laidByText := true, laidKinds := [.data, .data, .data, .data, .handle, .sentinel, .sentinel, .pinned], laidTests := true, laidLooks := .later }
def TopCacheCardSaid : Prop := Claim7.holds Tryz.pinned (.plain (OpenSpec.ofChange topCacheSpec)) topCacheCard

/-- THE SECOND FORM's CARD OF 'gazetteertop.TopCache'. -/
def topCacheUptoCard : Claim7 := { stood := { row := topCacheUptoRow, standIns := [], harness := (true, "d242db6cfd6aaa436869e556a4d73e4165bae3e782475f5ff9185ecf4647bdaf"), looks := true }, kinds := [], alts := [], laidByText := true, laidKinds := [.data, .data, .data, .data, .handle, .sentinel, .sentinel, .pinned], laidTests := true, laidLooks := .later }
def TopCacheUptoCardSaid : Prop := Claim7.holds Tryz.pinned (.plain (OpenSpec.upto topCacheSpec)) topCacheUptoCard
end Rows
end Go.Proofs.YtlpecalodphalaaGreatDoor
