/-
  DERIVED. GIVEN WITH THE SEED: THE CARDS: each row of YtilaebjndadkhaaGreatDoorRows.lean that lists a variable, with what it lists TIED to the program's text (the seventh form; the later family's looks); each row that meets fmt, with fmt's text TOLD by the authors' own Lean function (tested against real Go, not proved from fmt's source: count such statements apart). THE CARD IS WHAT COUNTS. Prove the row's statement (the work); the ties are given (YtilaebjndadkhaaGreatDoorTie.lean); close each card by the builder's one call (the guide's Derived/Test/ToyasCard.lean, 'card_holds'). Laid BY PROGRAM, IN A SANDBOX (cutbox-door.mjs). By AI agents, Wed Nov 11 2026. No macro, syntax, notation, axiom, sorry.
-/
import Derived.Test.YtilaebjndadkhaaGreatDoorRows
import GoSem.ClaimSeven
namespace Go.Proofs.YtilaebjndadkhaaGreatDoor
namespace Rows

/-- THE TIED CARD OF 'gazetteertop.TopReach'. -/
def topReachCard : Claim7 := { stood := { row := topReachRow, standIns := [], harness := (true, "734f9b377742e55384cb8fb6089564f45b208899008b655065eb13bf405efaca"), looks := true }, kinds := [], alts := [], laidByText := true, laidKinds := [.data, .data, .data, .data, .handle, .sentinel, .sentinel, .pinned], laidTests := true, laidLooks := .later }
def TopReachCardSaid : Prop := Claim7.holds Tryz.pinned (.plain (OpenSpec.ofChange topReachSpec)) topReachCard

/-- THE SECOND FORM's CARD OF 'gazetteertop.TopReach'. -/
def topReachUptoCard : Claim7 := { stood := { row := topReachUptoRow, standIns := [], harness := (true, "734f9b377742e55384cb8fb6089564f45b208899008b655065eb13bf405efaca"), looks := true }, kinds := [], alts := [], laidByText := true, laidKinds := [.data, .data, .data, .data, .handle, .sentinel, .sentinel, .pinned], laidTests := true, laidLooks := .later }
def TopReachUptoCardSaid : Prop := Claim7.holds Tryz.pinned (.plain (OpenSpec.upto topReachSpec)) topReachUptoCard
end Rows
end Go.Proofs.YtilaebjndadkhaaGreatDoor
