/-
  DERIVED. GIVEN WITH THE SEED: THE CARDS: each row of YtcmkepkeeahioaaGreatDoorRows.lean that lists a variable, with what it lists TIED to the program's text (the seventh form; the later family's looks); each row that meets fmt, with fmt's text TOLD by the authors' own Lean function (tested against real Go, not proved from fmt's source: count such statements apart). THE CARD IS WHAT COUNTS. Prove the row's statement (the work); the ties are given (YtcmkepkeeahioaaGreatDoorTie.lean); close each card by the builder's one call (the guide's Derived/Test/ToyasCard.lean, 'card_holds'). Laid BY PROGRAM, IN A SANDBOX (cutbox-door.mjs). By AI agents, Wed Nov 11 2026. No macro, syntax, notation, axiom, sorry.
-/
import Derived.Test.YtcmkepkeeahioaaGreatDoorRows
import GoSem.ClaimSeven
namespace Go.Proofs.YtcmkepkeeahioaaGreatDoor
namespace Rows

/-- THE TIED CARD OF 'gazetteerlaw17.NotesPuts'. -/
def notesPutsCard : Claim7 := { stood := { row := notesPutsRow, standIns := [], harness := (true, "efaa75850aa8feb98889192bc2719de57ba8b897777f649a634d780bce96df81"), looks := true }, kinds := [], alts := [], laidByText := true, laidKinds := [.data, .data, .data, .data, .sentinel, .sentinel, .pinned], laidTests := true, laidLooks := .later }
def NotesPutsCardSaid : Prop := Claim7.holds Tryz.pinned (.plain (OpenSpec.ofChange notesPutsSpec)) notesPutsCard

/-- THE TIED CARD OF 'gazetteerlaw17.NotesBack'. -/
def notesBackCard : Claim7 := { stood := { row := notesBackRow, standIns := [], harness := (true, "efaa75850aa8feb98889192bc2719de57ba8b897777f649a634d780bce96df81"), looks := true }, kinds := [], alts := [], laidByText := true, laidKinds := [.data, .data, .data, .data, .sentinel, .sentinel, .pinned], laidTests := true, laidLooks := .later }
def NotesBackCardSaid : Prop := Claim7.holds Tryz.pinned (.plain (OpenSpec.ofChange notesBackSpec)) notesBackCard

/-- THE TIED CARD OF 'gazetteerlaw17.NotesEnds'. -/
def notesEndsCard : Claim7 := { stood := { row := notesEndsRow, standIns := [], harness := (true, "efaa75850aa8feb98889192bc2719de57ba8b897777f649a634d780bce96df81"), looks := true }, kinds := [], alts := [], laidByText := true, laidKinds := [.data, .data, .data, .data, .sentinel, .sentinel, .pinned], laidTests := true, laidLooks := .later }
def NotesEndsCardSaid : Prop := Claim7.holds Tryz.pinned (.plain (OpenSpec.ofChange notesEndsSpec)) notesEndsCard

/-- THE SECOND FORM's CARD OF 'gazetteerlaw17.NotesPuts'. -/
def notesPutsUptoCard : Claim7 := { stood := { row := notesPutsUptoRow, standIns := [], harness := (true, "efaa75850aa8feb98889192bc2719de57ba8b897777f649a634d780bce96df81"), looks := true }, kinds := [], alts := [], laidByText := true, laidKinds := [.data, .data, .data, .data, .sentinel, .sentinel, .pinned], laidTests := true, laidLooks := .later }
def NotesPutsUptoCardSaid : Prop := Claim7.holds Tryz.pinned (.plain (OpenSpec.upto notesPutsSpec)) notesPutsUptoCard

/-- THE SECOND FORM's CARD OF 'gazetteerlaw17.NotesBack'. -/
def notesBackUptoCard : Claim7 := { stood := { row := notesBackUptoRow, standIns := [], harness := (true, "efaa75850aa8feb98889192bc2719de57ba8b897777f649a634d780bce96df81"), looks := true }, kinds := [], alts := [], laidByText := true, laidKinds := [.data, .data, .data, .data, .sentinel, .sentinel, .pinned], laidTests := true, laidLooks := .later }
def NotesBackUptoCardSaid : Prop := Claim7.holds Tryz.pinned (.plain (OpenSpec.upto notesBackSpec)) notesBackUptoCard

/-- THE SECOND FORM's CARD OF 'gazetteerlaw17.NotesEnds'. -/
def notesEndsUptoCard : Claim7 := { stood := { row := notesEndsUptoRow, standIns := [], harness := (true, "efaa75850aa8feb98889192bc2719de57ba8b897777f649a634d780bce96df81"), looks := true }, kinds := [], alts := [], laidByText := true, laidKinds := [.data, .data, .data, .data, .sentinel, .sentinel, .pinned], laidTests := true, laidLooks := .later }
def NotesEndsUptoCardSaid : Prop := Claim7.holds Tryz.pinned (.plain (OpenSpec.upto notesEndsSpec)) notesEndsUptoCard
end Rows
end Go.Proofs.YtcmkepkeeahioaaGreatDoor
