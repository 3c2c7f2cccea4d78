/-
  DERIVED. GIVEN WITH THE SEED: THE CARDS: each row of YtjkhihdghjoneaaDoorRows.lean that lists a variable, with what it lists TIED to the program's text (the seventh form; the later family's looks); each row that meets fmt, with fmt's text TOLD by the authors' own Lean function (tested against real Go, not proved from fmt's source: count such statements apart). THE CARD IS WHAT COUNTS. Prove the row's statement (the work); the ties are given (YtjkhihdghjoneaaDoorTie.lean); close each card by the builder's one call (the guide's Derived/Test/ToyasCard.lean, 'card_holds'). Laid BY PROGRAM, IN A SANDBOX (cutbox-door.mjs). By AI agents, Wed Nov 11 2026. No macro, syntax, notation, axiom, sorry.
-/
import Derived.Test.YtjkhihdghjoneaaDoorRows
import GoSem.ClaimSeven
namespace Go.Proofs.YtjkhihdghjoneaaDoor
namespace Rows

/-- THE TIED CARD OF 'gazetteerlaw16.JtextQuotes'. -/
def jtextQuotesCard : Claim7 := { stood := { row := jtextQuotesRow, standIns := [], harness := (true, "c5defe2c5c1056d35f4dfa211548fab13e655212cd405ce2959df50f67845470"), looks := false }, kinds := [], alts := [], laidByText := true, laidKinds := [.data, .pinned], laidTests := true, laidLooks := .later }
def JtextQuotesCardSaid : Prop := Claim7.holds Tryd.pinned (.plain (OpenSpec.ofChange jtextQuotesSpec)) jtextQuotesCard

/-- THE TIED CARD OF 'gazetteerlaw16.JtextBack'. -/
def jtextBackCard : Claim7 := { stood := { row := jtextBackRow, standIns := [], harness := (true, "c5defe2c5c1056d35f4dfa211548fab13e655212cd405ce2959df50f67845470"), looks := false }, kinds := [], alts := [], laidByText := true, laidKinds := [.data, .pinned], laidTests := true, laidLooks := .later }
def JtextBackCardSaid : Prop := Claim7.holds Tryd.pinned (.plain (OpenSpec.ofChange jtextBackSpec)) jtextBackCard

/-- THE TIED CARD OF 'gazetteerlaw16.JtextEnds'. -/
def jtextEndsCard : Claim7 := { stood := { row := jtextEndsRow, standIns := [], harness := (true, "c5defe2c5c1056d35f4dfa211548fab13e655212cd405ce2959df50f67845470"), looks := false }, kinds := [], alts := [], laidByText := true, laidKinds := [.data, .pinned], laidTests := true, laidLooks := .later }
def JtextEndsCardSaid : Prop := Claim7.holds Tryd.pinned (.plain (OpenSpec.ofChange jtextEndsSpec)) jtextEndsCard

/-- THE SECOND FORM's CARD OF 'gazetteerlaw16.JtextQuotes'. -/
def jtextQuotesUptoCard : Claim7 := { stood := { row := jtextQuotesUptoRow, standIns := [], harness := (true, "c5defe2c5c1056d35f4dfa211548fab13e655212cd405ce2959df50f67845470"), looks := false }, kinds := [], alts := [], laidByText := true, laidKinds := [.data, .pinned], laidTests := true, laidLooks := .later }
def JtextQuotesUptoCardSaid : Prop := Claim7.holds Tryd.pinned (.plain (OpenSpec.upto jtextQuotesSpec)) jtextQuotesUptoCard

/-- THE SECOND FORM's CARD OF 'gazetteerlaw16.JtextBack'. -/
def jtextBackUptoCard : Claim7 := { stood := { row := jtextBackUptoRow, standIns := [], harness := (true, "c5defe2c5c1056d35f4dfa211548fab13e655212cd405ce2959df50f67845470"), looks := false }, kinds := [], alts := [], laidByText := true, laidKinds := [.data, .pinned], laidTests := true, laidLooks := .later }
def JtextBackUptoCardSaid : Prop := Claim7.holds Tryd.pinned (.plain (OpenSpec.upto jtextBackSpec)) jtextBackUptoCard

/-- THE SECOND FORM's CARD OF 'gazetteerlaw16.JtextEnds'. -/
def jtextEndsUptoCard : Claim7 := { stood := { row := jtextEndsUptoRow, standIns := [], harness := (true, "c5defe2c5c1056d35f4dfa211548fab13e655212cd405ce2959df50f67845470"), looks := false }, kinds := [], alts := [], laidByText := true, laidKinds := [.data, .pinned], laidTests := true, laidLooks := .later }
def JtextEndsUptoCardSaid : Prop := Claim7.holds Tryd.pinned (.plain (OpenSpec.upto jtextEndsSpec)) jtextEndsUptoCard
end Rows
end Go.Proofs.YtjkhihdghjoneaaDoor
