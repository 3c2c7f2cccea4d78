/-
  NARROWER THAN 'FOR EVERY INPUT', by the rows' own cells (each row's printed sentence says how): JtextQuotes: laid · JtextBack: laid · JtextEnds: laid.
  DERIVED. THE GIVEN ROWS OF THIS SEAT. 3 by the template 'for every input the law returns true; each argument reads behind the call as it read before'; 0 by the template 'total and deterministic' (their statements: YtjkhihdghjoneaaDoorTotals.lean).
  GIVEN WITH THE SEED: the statements are not yours to turn. If you find one false, say at which input.
  Laid BY PROGRAM, IN A SANDBOX (cutbox-rows.mjs): the forced cells as the released guide's own fill.sh prints them over the translation 3f8acb4be8e66d5d… (all of the seat's roots in one cut). By AI agents, Wed Nov 11 2026. No macro, syntax, notation, axiom, sorry.
-/
import Derived.Test.YtjkhihdghjoneaaDoorChecked
import GoSem.PinnedTables
import GoSem.Claim
import GoSem.ClaimJoined
import GoSem.ClaimMapViews
import Derived.JoinedTies
import Derived.KernelRfl
namespace Go.Proofs.YtjkhihdghjoneaaDoor
/- THE CELL 'sum', in the pinned program and in every row, IS THE sha256 OF THE DUMP (.gsa) THAT YtjkhihdghjoneaaDoorProg.lean LOADS. Nothing in Lean hashes anything: it is a label: what it is worth is what the hold of that sum in a sandbox is worth. -/
noncomputable def Tryd.pinned : Pinned := { name := "ytjkhihdghjoneaadoor", sum := "3f8acb4be8e66d5da317f8b11666d33fb0141b1364996014dc9ef626b2bcf8ba", checked := Tryd.checked }
namespace Rows
def none {H : Type} : Left H := { results := [], args := [] }

/- WHAT THE LISTED PACKAGE-LEVEL VARIABLES READ AS WHEN THE CALL BEGINS. Each datum BY PROGRAM (the guide's laid-datum.mjs) off the statement by which the dump's own 'gosem.cut.vars' lays the variable. In a bare row this is a premise. The card (YtjkhihdghjoneaaDoorCards.lean) ties it to the program's text. -/
def laid_unicode_utf8_acceptRanges {H : Type} : DataW H := .agg [.agg [.lit (.int .u8 128), .lit (.int .u8 191)], .agg [.lit (.int .u8 160), .lit (.int .u8 191)], .agg [.lit (.int .u8 128), .lit (.int .u8 159)], .agg [.lit (.int .u8 144), .lit (.int .u8 191)], .agg [.lit (.int .u8 128), .lit (.int .u8 143)], .agg [.lit (.int .u8 0), .lit (.int .u8 0)], .agg [.lit (.int .u8 0), .lit (.int .u8 0)], .agg [.lit (.int .u8 0), .lit (.int .u8 0)], .agg [.lit (.int .u8 0), .lit (.int .u8 0)], .agg [.lit (.int .u8 0), .lit (.int .u8 0)], .agg [.lit (.int .u8 0), .lit (.int .u8 0)], .agg [.lit (.int .u8 0), .lit (.int .u8 0)], .agg [.lit (.int .u8 0), .lit (.int .u8 0)], .agg [.lit (.int .u8 0), .lit (.int .u8 0)], .agg [.lit (.int .u8 0), .lit (.int .u8 0)], .agg [.lit (.int .u8 0), .lit (.int .u8 0)]]
/-- One of Go's own tables, pinned by name: the form's constant. -/
def laid_unicode_utf8_first : DataW Unit := Go.Pinned.utf8First

/-- 'gazetteerlaw16.JtextQuotes': WHATEVER THE INPUT: true; the input reads as it did. -/
def jtextQuotesSpec : ChangeSpec := { name := "jtextQuotes", fn := fun _ => fun
  | [d] => { results := [.lit (.bool true)], args := [d] }
  | _ => none }
def jtextQuotesRow : OpenClaim := { program := "ytjkhihdghjoneaadoor", sum := "3f8acb4be8e66d5da317f8b11666d33fb0141b1364996014dc9ef626b2bcf8ba", func := "gazetteer/gazetteerlaw16.JtextQuotes", spec := "jtextQuotes", inPlace := ["internal/abi.NoEscape"], named := ["unicode/utf8.first", "unicode/utf8.acceptRanges"], apart := false, laid := [("unicode/utf8.acceptRanges", laid_unicode_utf8_acceptRanges), ("unicode/utf8.first", laid_unicode_utf8_first)] }
def JtextQuotesSaid : Prop := jtextQuotesRow.holds Tryd.pinned (OpenSpec.ofChange jtextQuotesSpec)

/-- ITS FALSE NEIGHBOUR: 'it returns false'. Refute it at one input. -/
def jtextQuotesWrong : ChangeSpec := { name := "jtextQuotes", fn := fun _ => fun
  | [d] => { results := [.lit (.bool false)], args := [d] }
  | _ => none }
def JtextQuotesWrongFalsely : Prop := jtextQuotesRow.holds Tryd.pinned (OpenSpec.ofChange jtextQuotesWrong)

/-- 'gazetteerlaw16.JtextBack': WHATEVER THE INPUT: true; the input reads as it did. -/
def jtextBackSpec : ChangeSpec := { name := "jtextBack", fn := fun _ => fun
  | [d1, d2, d3] => { results := [.lit (.bool true)], args := [d1, d2, d3] }
  | _ => none }
def jtextBackRow : OpenClaim := { program := "ytjkhihdghjoneaadoor", sum := "3f8acb4be8e66d5da317f8b11666d33fb0141b1364996014dc9ef626b2bcf8ba", func := "gazetteer/gazetteerlaw16.JtextBack", spec := "jtextBack", inPlace := ["internal/abi.NoEscape"], named := ["unicode/utf8.first", "unicode/utf8.acceptRanges"], apart := false, laid := [("unicode/utf8.acceptRanges", laid_unicode_utf8_acceptRanges), ("unicode/utf8.first", laid_unicode_utf8_first)] }
def JtextBackSaid : Prop := jtextBackRow.holds Tryd.pinned (OpenSpec.ofChange jtextBackSpec)

/-- ITS FALSE NEIGHBOUR: 'it returns false'. Refute it at one input. -/
def jtextBackWrong : ChangeSpec := { name := "jtextBack", fn := fun _ => fun
  | [d1, d2, d3] => { results := [.lit (.bool false)], args := [d1, d2, d3] }
  | _ => none }
def JtextBackWrongFalsely : Prop := jtextBackRow.holds Tryd.pinned (OpenSpec.ofChange jtextBackWrong)

/-- 'gazetteerlaw16.JtextEnds': WHATEVER THE INPUT: true; the input reads as it did. -/
def jtextEndsSpec : ChangeSpec := { name := "jtextEnds", fn := fun _ => fun
  | [d1, d2, d3] => { results := [.lit (.bool true)], args := [d1, d2, d3] }
  | _ => none }
def jtextEndsRow : OpenClaim := { program := "ytjkhihdghjoneaadoor", sum := "3f8acb4be8e66d5da317f8b11666d33fb0141b1364996014dc9ef626b2bcf8ba", func := "gazetteer/gazetteerlaw16.JtextEnds", spec := "jtextEnds", inPlace := ["internal/abi.NoEscape"], named := ["unicode/utf8.first", "unicode/utf8.acceptRanges"], apart := false, laid := [("unicode/utf8.acceptRanges", laid_unicode_utf8_acceptRanges), ("unicode/utf8.first", laid_unicode_utf8_first)] }
def JtextEndsSaid : Prop := jtextEndsRow.holds Tryd.pinned (OpenSpec.ofChange jtextEndsSpec)

/-- ITS FALSE NEIGHBOUR: 'it returns false'. Refute it at one input. -/
def jtextEndsWrong : ChangeSpec := { name := "jtextEnds", fn := fun _ => fun
  | [d1, d2, d3] => { results := [.lit (.bool false)], args := [d1, d2, d3] }
  | _ => none }
def JtextEndsWrongFalsely : Prop := jtextEndsRow.holds Tryd.pinned (OpenSpec.ofChange jtextEndsWrong)

/- THE SECOND FORM. 'bulk': how many values and letters a reading holds, each counted each time it is reached (what is shared counts as often as it is met; a slice's spare places count too). A statement '..UptoSaid' is the law's where the arguments, and the package variables that the reading takes, are together of bulk at most 1048576: NARROWER than '..Said'. Prove '..Said' where nothing that the law and all that it calls make is longer than what came in: it says more and counts as full. Else prove '..UptoSaid'. A law counts once. -/
mutual
def uptoBulk {H : Type} : DataW H → Nat
  | .lit (.string bytes) => bytes.length + 1
  | .lit _ => 1
  | .nil => 1
  | .ptr d => uptoBulk d + 1
  | .slice elems spare => uptoBulkAll elems + uptoBulkAll spare + 1
  | .agg parts => uptoBulkAll parts + 1
  | .iface _ d => uptoBulk d + 1
  | .map entries => uptoBulkEntries entries + 1
  | .held _ => 1
def uptoBulkAll {H : Type} : List (DataW H) → Nat
  | [] => 0
  | d :: r => uptoBulk d + uptoBulkAll r
def uptoBulkEntries {H : Type} : List (Lit × DataW H) → Nat
  | [] => 0
  | x :: r => uptoBulkEntry x + uptoBulkEntries r
def uptoBulkEntry {H : Type} : Lit × DataW H → Nat
  | (.string bytes, d) => bytes.length + uptoBulk d + 1
  | (_, d) => uptoBulk d + 1
 end
def uptoSmall : (H : Type) → List (DataW H) → Bool := fun _ ds => decide (uptoBulkAll ds ≤ 1048576)
def OpenSpec.upto (s : _root_.Go.ChangeSpec) : _root_.Go.OpenSpec := { _root_.Go.OpenSpec.ofChange s with cond := some uptoSmall }

/-- 'gazetteerlaw16.JtextQuotes', WHERE WHAT IT READS IS OF BULK AT MOST 1048576: true; the input reads as it did. -/
def jtextQuotesUptoRow : OpenClaim := { program := "ytjkhihdghjoneaadoor", sum := "3f8acb4be8e66d5da317f8b11666d33fb0141b1364996014dc9ef626b2bcf8ba", func := "gazetteer/gazetteerlaw16.JtextQuotes", spec := "jtextQuotes", inPlace := ["internal/abi.NoEscape"], named := ["unicode/utf8.first", "unicode/utf8.acceptRanges"], apart := false, laid := [("unicode/utf8.acceptRanges", laid_unicode_utf8_acceptRanges), ("unicode/utf8.first", laid_unicode_utf8_first)], narrowed := true }
def JtextQuotesUptoSaid : Prop := jtextQuotesUptoRow.holds Tryd.pinned (OpenSpec.upto jtextQuotesSpec)

/-- 'gazetteerlaw16.JtextBack', WHERE WHAT IT READS IS OF BULK AT MOST 1048576: true; the input reads as it did. -/
def jtextBackUptoRow : OpenClaim := { program := "ytjkhihdghjoneaadoor", sum := "3f8acb4be8e66d5da317f8b11666d33fb0141b1364996014dc9ef626b2bcf8ba", func := "gazetteer/gazetteerlaw16.JtextBack", spec := "jtextBack", inPlace := ["internal/abi.NoEscape"], named := ["unicode/utf8.first", "unicode/utf8.acceptRanges"], apart := false, laid := [("unicode/utf8.acceptRanges", laid_unicode_utf8_acceptRanges), ("unicode/utf8.first", laid_unicode_utf8_first)], narrowed := true }
def JtextBackUptoSaid : Prop := jtextBackUptoRow.holds Tryd.pinned (OpenSpec.upto jtextBackSpec)

/-- 'gazetteerlaw16.JtextEnds', WHERE WHAT IT READS IS OF BULK AT MOST 1048576: true; the input reads as it did. -/
def jtextEndsUptoRow : OpenClaim := { program := "ytjkhihdghjoneaadoor", sum := "3f8acb4be8e66d5da317f8b11666d33fb0141b1364996014dc9ef626b2bcf8ba", func := "gazetteer/gazetteerlaw16.JtextEnds", spec := "jtextEnds", inPlace := ["internal/abi.NoEscape"], named := ["unicode/utf8.first", "unicode/utf8.acceptRanges"], apart := false, laid := [("unicode/utf8.acceptRanges", laid_unicode_utf8_acceptRanges), ("unicode/utf8.first", laid_unicode_utf8_first)], narrowed := true }
def JtextEndsUptoSaid : Prop := jtextEndsUptoRow.holds Tryd.pinned (OpenSpec.upto jtextEndsSpec)

end Rows
end Go.Proofs.YtjkhihdghjoneaaDoor
