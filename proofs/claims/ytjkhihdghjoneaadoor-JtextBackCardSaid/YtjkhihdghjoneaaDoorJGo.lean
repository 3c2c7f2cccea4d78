/- The law functions of layer 16, as the rows' proofs take them. -/
import Derived.Test.YtjkhihdghjoneaaDoorJQuotesLaw
import Derived.Test.YtjkhihdghjoneaaDoorJBackLaw
import Derived.Test.YtjkhihdghjoneaaDoorJEndsLaw
import Derived.Test.YtjkhihdghjoneaaDoorRows
import Derived.OpenShut
import Derived.MakeChecks
import Derived.PinnedBridge
import Derived.Lib.LaidU8T
namespace Go.Proofs.YtjkhihdghjoneaaDoor
open Go.RowKit Go.Lib

def renV : Go.Shelf.Ren := ⟨fun n => n, fun | 5 => 5 | 119 => 58 | 138 => 60 | 139 => 61 | n => n, fun | 3 => 0 | 4 => 1 | n => n⟩
theorem u8t : U8Types Tryd.prog renV := ⟨Tryd.underlying5, Tryd.underlying58, Tryd.underlying60, Tryd.underlying61⟩
theorem u8x : U8Extra Tryd.prog renV := ⟨by kernel_rfl, by kernel_rfl, by kernel_rfl, by kernel_rfl, by kernel_rfl, by kernel_rfl, by kernel_rfl⟩
theorem accept_data : (Rows.laid_unicode_utf8_acceptRanges : DataW Unit) = Go.Lib.acceptData := by kernel_rfl
theorem u8_of {W : World} {l : List (String × DataW Unit)} (h : laidMet Tryd.prog l W) (h1 : ("unicode/utf8.first", Rows.laid_unicode_utf8_first) ∈ l) (h2 : ("unicode/utf8.acceptRanges", Rows.laid_unicode_utf8_acceptRanges) ∈ l) : U8 W := by
  have h3 : Go.Lib.VarReads Tryd.prog W "unicode/utf8.first" Go.Lib.firstData := by
    have := Go.Lib.laidMet.reads h (n := "unicode/utf8.first") (d := Rows.laid_unicode_utf8_first) h1
    rwa [show (Rows.laid_unicode_utf8_first : DataW Unit) = Go.Lib.firstData from Pinned.utf8First_eq] at this
  have h4 : Go.Lib.VarReads Tryd.prog W "unicode/utf8.acceptRanges" Go.Lib.acceptData := by
    have := Go.Lib.laidMet.reads h (n := "unicode/utf8.acceptRanges") (d := Rows.laid_unicode_utf8_acceptRanges) h2
    rwa [accept_data] at this
  exact utf8Tabs_of_readsT u8t u8x h3 h4
theorem jtextQuotes_go (a0 : ByteArray) (w0 : a0.size ≤ maxLen) (W : World) (hL : laidMetH Tryd.prog Rows.jtextQuotesRow.laid W) (_ : W.ShapedOpen Tryd.prog) :
    Calls Tryd.prog 3 #[.string a0] W fun e w' => e = .returned (.bool true) ∧ Below W.heap.size W w' := by
  rw [MakeChecks.laidMetH_plain _ _ _ (by kernel_rfl)] at hL
  exact jtextQuotes_walk a0 W (u8_of hL (by simp [Rows.jtextQuotesRow]) (by simp [Rows.jtextQuotesRow])) (by unfold maxLen at w0; omega)
theorem jtextBack_go (a0 a1 a2 : ByteArray) (w0 : a0.size ≤ maxLen) (w1 : a1.size ≤ maxLen) (w2 : a2.size ≤ maxLen) (W : World) (hL : laidMetH Tryd.prog Rows.jtextBackRow.laid W) (_ : W.ShapedOpen Tryd.prog) :
    Calls Tryd.prog 4 #[.string a0, .string a1, .string a2] W fun e w' => e = .returned (.bool true) ∧ Below W.heap.size W w' := by
  rw [MakeChecks.laidMetH_plain _ _ _ (by kernel_rfl)] at hL
  exact jtextBack_walk a0 a1 a2 W (u8_of hL (by simp [Rows.jtextBackRow]) (by simp [Rows.jtextBackRow])) (by unfold maxLen at w0; omega) (by unfold maxLen at w1; omega) (by unfold maxLen at w2; omega)
theorem jtextEnds_go (a0 a1 : ByteArray) (a2 : Int) (w0 : a0.size ≤ maxLen) (w1 : a1.size ≤ maxLen) (w2 : (Lit.int .u8 a2).wf = true) (W : World) (hL : laidMetH Tryd.prog Rows.jtextEndsRow.laid W) (_ : W.ShapedOpen Tryd.prog) :
    Calls Tryd.prog 5 #[.string a0, .string a1, .int .u8 a2] W fun e w' => e = .returned (.bool true) ∧ Below W.heap.size W w' := by
  rw [MakeChecks.laidMetH_plain _ _ _ (by kernel_rfl)] at hL
  obtain ⟨b1, b2⟩ := bounds_u8 w2
  have e : a2 = ((UInt8.ofNat a2.toNat).toNat : Int) := by rw [UInt8.toNat_ofNat']; omega
  rw [e]
  exact jtextEnds_walk a0 a1 (UInt8.ofNat a2.toNat) W (u8_of hL (by simp [Rows.jtextEndsRow]) (by simp [Rows.jtextEndsRow])) (by unfold maxLen at w0; omega) (by unfold maxLen at w1; omega)
end Go.Proofs.YtjkhihdghjoneaaDoor
