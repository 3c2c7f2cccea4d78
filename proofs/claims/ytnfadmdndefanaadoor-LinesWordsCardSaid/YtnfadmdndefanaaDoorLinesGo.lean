/- The law functions of layer 21, as the rows' proofs take them. -/
import Derived.Test.YtnfadmdndefanaaDoorLinesLaws
import Derived.Test.YtnfadmdndefanaaDoorLinesBackWalk
import Derived.Test.YtnfadmdndefanaaDoorLinesWordsWalk
import Derived.Test.YtnfadmdndefanaaDoorLinesLongWalk
import Derived.Test.YtnfadmdndefanaaDoorRows
import Derived.OpenShut
namespace Go.Proofs.YtnfadmdndefanaaDoor
open Go.RowKit
theorem linesTakes_go (a0 : ByteArray) (a1 : Int) (a2 : ByteArray) (w0 : a0.size ≤ maxLen) (_ : (Lit.int .i64 a1).wf = true) (w2 : a2.size ≤ maxLen) (W : World) (_ : laidMetH Tryd.prog Rows.linesTakesRow.laid W) (hsh : W.ShapedOpen Tryd.prog) :
    Calls Tryd.prog 3 #[.string a0, .int .i64 a1, .string a2] W fun e w' => e = .returned (.bool true) ∧ Below W.heap.size W w' := by
  obtain ⟨m, hm⟩ := maxLen_of hsh
  exact linesTakes_walk a0 a1 a2 m W hm (by unfold maxLen at w0; omega) (by unfold maxLen at w2; omega)
theorem linesHeads_go (a0 : ByteArray) (w0 : a0.size ≤ maxLen) (W : World) (_ : laidMetH Tryd.prog Rows.linesHeadsRow.laid W) (hsh : W.ShapedOpen Tryd.prog) :
    Calls Tryd.prog 4 #[.string a0] W fun e w' => e = .returned (.bool true) ∧ Below W.heap.size W w' := by
  obtain ⟨m, hm⟩ := maxLen_of hsh
  exact linesHeads_walk a0 m W hm (by unfold maxLen at w0; omega)
theorem linesBack_go {W : World} (v0 : Value) (ls : List (List UInt8)) (a1 : ByteArray) (a2 : Int) (w0 : StrArg W v0 ls) (w1 : a1.size ≤ maxLen) (w2 : (Lit.int .u16 a2).wf = true) (_ : laidMetH Tryd.prog Rows.linesBackRow.laid W) (hsh : W.ShapedOpen Tryd.prog) :
    Calls Tryd.prog 5 #[v0, .string a1, .int .u16 a2] W fun e w' => e = .returned (.bool true) ∧ Below W.heap.size W w' := by
  obtain ⟨m, hm⟩ := maxLen_of hsh
  have hb := bounds_u16 w2
  obtain ⟨c, rfl⟩ : ∃ c : Nat, a2 = c := ⟨a2.toNat, by omega⟩
  obtain ⟨h1, h2, h3⟩ := w0
  exact linesBack_walk v0 ls a1 c m W h1 hm (by unfold maxLen at w1; omega) (by unfold maxLen at h3; omega) (fun x hx => by have := h2 x hx; unfold maxLen at this; omega) (by omega)
theorem linesWords_go (a0 : ByteArray) (w0 : a0.size ≤ maxLen) (W : World) (_ : laidMetH Tryd.prog Rows.linesWordsRow.laid W) (hsh : W.ShapedOpen Tryd.prog) :
    Calls Tryd.prog 6 #[.string a0] W fun e w' => e = .returned (.bool true) ∧ Below W.heap.size W w' := by
  obtain ⟨m, hm⟩ := maxLen_of hsh
  exact linesWords_walk a0 m W hm (by unfold maxLen at w0; omega)
theorem linesLong_go (a0 : Int) (a1 : ByteArray) (w0 : (Lit.int .u8 a0).wf = true) (w1 : a1.size ≤ maxLen) (W : World) (_ : laidMetH Tryd.prog Rows.linesLongRow.laid W) (hsh : W.ShapedOpen Tryd.prog) :
    Calls Tryd.prog 7 #[.int .u8 a0, .string a1] W fun e w' => e = .returned (.bool true) ∧ Below W.heap.size W w' := by
  obtain ⟨m, hm⟩ := maxLen_of hsh
  have hb := bounds_u8 w0
  obtain ⟨c, rfl⟩ : ∃ c : UInt8, a0 = (c.toNat : Int) := ⟨UInt8.ofNat a0.toNat, by rw [UInt8.toNat_ofNat', Nat.mod_eq_of_lt (by omega)]; omega⟩
  exact linesLong_walk c a1 m W hm (by unfold maxLen at w1; omega)
end Go.Proofs.YtnfadmdndefanaaDoor
