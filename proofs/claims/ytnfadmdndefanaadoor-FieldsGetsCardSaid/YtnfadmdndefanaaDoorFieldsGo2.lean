/- The law functions FieldsGets and FieldsNumbers, as the rows' proofs take them. -/
import Derived.Test.YtnfadmdndefanaaDoorFieldsNumbersLaw
import Derived.Test.YtnfadmdndefanaaDoorFieldArg
import Derived.Test.YtnfadmdndefanaaDoorEnvOf
namespace Go.Proofs.YtnfadmdndefanaaDoor
open Go.RowKit
theorem fieldsGets_go (v : Value) (a0 : List (List UInt8 × List UInt8)) (a1 : ByteArray) (a2 : Int) (W : World) (w0 : FieldArg W v a0) (w1 : a1.size ≤ maxLen) (w2 : (Lit.int .i64 a2).wf = true) (hL : laidMetH Tryd.prog Rows.fieldsGetsRow.laid W) (hsh : W.ShapedOpen Tryd.prog) :
    Calls Tryd.prog 10 #[v, .string a1, .int .i64 a2] W fun e w' => e = .returned (.bool true) ∧ Below W.heap.size W w' := by
  rw [MakeChecks.laidMetH_plain _ _ _ (by kernel_rfl)] at hL
  obtain ⟨b1, b2⟩ := bounds_i64 w2
  exact fieldsGets_walk v a0 a1 a2 W (env_of hL (by simp) hsh) w0.1 (by have := w0.2.2; unfold maxLen at this; omega) (by unfold maxLen at w1; omega) (by omega) (by omega)
theorem fieldsNumbers_go (a0 : Int) (a1 : ByteArray) (w0 : (Lit.int .i64 a0).wf = true) (w1 : a1.size ≤ maxLen) (W : World) (hL : laidMetH Tryd.prog Rows.fieldsNumbersRow.laid W) (hsh : W.ShapedOpen Tryd.prog) :
    Calls Tryd.prog 11 #[.int .i64 a0, .string a1] W fun e w' => e = .returned (.bool true) ∧ Below W.heap.size W w' := by
  rw [MakeChecks.laidMetH_plain _ _ _ (by kernel_rfl)] at hL
  obtain ⟨b1, b2⟩ := bounds_i64 w0
  exact fieldsNumbers_walk a0 a1 W (env_of hL (by simp) hsh) (by unfold maxLen at w1; omega) (by omega) (by omega)
end Go.Proofs.YtnfadmdndefanaaDoor
