/- The law function FieldsBack, as the row's proof takes it. -/
import Derived.Test.YtnfadmdndefanaaGreatDoorFieldsBackLaw
import Derived.Test.YtnfadmdndefanaaGreatDoorEnvOf
namespace Go.Proofs.YtnfadmdndefanaaGreatDoor
open Go.RowKit
theorem fieldsBack_go (a0 a1 : ByteArray) (a2 : Int) (_w0 : a0.size ≤ maxLen) (_w1 : a1.size ≤ maxLen) (w2 : (Lit.int .u8 a2).wf = true) (W : World) (hL : laidMetH Tryz.prog Rows.fieldsBackRow.laid W) (hsh : W.ShapedOpen Tryz.prog) :
    Calls Tryz.prog 5 #[.agg #[.string a0, .string a1], .int .u8 a2] W fun e w' => e = .returned (.bool true) ∧ Below W.heap.size W w' := by
  rw [MakeChecks.laidMetH_plain _ _ _ (by kernel_rfl)] at hL
  obtain ⟨b1, b2⟩ := bounds_u8 w2
  have e : a2 = ((UInt8.ofNat a2.toNat).toNat : Int) := by rw [UInt8.toNat_ofNat']; omega
  rw [e]
  exact fieldsBack_walk a0 a1 (UInt8.ofNat a2.toNat) W (env_of hL (by simp) hsh)
end Go.Proofs.YtnfadmdndefanaaGreatDoor
