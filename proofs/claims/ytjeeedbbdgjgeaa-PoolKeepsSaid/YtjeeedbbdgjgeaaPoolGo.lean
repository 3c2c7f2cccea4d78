/- The laws of layer 11 at the arguments as they come. -/
import Derived.Test.YtjeeedbbdgjgeaaPoolKeeps2
import Derived.OpenShut
import Derived.ProofKit
namespace Go.Proofs.Ytjeeedbbdgjgeaa
open Go.RowKit
theorem poolKeeps_go {W : World} (v : Value) (ls : List (List UInt8)) (o n : Int) (hv : StrArg W v ls) (ho : (Lit.int .u64 o).wf = true) (hn : (Lit.int .u32 n).wf = true) :
    Calls Try.prog 7 #[v, .agg #[.int .u64 o, .int .u32 n]] W fun e w' => e = .returned (.bool true) ∧ Below W.heap.size W w' := by
  have h1 := bounds_u64 ho
  have h2 := bounds_u32 hn
  obtain ⟨o, rfl⟩ := Int.eq_ofNat_of_zero_le (show 0 ≤ o by omega)
  obtain ⟨n, rfl⟩ := Int.eq_ofNat_of_zero_le (show 0 ≤ n by omega)
  exact poolKeeps_walk v ls o n W hv
end Go.Proofs.Ytjeeedbbdgjgeaa
