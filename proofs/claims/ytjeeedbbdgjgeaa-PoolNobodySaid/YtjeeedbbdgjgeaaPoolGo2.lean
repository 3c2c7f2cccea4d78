/- The law PoolNobody at the arguments as they come. -/
import Derived.Test.YtjeeedbbdgjgeaaPoolNobody
import Derived.OpenShut
import Derived.ProofKit
namespace Go.Proofs.Ytjeeedbbdgjgeaa
open Go.RowKit
theorem poolNobody_go (s : ByteArray) (o n : Int) (hs : s.size ≤ maxLen) (ho : (Lit.int .u64 o).wf = true) (hn : (Lit.int .u32 n).wf = true) (W : World) :
    Calls Try.prog 10 #[.string s, .agg #[.int .u64 o, .int .u32 n]] W fun e w' => e = .returned (.bool true) ∧ Below W.heap.size W w' := by
  have h1 := bounds_u64 ho
  have h2 := bounds_u32 hn
  obtain ⟨o, rfl⟩ := Int.eq_ofNat_of_zero_le (show 0 ≤ o by omega)
  obtain ⟨n, rfl⟩ := Int.eq_ofNat_of_zero_le (show 0 ≤ n by omega)
  exact poolNobody_walk s o n W (by unfold maxLen at hs; omega)
end Go.Proofs.Ytjeeedbbdgjgeaa
