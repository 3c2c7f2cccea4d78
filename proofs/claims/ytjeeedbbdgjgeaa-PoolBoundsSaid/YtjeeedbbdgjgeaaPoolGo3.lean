/- The law PoolBounds at the arguments as they come. -/
import Derived.Test.YtjeeedbbdgjgeaaPoolBounds2
import Derived.OpenShut
import Derived.ProofKit
namespace Go.Proofs.Ytjeeedbbdgjgeaa
open Go.RowKit
theorem poolBounds_go (c n : Int) (hc : (Lit.int .u8 c).wf = true) (hn : (Lit.int .u16 n).wf = true) (W : World) :
    Calls Try.prog 11 #[.int .u8 c, .int .u16 n] W fun e w' => e = .returned (.bool true) ∧ Below W.heap.size W w' := by
  have h1 := bounds_u8 hc
  have h2 := bounds_u16 hn
  obtain ⟨d, rfl⟩ : ∃ d : UInt8, c = (d.toNat : Int) := by
    refine ⟨UInt8.ofNat c.toNat, ?_⟩
    rw [UInt8.toNat_ofNat', Nat.mod_eq_of_lt (by omega)]
    omega
  obtain ⟨n, rfl⟩ := Int.eq_ofNat_of_zero_le (show 0 ≤ n by omega)
  exact poolBounds_walk d n W (by omega)
end Go.Proofs.Ytjeeedbbdgjgeaa
