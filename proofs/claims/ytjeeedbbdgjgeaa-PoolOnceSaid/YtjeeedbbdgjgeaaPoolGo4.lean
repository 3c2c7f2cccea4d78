/- The law PoolOnce at the arguments as they come. -/
import Derived.Test.YtjeeedbbdgjgeaaPoolOnce2
import Derived.OpenShut
import Derived.ProofKit
namespace Go.Proofs.Ytjeeedbbdgjgeaa
open Go.RowKit
theorem poolOnce_go {W : World} (v : Value) (ls : List (List UInt8)) (hv : StrArg W v ls) :
    Calls Try.prog 8 #[v] W fun e w' => e = .returned (.bool true) ∧ Below W.heap.size W w' := poolOnce_walk v ls W hv
end Go.Proofs.Ytjeeedbbdgjgeaa
