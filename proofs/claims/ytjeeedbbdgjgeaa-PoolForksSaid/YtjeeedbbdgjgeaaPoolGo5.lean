/- The law PoolForks at the arguments as they come. -/
import Derived.Test.YtjeeedbbdgjgeaaPoolForks
import Derived.OpenShut
import Derived.ProofKit
namespace Go.Proofs.Ytjeeedbbdgjgeaa
open Go.RowKit
theorem poolForks_go {W : World} (v : Value) (ls : List (List UInt8)) (v2 : Value) (ms : List (List UInt8)) (hv : StrArg W v ls) (hv2 : StrArg W v2 ms) :
    Calls Try.prog 9 #[v, v2] W fun e w' => e = .returned (.bool true) ∧ Below W.heap.size W w' := poolForks_walk v v2 ls ms W hv hv2
end Go.Proofs.Ytjeeedbbdgjgeaa
