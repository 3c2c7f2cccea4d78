/- The law functions of layer 23, as the rows' proofs take them. -/
import Derived.Test.YtnfadmdndefanaaDoorStatusLaws
import Derived.Test.YtnfadmdndefanaaDoorRows
import Derived.OpenShut
import Derived.MakeChecks
import Derived.Stop.LaidErr
namespace Go.Proofs.YtnfadmdndefanaaDoor
open Go.RowKit
theorem pow10_data : (Rows.laid_internal_strconv_uint64pow10 : DataW Unit) = Go.Lib.tabData .u64 Go.Lib.pow10Tab := rfl
theorem env_of {W : World} {rest : List (String × DataW Unit)} (h : laidMet Tryd.prog (("internal/strconv.uint64pow10", Rows.laid_internal_strconv_uint64pow10) :: rest) W) (hsh : W.ShapedOpen Tryd.prog) : Env W := by
  have ht : Go.Lib.TabIs Tryd.prog W "internal/strconv.uint64pow10" .u64 Go.Lib.pow10Tab :=
    Go.Lib.tabIs_of_head (n := 20) (t := 152) (e := 99) g_pow10 (by kernel_rfl) (by kernel_rfl) (by kernel_rfl) (by kernel_rfl) (by kernel_rfl) h
  refine ⟨maxLen_of hsh, ht, ?_⟩
  rcases Nat.lt_or_ge 3 W.heap.size with hlt | hge
  · exact hlt
  · unfold Go.Lib.TabIs World.var? at ht
    rw [g_pow10] at ht
    simp [Array.getElem?_eq_none hge] at ht
theorem statusTells_go (a0 : ByteArray) (a1 : Int) (w0 : a0.size ≤ maxLen) (w1 : (Lit.int .i64 a1).wf = true) (W : World) (hL : laidMetH Tryd.prog Rows.statusTellsRow.laid W) (hsh : W.ShapedOpen Tryd.prog) :
    Calls Tryd.prog 8 #[.string a0, .int .i64 a1] W fun e w' => e = .returned (.bool true) ∧ Below W.heap.size W w' := by
  rw [MakeChecks.laidMetH_plain _ _ _ (by kernel_rfl)] at hL
  obtain ⟨b1, b2⟩ := bounds_i64 w1
  exact statusTells_walk a0 a1 W (env_of hL.tail.tail hsh) (by unfold maxLen at w0; omega) (by omega) (by omega)
theorem statusBack_go (a0 : Int) (a1 : ByteArray) (w0 : (Lit.int .i64 a0).wf = true) (w1 : a1.size ≤ maxLen) (W : World) (hL : laidMetH Tryd.prog Rows.statusBackRow.laid W) (hsh : W.ShapedOpen Tryd.prog) :
    Calls Tryd.prog 9 #[.int .i64 a0, .string a1] W fun e w' => e = .returned (.bool true) ∧ Below W.heap.size W w' := by
  rw [MakeChecks.laidMetH_plain _ _ _ (by kernel_rfl)] at hL
  obtain ⟨b1, b2⟩ := bounds_i64 w0
  exact statusBack_walk a0 a1 W (env_of hL.tail.tail hsh) (by unfold maxLen at w1; omega) (by omega) (by omega)
end Go.Proofs.YtnfadmdndefanaaDoor
