/- The law function NotesPuts, as the row's proof takes it. -/
import Derived.Test.YtcmkepkeeahioaaGreatDoorPw10
set_option linter.unusedVariables false
set_option linter.unusedSimpArgs false
namespace Go.Proofs.YtcmkepkeeahioaaGreatDoor
open Go.RowKit
theorem notesPuts_go (c0 c1 c2 c3 c4 d0 d1 d2 d3 d4 : Value) (a2 : ByteArray) (W : World) (hn : ∃ nd, NAt W nd c0 c1 c2 c3 c4 ∧ wfN nd) (hm : ∃ nd, NAt W nd d0 d1 d2 d3 d4 ∧ wfN nd) (_ : a2.size ≤ maxLen) (hL : laidMetH Tryz.prog Rows.notesPutsRow.laid W) (_ : W.ShapedOpen Tryz.prog) :
    Calls Tryz.prog 3 #[.agg #[c0, c1, c2, c3, c4], .agg #[d0, d1, d2, d3, d4], .string a2] W fun e W' => e = .returned (.bool true) ∧ Below W.heap.size W W' := by
  rw [MakeChecks.laidMetH_plain _ _ _ (by kernel_rfl)] at hL
  obtain ⟨nd, h1, h2⟩ := hn
  obtain ⟨nd2, h3, h4⟩ := hm
  exact notesPuts_walk nd nd2 a2 c0 c1 c2 c3 c4 d0 d1 d2 d3 d4 W h1 h2 h3 h4 (env17 hL)
end Go.Proofs.YtcmkepkeeahioaaGreatDoor
