/- What the library's variables hold, carried along a call. -/
import Derived.Test.YtnfadmdndefanaaDoorLinesLaws
import Derived.Lib.LaidTab
import Derived.Lib.ItoaNum
import Derived.WalkSmall
namespace Go.Proofs.YtnfadmdndefanaaDoor
open Go.RowKit

theorem g_pow10 : Tryd.prog.globalNamed "internal/strconv.uint64pow10" = some 3 := by kernel_rfl
/-- the library's variables: MaxLen holds some number, the table of powers its numbers. -/
structure Env (w : World) : Prop where
  m : ∃ m, MaxLenIs w m
  tab : Go.Lib.TabIs Tryd.prog w "internal/strconv.uint64pow10" .u64 Go.Lib.pow10Tab
  big : 3 < w.heap.size

theorem Env.below {w w' : World} (h : Env w) (hb : Below w.heap.size w w') : Env w' :=
  ⟨let ⟨m, hm⟩ := h.m; ⟨m, hm.below hb⟩, var?_below hb g_pow10 h.big h.tab, Nat.lt_of_lt_of_le h.big hb.size⟩
end Go.Proofs.YtnfadmdndefanaaDoor
