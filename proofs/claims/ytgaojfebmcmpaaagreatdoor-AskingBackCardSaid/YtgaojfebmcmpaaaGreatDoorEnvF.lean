/- What the library's variables hold, carried along a call. -/
import Derived.Test.YtgaojfebmcmpaaaGreatDoorBs
import Derived.Test.YtgaojfebmcmpaaaGreatDoorGPow
import Derived.Shelf.Unicode.DecodeSlow
import Derived.Lib.LaidTab
import Derived.Lib.ItoaNum
import Derived.WalkSmall
import Derived.Shelf.Strings.MapAny
namespace Go.Proofs.YtgaojfebmcmpaaaGreatDoor
open Go.RowKit

/-- what the library's variables hold, carried along a call -/
structure EnvF (w : World) : Prop where
  m : ∃ m, w.cell? ⟨0, 0, none⟩ = some (.int .i64 m)
  mlt : 0 < w.heap.size
  tabs : Lib.Utf8Tabs 1 2 w
  pow : Go.Lib.TabIs Tryz.prog w "internal/strconv.uint64pow10" .u64 Go.Lib.pow10Tab
  big : 3 < w.heap.size
  rng : ∃ tp p, w.cell? ⟨5, 0, none⟩ = some (.iface tp p)
  rlt : 5 < w.heap.size
theorem EnvF.below {w w' : World} (h : EnvF w) (hb : Below w.heap.size w w') : EnvF w' :=
  ⟨let ⟨m, hm⟩ := h.m; ⟨m, (hb.cell (p := ⟨0, 0, none⟩) h.mlt).trans hm⟩, Nat.lt_of_lt_of_le h.mlt hb.size, Utf8Tabs_below h.tabs hb, var?_below hb g_pow10 h.big h.pow, Nat.lt_of_lt_of_le h.big hb.size,
   let ⟨t, p, hp⟩ := h.rng; ⟨t, p, (hb.cell (p := ⟨5, 0, none⟩) h.rlt).trans hp⟩, Nat.lt_of_lt_of_le h.rlt hb.size⟩

end Go.Proofs.YtgaojfebmcmpaaaGreatDoor
