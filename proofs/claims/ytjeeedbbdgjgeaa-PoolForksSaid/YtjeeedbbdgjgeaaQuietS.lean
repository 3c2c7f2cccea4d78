/- Regions that draw their order, whose operations read and whose callees may lay blocks of their own: one walk. -/
import Derived.Test.YtjeeedbbdgjgeaaStrs
import Derived.BigQuiet
namespace Go.Proofs.Ytjeeedbbdgjgeaa
open Go.RowKit

/-- a world that has come of w by reading, drawing and laying blocks -/
structure BelowOf (w : World) where
  world : World
  below : Below w.heap.size w world
instance (w : World) : Inhabited (BelowOf w) := ⟨⟨w, Below.refl _ _⟩⟩
theorem wp_region_quiet_below {P : Program} {id : Nat} {Q : Exit → Act → World → Prop} {a : Act} {w : World} {l : List Oper} (hm : P.follows .mixedOrders = true) (hB : Region.lexB .any l.toArray = true)
    (h : wpQuiet P l.toArray (fun w' => ∃ p : BelowOf w, w' = p.world) (fun a' => ∀ w', (∃ p : BelowOf w, w' = p.world) → Q .normal a' w') l a) : (Code.region id l.toArray true).wp P Q a w :=
  wp_region_quiet (C := fun w' => ∃ p : BelowOf w, w' = p.world) hm hB ⟨⟨w.drew, (Below.refl _ _).drew⟩, rfl⟩ (by simpa using h)
theorem below_of {P : Program} {f : FuncId} {args : Array Value} {w : World} {p : BelowOf w} {v : Value}
    (h : Calls P f args p.world fun e w' => e = .returned v ∧ Below p.world.heap.size p.world w') : Calls P f args p.world fun e w'' => e = .returned v ∧ ∃ q : BelowOf w, w'' = q.world :=
  h.mono fun _ _ ⟨he, hb⟩ => ⟨he, ⟨_, bstep p.below hb⟩, rfl⟩
theorem below_same {P : Program} {f : FuncId} {args : Array Value} {w : World} {p : BelowOf w} {v : Value}
    (h : Calls P f args p.world fun e w' => e = .returned v ∧ w' = p.world) : Calls P f args p.world fun e w'' => e = .returned v ∧ ∃ q : BelowOf w, w'' = q.world :=
  h.mono fun _ _ ⟨he, hw⟩ => ⟨he, p, hw⟩
theorem cell_of {w : World} (p : BelowOf w) {a : Addr} {v : Value} (hb : a.block < w.heap.size) (h : w.cell? a = some v) : p.world.cell? a = some v := (p.below.cell hb).trans h
theorem of_class {w W : World} (h : ∃ p : BelowOf w, W = p.world) : Below w.heap.size w W := let ⟨p, hp⟩ := h; hp ▸ p.below
end Go.Proofs.Ytjeeedbbdgjgeaa
