/- What Fork of an empty pool does; what Add of nothing does. -/
import Derived.Test.YtjeeedbbdgjgeaaPoolFork
namespace Go.Proofs.Ytjeeedbbdgjgeaa
open Go.RowKit Go.Maps PoolPlain
/-- an empty pool -/
def NilAt (w : World) (p : Nat) : Prop := p < w.heap.size ∧ w.heap[p]? = some (.cells #[.slice none 0 0, .slice none 0 0, .map none] 61 (0, 0))
theorem NilAt.below {w w' : World} {p : Nat} (h : NilAt w p) (hb : Below w.heap.size w w') : NilAt w' p := ⟨Nat.lt_of_lt_of_le h.1 hb.size, (hb.block p h.1).trans h.2⟩
theorem NilAt.alloc {w : World} {p : Nat} (h : NilAt w p) (o : Obj) : NilAt (w.alloc o) p := h.below (own_new w o _ (Nat.le_refl _))
theorem NilAt.new (w : World) : NilAt (w.alloc (.cells #[.slice none 0 0, .slice none 0 0, .map none] 61)) w.heap.size := ⟨by rw [World.size_alloc]; omega, block_alloc w _⟩
theorem NilAt.touch {S : Nat → Prop} {w w' : World} {p : Nat} (h : NilAt w p) (hn : ¬ S p) (ht : Touch S w w') : NilAt w' p := ⟨Nat.lt_of_lt_of_le h.1 ht.size, (ht.block p h.1 hn).trans h.2⟩
set_option maxRecDepth 100000 in
set_option maxHeartbeats 2000000 in
theorem add_empty (p : Nat) (w : World) :
    Calls Try.prog 22 #[.pointer (some ⟨p, 0, none⟩), .string (bs [])] w fun e w' => e = .returned (.tuple #[.agg #[.int .u64 0, .int .u32 0], .bool false, .int .i64 2]) ∧ Below w.heap.size w w' := by
  have hA := block_alloc w (.cells #[.int .u64 0, .int .u32 0] 39)
  have hB0 : Below w.heap.size w (w.alloc (.cells #[.int .u64 0, .int .u32 0] 39)) := (Below.refl _ _).alloc (Nat.le_refl _) _
  have t1 : (bs ([] : List UInt8)).toList = [] := by rw [ByteArray.toList_eq, bs_data]
  go_enter Try.func22, Try.ntmps22
  go_wp2_with fail
  refine ret_cell3 (A := ⟨w.heap.size, 0, none⟩) rfl (load_content _ _ _ _ _ hA) rfl rfl rfl rfl ?_
  exact ⟨rfl, hB0⟩
set_option maxRecDepth 100000 in
set_option maxHeartbeats 4000000 in
theorem fork_empty (p : Nat) (w : World) (hN : NilAt w p) :
    Calls Try.prog 31 #[.pointer (some ⟨p, 0, none⟩)] w (ForkR [] w) := by
  obtain ⟨c0, c1, c2, -, -, -⟩ := cells3 hN.2
  have hpl := hN.1
  have HS : Hid (∀ W, Below w.heap.size w W → W.cell? ⟨p, 0, none⟩ = some (.slice none 0 0) ∧ W.cell? ⟨p, 1, none⟩ = some (.slice none 0 0)) := Lib.hid (fun W hW => ⟨(hW.cell (p := ⟨p, 0, none⟩) hpl).trans c0, (hW.cell (p := ⟨p, 1, none⟩) hpl).trans c1⟩)
  have HC2 : Hid (∀ W, Below w.heap.size w W → W.cell? ⟨p, 2, none⟩ = some (.map none)) := Lib.hid (fun W hW => (hW.cell (p := ⟨p, 2, none⟩) hpl).trans c2)
  have hq : ∀ (w : World) (r : Option Nat), (binOp .neq 59 (.map r) (.map none)).run Try.prog w = .ok (.bool (!r.isNone)) w := fun w r => run_neq_map_nil w _ _ _ r Try.underlying59
  clear hN c0 c1 c2
  go_enter Try.func31, Try.ntmps31
  go_wp2_with fail
  go_region_held3 (fun w' => w'.cell? ⟨p, 0, none⟩ = some (.slice none 0 0) ∧ w'.cell? ⟨p, 1, none⟩ = some (.slice none 0 0)) (first | exact HS.out _ (Below.refl _ _).drew | exact HS.out _ ((Below.refl _ _).drew.alloc (Below.refl _ _).drew.size _) | exact HS.out _ ((Below.refl _ _).alloc (Nat.le_refl _) _).drew)
    (first
      | (go_at_call 38; refine (clone_nil1 _).mono ?_; rintro e wt ⟨rfl, rfl⟩)
      | (go_at_call 39; refine (clone_nil2 _).mono ?_; rintro e wp ⟨rfl, rfl⟩))
  all_goals
    have hB : Below w.heap.size w (w.alloc (.cells #[.slice none 0 0, .slice none 0 0, .map none] 61)).drew := ((Below.refl _ _).alloc (Nat.le_refl _) _).drew
    have m2 := HC2.out _ hB
    have hpz := Nat.lt_of_lt_of_le hpl hB.size
    have HB := Lib.hid hB
    have HPN := Lib.hid ((PoolAt.new w).below (Below.refl _ _).drew)
    clear hB
    go_wp2_with fail
    go_ret
    exact ⟨_, _, rfl, HPN.out, fun g hg => (by have : g = w.heap.size := hg; omega), HB.out⟩
/-- what Fork does -/
theorem pool_fork (p : Nat) (l : List (List UInt8)) (S : Nat → Prop) (w : World) (hP : PoolAt w p l S) (hN : l = [] → NilAt w p) :
    Calls Try.prog 31 #[.pointer (some ⟨p, 0, none⟩)] w (ForkR l w) := by
  by_cases h : l = []
  · subst h; exact fork_empty p w (hN rfl)
  · exact fork_full p l S w hP h
end Go.Proofs.Ytjeeedbbdgjgeaa
