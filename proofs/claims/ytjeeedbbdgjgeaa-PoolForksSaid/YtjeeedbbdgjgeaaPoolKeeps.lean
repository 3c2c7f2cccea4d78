/- The law PoolKeeps returns true. -/
import Derived.Test.YtjeeedbbdgjgeaaPoolAwake
namespace Go.Proofs.Ytjeeedbbdgjgeaa
open Go.RowKit Go.Maps PoolPlain
theorem neq_rcontent (a b : Nat) (w : World) : (binOp .neq 35 (.agg #[.int .u64 (a : Int), .int .u32 (b : Int)]) (.agg #[.int .u64 (a : Int), .int .u32 (b : Int)])).run Try.prog w = .ok (.bool false) w := by
  have u1 := Try.underlying22
  have u2 := Try.underlying33
  have hS : Try.prog.underlying 35 = some (.struct (Try.prog.fieldsOf 35)) := by kernel_rfl
  have hp : Try.prog.stoodInHeld 35 = false := by kernel_rfl
  rw [run_neq_struct, show (10000 : Nat) = 9998 + 2 from rfl, run_equalIn_agg w (9998 + 1) 35 _ _ hS hp]
  simp only [Program.fieldsOf, Try.underlying35]
  go_simp
/-- what stands in a pool to which the first k contents were handed -/
def addAll (ls : List (List UInt8)) (k : Nat) : List (List UInt8) := (ls.take k).foldl addL []
theorem addAll_succ (ls : List (List UInt8)) (k : Nat) (hk : k < ls.length) : addAll ls (k + 1) = addL (addAll ls k) ls[k] := by
  unfold addAll; rw [List.take_succ_eq_append_getElem hk, List.foldl_append]; rfl
theorem After.lo {p : Nat} {l : List (List UInt8)} {S : Nat → Prop} {w w' W : World} {B : Nat} (h : After p l S w w') (hS : ∀ g, S g → B ≤ g) (hW : Below B W w) (hB : B ≤ w.heap.size) : ∃ S', PoolAt w' p l S' ∧ (∀ g, S' g → S g ∨ w.heap.size ≤ g) ∧ Touch S w w' ∧ (∀ g, S' g → B ≤ g) ∧ Below B W w' ∧ B ≤ w'.heap.size := by
  obtain ⟨S', h1, h2, h3⟩ := h
  exact ⟨S', h1, h2, h3, fun g hg => (h2 g hg).elim (hS g) (fun h => Nat.le_trans hB h), hW.trans (h3.below hS hB), Nat.le_trans hB h3.size⟩
theorem HoldsA.touch {w w' : World} {S S' : Nat → Prop} {v : Value} {xs : List (List UInt8)} (h : HoldsA w (fun b => ¬ S b) v xs) (ht : Touch S w w') (hS : ∀ g, S' g → S g ∨ w.heap.size ≤ g) : HoldsA w' (fun b => ¬ S' b) v xs :=
  h.keep ht.size (fun b hb1 hb2 => ⟨ht.block b hb2 hb1, fun hs => (hS b hs).elim hb1 (fun h => by omega)⟩)
theorem HoldsA.below {w w' : World} {A : Nat → Prop} {v : Value} {xs : List (List UInt8)} (h : HoldsA w A v xs) (hb : Below w.heap.size w w') : HoldsA w' A v xs := h.keep hb.size (fun b hb1 hb2 => ⟨hb.block b hb2, hb1⟩)
theorem HoldsA.alloc {w : World} {A : Nat → Prop} {v : Value} {xs : List (List UInt8)} (h : HoldsA w A v xs) (o : Obj) : HoldsA (w.alloc o) A v xs := h.below ((Below.refl _ _).alloc (Nat.le_refl _) _)
/-- the state of the loop -/
def KeepSt (W : World) (p : Nat) (cur lst : List (List UInt8)) (v : Value) (x y : Value) (S : Nat → Prop) (w : World) : Prop :=
  PoolAt w p cur S ∧ (∀ g, S g → W.heap.size ≤ g) ∧ HoldsA w (fun b => ¬ S b) v lst ∧ Below W.heap.size W w ∧ W.heap.size ≤ w.heap.size ∧ Cell2 w S W.heap.size x y 35
theorem KeepSt.alloc {W : World} {p : Nat} {cur lst : List (List UInt8)} {v x y : Value} {S : Nat → Prop} {w : World} (h : KeepSt W p cur lst v x y S w) (o : Obj) : KeepSt W p cur lst v x y S (w.alloc o) :=
  ⟨h.1.alloc o, h.2.1, h.2.2.1.alloc o, h.2.2.2.1.trans (own_new w o _ h.2.2.2.2.1), by rw [World.size_alloc]; exact Nat.le_succ_of_le h.2.2.2.2.1, h.2.2.2.2.2.alloc o⟩
theorem KeepSt.below {W : World} {p : Nat} {cur lst : List (List UInt8)} {v x y : Value} {S : Nat → Prop} {w w' : World} (h : KeepSt W p cur lst v x y S w) (hb : Below w.heap.size w w') : KeepSt W p cur lst v x y S w' :=
  ⟨h.1.below hb, h.2.1, h.2.2.1.below hb, h.2.2.2.1.trans (hb.mono h.2.2.2.2.1), Nat.le_trans h.2.2.2.2.1 hb.size, h.2.2.2.2.2.below hb⟩
theorem KeepSt.add {W : World} {p : Nat} {cur cur' lst : List (List UInt8)} {v x y : Value} {S : Nat → Prop} {w w' : World} (h : KeepSt W p cur lst v x y S w) (ha : After p cur' S w w') :
    ∃ S', KeepSt W p cur' lst v x y S' w' ∧ ∀ n x y t, Cell2 w S n x y t → Cell2 w' S' n x y t := by
  obtain ⟨h1, h2, h3, h4, h5, h6⟩ := h
  obtain ⟨S', a1, a2, a3, a4, a5, a6⟩ := ha.lo h2 h4 h5
  exact ⟨S', ⟨a1, a4, h3.touch a3 a2, a5, a6, h6.step a3 a2⟩, fun n x y t hc => hc.step a3 a2⟩
theorem KeepSt.ref {W : World} {p : Nat} {cur lst lst' : List (List UInt8)} {v v' x y : Value} {S : Nat → Prop} {w w' : World} (h : KeepSt W p cur lst v x y S w) (ha : HoldsA w' (fun b => ¬ S b ∨ w.heap.size ≤ b) v' lst') (hb : Below w.heap.size w w') : KeepSt W p cur lst' v' x y S w' := by
  obtain ⟨h1, h2, -, h4, h5, h6⟩ := h
  exact ⟨h1.below hb, h2, ha.keep (Nat.le_refl _) (fun b hb1 _ => ⟨rfl, hb1.elim id (fun hle hs => by have := h1.2.1 b hs; omega)⟩), h4.trans (hb.mono h5), Nat.le_trans h5 hb.size, h6.below hb⟩
end Go.Proofs.Ytjeeedbbdgjgeaa
