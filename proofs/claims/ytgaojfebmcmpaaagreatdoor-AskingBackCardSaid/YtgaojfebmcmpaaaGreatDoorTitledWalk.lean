/- What titled of package fields returns: strings.Map with a closure that keeps a state. -/
import Derived.Test.YtgaojfebmcmpaaaGreatDoorFieldsWalk
import Derived.OneCell
import Derived.Shelf.Strings.MapAny
import Derived.Shelf.Strings.BuilderCap
import Derived.Deep.LoopGhost
import Derived.Deep.DeepMust
import Derived.Deep.DeepFit
import Derived.Deep.DeepCutAuto
namespace Go.Proofs.YtgaojfebmcmpaaaGreatDoor
open Go.RowKit

def titN (b : Bool) (c : Nat) : Nat := if (b && letN c) = true then c - 32 else c

theorem letN_lo (c : Nat) (h : c < 97) : letN c = false := by unfold letN; rw [decide_eq_false (by omega)]; rfl
theorem letN_hi (c : Nat) (h : 122 < c) : letN c = false := by unfold letN; rw [decide_eq_false (show ¬ c ≤ 122 by omega), Bool.and_false]
theorem letN_in (c : Nat) (h : 97 ≤ c) (h2 : c ≤ 122) : letN c = true := by unfold letN; rw [decide_eq_true h, decide_eq_true h2]; rfl

theorem titled1 (c B : Nat) (b : Bool) (w : World) (hblk : w.heap[B]? = some (.cells #[.bool b] 4 (0, 0))) (hc : c < 128) :
    Calls Tryz.prog 178 #[.int .i32 (c : Int), .pointer (some ⟨B, 0, none⟩)] w fun e w' => e = .returned (.int .i32 (titN b c : Nat)) ∧ w' = w.setCell ⟨B, 0, none⟩ (.bool ((c : Int) == 45)) := by
  have hcell : w.cell? ⟨B, 0, none⟩ = some (.bool b) := by unfold World.cell?; rw [hblk]; rfl
  have hfr : w.frozen? ⟨B, 0, none⟩ = false := by unfold World.frozen?; rw [hblk]; rfl
  cases b
  · have H : Hid (titN false c = c) := Lib.hid rfl
    go_enter Tryz.func178, Tryz.ntmps178
    go_wp2_with fail
    go_ret
    exact ⟨by rw [H.out]; rfl, rfl⟩
  · by_cases h1 : c < 97
    · have H : Hid (titN true c = c) := Lib.hid (by unfold titN; rw [letN_lo c h1]; rfl)
      have t1 : decide ((c : Int) ≥ 97) = false := by simp; omega
      go_enter Tryz.func178, Tryz.ntmps178
      go_wp2_with fail
      go_ret
      exact ⟨by rw [H.out]; rfl, rfl⟩
    · by_cases h2 : 122 < c
      · have H : Hid (titN true c = c) := Lib.hid (by unfold titN; rw [letN_hi c h2]; rfl)
        have t1 : decide ((c : Int) ≤ 122) = false := by simp; omega
        go_enter Tryz.func178, Tryz.ntmps178
        go_wp2_with fail
        go_ret
        exact ⟨by rw [H.out]; rfl, rfl⟩
      · have H : Hid (titN true c = c - 32) := Lib.hid (by unfold titN; rw [letN_in c (by omega) (by omega)]; rfl)
        have t1 : decide ((c : Int) ≤ 122) = true := by simp; omega
        have h3 : 97 ≤ c := by omega
        go_enter Tryz.func178, Tryz.ntmps178
        go_wp2_with fail
        go_ret
        refine ⟨ret_int ?_, rfl⟩
        rw [H.out]; omega

def stB (c : UInt8) : Bool := ((c.toNat : Nat) : Int) == 45
def titL : Bool → List UInt8 → List UInt8
  | _, [] => []
  | b, c :: t => UInt8.ofNat (titN b c.toNat) :: titL (stB c) t
theorem titN_le (b : Bool) (c : Nat) (h : c < 128) : titN b c < 128 := by unfold titN; split <;> omega

theorem builder_keeps {T e : TypeId} {B b c : Nat} {p : Value} {l : List Value} {w : World} (h : Go.Lib.BuilderAtF T e B b p l w) (hc : c < B) (v : Value) : Go.Lib.BuilderAtF T e B b p l (w.setCell ⟨c, 0, none⟩ v) := by
  obtain ⟨hB, x, hx, hown, hne⟩ := h
  have hnc : x.ownBlock ≠ some c := by
    rcases hown.2 with ⟨rfl, _⟩ | ⟨g, cap, cur, fz, rfl, hg, _⟩
    · simp [Value.ownBlock]
    · intro e
      have : g = c := by simpa [Value.ownBlock] using e
      omega
  refine ⟨hB, x, ?_, hown.kept (row := some c) ⟨rfl, rfl, rfl, by simp [World.setCell], fun k _ hk => Below.heap_setCell _ _ _ _ (fun e => hk (by simp [e]))⟩ (Or.inr hnc), hne⟩
  rw [← hx]
  exact Below.heap_setCell _ _ _ _ (show b ≠ c by omega)
theorem isBuilder_keeps {T e : TypeId} {B b c : Nat} {l : List Value} {w : World} (h : Go.Lib.IsBuilderF T e B b l w) (hc : c < B) (v : Value) : Go.Lib.IsBuilderF T e B b l (w.setCell ⟨c, 0, none⟩ v) :=
  h.elim (fun x => .inl (builder_keeps x hc v)) (fun x => .inr (builder_keeps x hc v))

/-- the closure's cell and what lies below it -/
def AtT (w0 : World) (c : Nat) (b : Bool) (w : World) : Prop := w.heap[c]? = some (.cells #[.bool b] 4 (0, 0)) ∧ Below c w0 w
theorem AtT.below {w0 w w' : World} {c B : Nat} {b : Bool} (h : AtT w0 c b w) (hb : Below B w w') (hB : c < B) : AtT w0 c b w' :=
  ⟨(hb.block c hB).trans h.1, h.2.trans (hb.mono (by omega))⟩
theorem AtT.set {w0 w : World} {c : Nat} {b : Bool} (h : AtT w0 c b w) (b' : Bool) : AtT w0 c b' (w.setCell ⟨c, 0, none⟩ (.bool b')) := by
  refine ⟨?_, h.2.setCell (p := ⟨c, 0, none⟩) (Nat.le_refl _) _⟩
  simp [World.setCell, Array.getElem?_modify, h.1]
theorem setCell_other (w : World) (c j : Nat) (v : Value) (h : j ≠ c) : (w.setCell ⟨c, 0, none⟩ v).heap[j]? = w.heap[j]? := Below.heap_setCell _ _ _ _ h
theorem setCell_size (w : World) (c : Nat) (v : Value) : (w.setCell ⟨c, 0, none⟩ v).heap.size = w.heap.size := by simp [World.setCell]
end Go.Proofs.YtgaojfebmcmpaaaGreatDoor
