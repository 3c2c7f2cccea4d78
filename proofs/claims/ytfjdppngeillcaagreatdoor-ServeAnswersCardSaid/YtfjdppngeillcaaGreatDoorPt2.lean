/- What an argument that is a slice of the reference's fields reads as. The law function ServeAnswers, as the row's proof takes it. The law function ServePieces, as the row's proof takes it. -/
import Derived.Test.YtfjdppngeillcaaGreatDoorPt1
import Derived.Deep.Slices
import Derived.Deep.Fields
import Derived.ChangeSame
set_option linter.unusedVariables false
namespace Go.Proofs.YtfjdppngeillcaaGreatDoor
open Go.RowKit

def FieldArg (W : World) (v : Value) (fs : List (List UInt8 × List UInt8)) : Prop := HoldsF W v fs ∧ (∀ f ∈ fs, f.1.length ≤ maxLen ∧ f.2.length ≤ maxLen) ∧ fs.length ≤ maxLen
theorem len_two {α : Type} {l : List α} (h : l.length = 2) : ∃ a b, l = [a, b] := by
  cases l with
  | nil => simp at h
  | cons a t => cases t with
    | nil => simp at h
    | cons b u => cases u with
      | nil => exact ⟨a, b, rfl⟩
      | cons c v => simp at h
theorem string_cell {H : Type} {enc : TypeId × Value → H} {W : World} {n : Nat} {cs : List Value} {x : DataW H × List MemPlace} (h : DataW.trod enc Tryz.prog W 0 (fun _ => true) true n 9 cs = some x) : ∃ l : List UInt8, cs = [.string (bs l)] ∧ l.length ≤ maxLen := by
  obtain ⟨s, hs, _, hm⟩ := DataW.trod_string Tryz.underlying9 h
  exact ⟨s.data.toList, by rw [hs, bs_self], by rw [size_len]; exact hm⟩
set_option maxRecDepth 10000 in
theorem fieldArg_of {H : Type} {enc : TypeId × Value → H} {W : World} {b : Option Addr} {n c : Nat} {d : DataW H} {p : List MemPlace}
    (h : DataW.Trod enc Tryz.prog W 0 (fun _ => true) true 101 (.slice b n c) d p) : ∃ fs, FieldArg W (.slice b n c) fs := by
  obtain ⟨fuel, hf⟩ := h
  rcases Go.Deep.open_slice Tryz.underlying101 hf with ⟨hcs, _⟩ | ⟨a, len, cap, m, q, D, Pl, hcs, _, hl, hm, hmm, _, hi⟩
  · simp [Value.cells] at hcs
    obtain ⟨rfl, rfl, rfl⟩ := hcs
    exact ⟨[], HoldsF.nil W none 0, fun f hf => by simp at hf, by unfold maxLen; simp⟩
  · simp [Value.cells] at hcs
    obtain ⟨rfl, rfl, rfl⟩ := hcs
    have hC : Tryz.prog.cellsOf 143 = 2 := by kernel_rfl
    have hS : Tryz.prog.cellsOf 9 = 1 := by kernel_rfl
    have key : ∀ i, ∃ f : List UInt8 × List UInt8, i < n → W.cell? (a.add (i * 2)) = some (.string (bs f.1)) ∧ W.cell? (a.add (i * 2 + 1)) = some (.string (bs f.2)) ∧ f.1.length ≤ maxLen ∧ f.2.length ≤ maxLen := by
      intro i
      by_cases hin : i < n
      · obtain ⟨cs', hc', ht⟩ := hi i (by rw [hmm]; simp; omega)
        rw [hC] at hc'
        obtain ⟨_, hcl, hcell⟩ := World.cells?_some hc'
        obtain ⟨xs, k, _, _, hcl2, hxl, hg⟩ := DataW.trod_struct Tryz.underlying143 ht
        obtain ⟨u0, u1, rfl⟩ := len_two hcl
        have hxl2 : xs.length = 2 := hxl
        obtain ⟨z0, z1, rfl⟩ := len_two hxl2
        have g0 : DataW.trod enc Tryz.prog W 0 (fun _ => true) true k 9 (([u0, u1].drop 0).take (Tryz.prog.cellsOf 9)) = some z0 := hg 0 _ rfl
        have g1 : DataW.trod enc Tryz.prog W 0 (fun _ => true) true k 9 (([u0, u1].drop 1).take (Tryz.prog.cellsOf 9)) = some z1 := hg 1 _ rfl
        rw [hS] at g0 g1
        obtain ⟨l0, e0, b0⟩ := string_cell g0
        obtain ⟨l1, e1, b1⟩ := string_cell g1
        have c0 := hcell 0 (by omega)
        have c1 := hcell 1 (by omega)
        rw [Go.Deep.add_add] at c0 c1
        simp at e0 e1 c0 c1
        subst e0 e1
        exact ⟨(l0, l1), fun _ => ⟨c0, c1, b0, b1⟩⟩
      · exact ⟨([], []), fun h => absurd h hin⟩
    obtain ⟨g, hg⟩ := Classical.skolem.1 key
    have hlen : ((List.range n).map g).length = n := by simp
    refine ⟨(List.range n).map g, ⟨some a, c, by rw [hlen], by rw [hlen]; exact hl, fun hne => ?_⟩, ?_, by rw [hlen]; omega⟩
    · have hpos : 0 < n := by
        rcases Nat.eq_zero_or_pos n with h0 | h0
        · subst h0; simp at hne
        · exact h0
      have h0 := (hg 0 hpos).1
      obtain ⟨b, o, sp⟩ := a
      have hsp : sp = none := by simpa [Addr.add] using World.cell?_spot h0
      subst hsp
      have ea : ∀ k, (⟨b, o, none⟩ : Addr).add k = ⟨b, o + k, none⟩ := fun k => by unfold Addr.add; split <;> simp_all
      refine ⟨b, o, rfl, by have := World.block_lt_of_cell? _ _ h0; simpa [Addr.add] using this, fun j hj => ?_⟩
      rw [hlen] at hj
      have hj2 := hg j hj
      rw [ea, ea] at hj2
      rw [List.getElem_map, List.getElem_range]
      exact ⟨hj2.1, hj2.2.1⟩
    · intro f hf
      obtain ⟨i, hi', rfl⟩ := List.mem_map.1 hf
      exact (hg i (List.mem_range.1 hi')).2.2
end Go.Proofs.YtfjdppngeillcaaGreatDoor
namespace Go.Proofs.YtfjdppngeillcaaGreatDoor
open Go.RowKit
theorem serveAnswers_go {W : World} (h p f : ByteArray) (v : Value) (ls : List (List UInt8)) (_ : h.size ≤ maxLen) (_ : p.size ≤ maxLen) (_ : f.size ≤ maxLen) (hv : StrArg W v ls) (hL : laidMetH Tryz.prog Rows.serveAnswersRow.laid W) (hsh : W.ShapedOpen Tryz.prog) :
    Calls Tryz.prog 3 #[.agg #[.string h, .string p, .string f], v] W fun e W' => e = .returned (.bool true) ∧ Below W.heap.size W W' := by
  rw [MakeChecks.laidMetH_plain _ _ _ (by kernel_rfl)] at hL
  exact serveAnswers_walk h p f v ls W (env_of hL (by simp) hsh) hv
end Go.Proofs.YtfjdppngeillcaaGreatDoor
namespace Go.Proofs.YtfjdppngeillcaaGreatDoor
open Go.RowKit
theorem servePieces_go {W : World} (h p f : ByteArray) (v : Value) (ls : List (List UInt8)) (_ : h.size ≤ maxLen) (_ : p.size ≤ maxLen) (_ : f.size ≤ maxLen) (hv : StrArg W v ls) (hL : laidMetH Tryz.prog Rows.servePiecesRow.laid W) (hsh : W.ShapedOpen Tryz.prog) :
    Calls Tryz.prog 6 #[.agg #[.string h, .string p, .string f], v] W fun e W' => e = .returned (.bool true) ∧ Below W.heap.size W W' := by
  rw [MakeChecks.laidMetH_plain _ _ _ (by kernel_rfl)] at hL
  exact servePieces_walk h p f v ls W (env_of hL (by simp) hsh) hv
end Go.Proofs.YtfjdppngeillcaaGreatDoor
