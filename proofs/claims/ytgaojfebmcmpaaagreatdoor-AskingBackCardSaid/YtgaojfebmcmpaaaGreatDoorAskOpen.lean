/- An argument of type gazetteerref25.Request, opened; the law function AskingTells, as the row's proof takes it. -/
import Derived.Test.YtgaojfebmcmpaaaGreatDoorAskTellsLaw
import Derived.Test.YtgaojfebmcmpaaaGreatDoorEnvOf
import Derived.Deep.Strs
import Derived.ChangeSame
import Derived.ChangeArms
import Derived.WideShapes
namespace Go.Proofs.YtgaojfebmcmpaaaGreatDoor
open Go.RowKit
section
variable {H : Type} {enc : TypeId × Value → H} {W : World} {base : Nat} {spare : Nat → Bool} {held : Bool}
theorem int_at {fuel : Nat} {c : Value} {x : DataW H × List MemPlace} (h : DataW.trod enc Tryz.prog W base spare held fuel 3 [c] = some x) : ∃ n : Int, c = .int .i64 n ∧ (Lit.int .i64 n).wf = true := by
  obtain ⟨n, h1, h2, h3⟩ := DataW.trod_int Tryz.underlying3 h
  exact ⟨n, (List.cons.inj h1).1, h3⟩
theorem str_at {fuel : Nat} {c : Value} {x : DataW H × List MemPlace} (h : DataW.trod enc Tryz.prog W base spare held fuel 9 [c] = some x) : ∃ s : ByteArray, c = .string s ∧ s.size ≤ maxLen := by
  obtain ⟨n, h1, h2, h3⟩ := DataW.trod_string Tryz.underlying9 h
  exact ⟨n, (List.cons.inj h1).1, h3⟩
theorem range_at {fuel : Nat} {c c' : Value} {x : DataW H × List MemPlace} (h : DataW.trod enc Tryz.prog W base spare held fuel 23 [c, c'] = some x) : ∃ a b : Int, c = .int .i64 a ∧ c' = .int .i64 b ∧ (Lit.int .i64 a).wf = true ∧ (Lit.int .i64 b).wf = true := by
  obtain ⟨y0, y1, n, rfl, hl, h0, h1⟩ := Go.ChangeShapes.trod_struct2 Tryz.underlying23 h
  rw [show Tryz.prog.cellsOf 3 = 1 by kernel_rfl] at h0 h1
  obtain ⟨a, rfl, ha⟩ := int_at (by simpa using h0)
  obtain ⟨b, rfl, hb⟩ := int_at (by simpa using h1)
  exact ⟨a, b, rfl, rfl, ha, hb⟩
set_option maxRecDepth 100000 in
theorem req_open {r : Reach} {b0 : Nat} {v : Value} {d : DataW H} {p : List MemPlace} (hv : Value.okWide Tryz.prog W r b0 25 v) (h : DataW.Trod enc Tryz.prog W base spare held 25 v d p) :
    ∃ (a0 a1 : ByteArray) (a2 a3 : Int), v = .agg #[.string a0, .string a1, .int .i64 a2, .int .i64 a3] ∧ a0.size ≤ maxLen ∧ a1.size ≤ maxLen ∧ (Lit.int .i64 a2).wf = true ∧ (Lit.int .i64 a3).wf = true := by
  obtain ⟨cs, rfl, hsz⟩ := Go.WideShapes.okWide_struct Tryz.underlying25 hv
  obtain ⟨c0, c1, c2, c3, rfl⟩ := Go.Joins.array4 (hsz.trans (show Tryz.prog.cellsOf 25 = 4 by kernel_rfl))
  obtain ⟨fuel, hf⟩ := h
  obtain ⟨y0, y1, y2, n, hx, hl, h0, h1, h2⟩ := Go.Deep.trod_struct3 Tryz.underlying25 hf
  rw [show Tryz.prog.cellsOf 9 = 1 by kernel_rfl] at h0 h1
  rw [show Tryz.prog.cellsOf 23 = 2 by kernel_rfl] at h2
  obtain ⟨a0, rfl, k0⟩ := str_at (by simpa [Value.cells] using h0)
  obtain ⟨a1, rfl, k1⟩ := str_at (by simpa [Value.cells] using h1)
  obtain ⟨a2, a3, rfl, rfl, k2, k3⟩ := range_at (by simpa [Value.cells] using h2)
  exact ⟨a0, a1, a2, a3, rfl, k0, k1, k2, k3⟩
end
theorem askingTells_go (p h : ByteArray) (a b : Int) (s : ByteArray) (k : p.size ≤ maxLen ∧ h.size ≤ maxLen ∧ (Lit.int .i64 a).wf = true ∧ (Lit.int .i64 b).wf = true) (ks : s.size ≤ maxLen) (W : World) (hL : laidMetH Tryz.prog Rows.askingTellsRow.laid W) (hsh : W.ShapedOpen Tryz.prog) :
    Calls Tryz.prog 3 #[.agg #[.string p, .string h, .int .i64 a, .int .i64 b], .string s] W fun e w' => e = .returned (.bool true) ∧ Below W.heap.size W w' := by
  rw [MakeChecks.laidMetH_plain _ _ _ (by kernel_rfl)] at hL
  obtain ⟨k0, k1, k2, k3⟩ := k
  obtain ⟨b1, b2⟩ := bounds_i64 k2
  obtain ⟨b3, b4⟩ := bounds_i64 k3
  unfold maxLen at k0 k1 ks
  exact askingTells_walk p h a b s W (env_of hL (by simp) hsh) (by omega) (by omega) (by omega) (by omega) (by omega) (by omega) (by omega)
end Go.Proofs.YtgaojfebmcmpaaaGreatDoor
