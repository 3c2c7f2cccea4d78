/- Results that lie in a block. -/
import Derived.Test.YtjeeedbbdgjgeaaStrs
import Derived.Laws.Rows
namespace Go.Proofs.Ytjeeedbbdgjgeaa
open Go.RowKit

theorem kcell {W w1 : World} (hb : Below W.heap.size W w1) : (∀ b o, b < W.heap.size → w1.cell? ⟨b, o, none⟩ = W.cell? ⟨b, o, none⟩) ∧ (∀ b o, b < W.heap.size → w1.frozen? ⟨b, o, none⟩ = W.frozen? ⟨b, o, none⟩) :=
  ⟨fun b o h => hb.cell (p := ⟨b, o, none⟩) h, fun b o h => hb.frozen (p := ⟨b, o, none⟩) h⟩
theorem ret_cell {fn : Func} {R : Ending → World → Prop} {a : Act} {w : World} {A : Addr} {V : Value} {p : Tmp} {ty : TypeId} (hres : fn.results = #[.cell p ty])
    (hload : (loadVar ty A).run Try.prog w = .ok V w)
    (hp : a.tmps.getD p undef = .pointer (some A)) (hdef : a.defers = [])
    (hR : R (.returned V) w) : bodyPost Try.prog fn R .ret a w := by
  refine bodyPost_ret_by (v := V) ?_ hdef hR
  have hp' : a.tmps[p]?.getD undef = .pointer (some A) := by simpa using hp
  simp [results, hres, hp', asAddr, hload]
theorem ret_cell2 {fn : Func} {R : Ending → World → Prop} {a : Act} {w : World} {A : Addr} {V E : Value} {p u : Tmp} {ty : TypeId} (hres : fn.results = #[.cell p ty, .tmp u])
    (hload : (loadVar ty A).run Try.prog w = .ok V w)
    (hp : a.tmps.getD p undef = .pointer (some A)) (hE : a.tmps.getD u undef = E) (hdef : a.defers = [])
    (hR : R (.returned (.tuple #[V, E])) w) : bodyPost Try.prog fn R .ret a w := by
  refine bodyPost_ret_by (v := .tuple #[V, E]) ?_ hdef hR
  rw [results_cell_tmp hres, hp, hE]
  simp [asAddr, hload, Result.andThen]
theorem ret_cell3 {fn : Func} {R : Ending → World → Prop} {a : Act} {w : World} {A : Addr} {V E F : Value} {p u v : Tmp} {ty : TypeId} (hres : fn.results = #[.cell p ty, .tmp u, .tmp v])
    (hload : (loadVar ty A).run Try.prog w = .ok V w)
    (hp : a.tmps.getD p undef = .pointer (some A)) (hE : a.tmps.getD u undef = E) (hF : a.tmps.getD v undef = F) (hdef : a.defers = [])
    (hR : R (.returned (.tuple #[V, E, F])) w) : bodyPost Try.prog fn R .ret a w := by
  refine bodyPost_ret_by (v := .tuple #[V, E, F]) ?_ hdef hR
  have hp' : a.tmps[p]?.getD undef = .pointer (some A) := by simpa using hp
  have hE' : a.tmps[u]?.getD undef = E := by simpa using hE
  have hF' : a.tmps[v]?.getD undef = F := by simpa using hF
  simp [results, hres, hp', hE', hF', asAddr, hload, Result.andThen]
end Go.Proofs.Ytjeeedbbdgjgeaa
