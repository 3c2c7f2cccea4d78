/- The law PoolOnce: its first loop's state. -/
import Derived.Test.YtjeeedbbdgjgeaaPoolOncePl
namespace Go.Proofs.Ytjeeedbbdgjgeaa
open Go.RowKit Go.Maps PoolPlain
def ats (ls : List (List UInt8)) (k : Nat) : List Value := (List.range k).flatMap fun i => [.int .u64 ((cont ls i).1 : Nat), .int .u32 ((cont ls i).2 : Nat)]
theorem ats_succ (ls : List (List UInt8)) (k : Nat) : ats ls (k + 1) = ats ls k ++ [.int .u64 ((cont ls k).1 : Nat), .int .u32 ((cont ls k).2 : Nat)] := by
  unfold ats; rw [List.range_succ, List.flatMap_append]; rfl
theorem ats_len (ls : List (List UInt8)) (k : Nat) : (ats ls k).length = k * 2 := by
  induction k with
  | zero => rfl
  | succ k ih => rw [ats_succ, List.length_append, ih]; simp; omega
theorem ats_get (ls : List (List UInt8)) (k j : Nat) (hj : j < k) : (ats ls k)[j * 2]? = some (.int .u64 ((cont ls j).1 : Nat)) ∧ (ats ls k)[j * 2 + 1]? = some (.int .u32 ((cont ls j).2 : Nat)) := by
  induction k with
  | zero => omega
  | succ k ih =>
    rw [ats_succ]
    have hl := ats_len ls k
    by_cases h : j < k
    · rw [List.getElem?_append_left (by omega), List.getElem?_append_left (by omega)]
      exact ih h
    · obtain rfl : j = k := by omega
      rw [List.getElem?_append_right (by omega), List.getElem?_append_right (by omega), hl, show j * 2 - j * 2 = 0 by omega, show j * 2 + 1 - j * 2 = 1 by omega]
      exact ⟨rfl, rfl⟩
/-- the state of the first loop -/
def OnceSt (W : World) (p : Nat) (ls cur : List (List UInt8)) (k : Nat) (S : Nat → Prop) (v : Value) (w : World) : Prop :=
  PoolAt w p cur S ∧ (∀ g, S g → W.heap.size ≤ g) ∧ w.ownsRow W.heap.size 39 2 v k (ats ls k) ∧ (∀ g, v.ownBlock = some g → ¬ S g) ∧ Below W.heap.size W w ∧ W.heap.size ≤ w.heap.size
theorem OnceSt.below {W : World} {p : Nat} {ls cur : List (List UInt8)} {k : Nat} {S : Nat → Prop} {v : Value} {w w' : World} (h : OnceSt W p ls cur k S v w) (hb : Below w.heap.size w w') : OnceSt W p ls cur k S v w' :=
  ⟨h.1.below hb, h.2.1, own_of_block h.2.2.1 (fun g hg => hb.block g (h.2.2.1.lt g hg).2), h.2.2.2.1, h.2.2.2.2.1.trans (hb.mono h.2.2.2.2.2), Nat.le_trans h.2.2.2.2.2 hb.size⟩
theorem OnceSt.alloc {W : World} {p : Nat} {ls cur : List (List UInt8)} {k : Nat} {S : Nat → Prop} {v : Value} {w : World} (h : OnceSt W p ls cur k S v w) (o : Obj) : OnceSt W p ls cur k S v (w.alloc o) := h.below (own_new w o _ (Nat.le_refl _))
theorem OnceSt.add {W : World} {p : Nat} {ls cur cur' : List (List UInt8)} {k : Nat} {S : Nat → Prop} {v : Value} {w w' : World} (h : OnceSt W p ls cur k S v w) (ha : After p cur' S w w') : ∃ S', OnceSt W p ls cur' k S' v w' := by
  obtain ⟨h1, h2, h3, h4, h5, h6⟩ := h
  obtain ⟨S', a1, a2, a3, a4, a5, a6⟩ := ha.lo h2 h5 h6
  exact ⟨S', a1, a4, own_kept h3 a3 h4, fun g hg hs => (a2 g hs).elim (h4 g hg) (fun hle => by have := (h3.lt g hg).2; omega), a5, a6⟩
/-- append of one place to the list of places -/
theorem append_cont {ops : Array Oper} {rest : List Oper} {o : Oper} {a : Act} {Q : Exit → Act → World → Prop} (w0 : World) (hgd : o.guard = none) (s x : Operand)
    (ho : o.op = .call { callee := .builtin .append, args := #[s, x], argTypes := #[56, 56] }) {W : World} {p : Nat} {ls cur : List (List UInt8)} {k : Nat} {S : Nat → Prop} (v : Value) (hs : a.eval s = v) (hst : OnceSt W p ls cur k S v w0)
    (c1 c2 : Nat) (hc : cont ls k = (c1, c2)) (N : Nat) (hN : w0.heap.size = N) (hx : a.eval x = .slice (some ⟨N, 0, none⟩) 1 1) (hn : k < 1000)
    (h : ∀ v' w', OnceSt W p ls cur (k + 1) S v' w' → wpList Try.prog ops Q rest (a.put o.dst v') w') :
    wpList Try.prog ops Q (o :: rest) a (w0.alloc (.cells #[.int .u64 (c1 : Nat), .int .u32 (c2 : Nat)] 39)) := by
  subst hN
  obtain ⟨i0, hi, hz0, hz1, hz2⟩ := info_parts info_content
  have h1 := hst.alloc (.cells #[.int .u64 (c1 : Nat), .int .u32 (c2 : Nat)] 39)
  refine wpList_append_lies (w0.alloc (.cells #[.int .u64 (c1 : Nat), .int .u32 (c2 : Nat)] 39)) hgd s x 56 ho W.heap.size 39 i0 _ 2 16 Try.underlying56 hi hz0 hz1 hz2 rfl (by decide) v k (ats ls k) hs h1.2.2.1 ⟨w0.heap.size, 0, none⟩ 1 1 [.int .u64 (c1 : Nat), .int .u32 (c2 : Nat)] hx rfl (World.news_of_block (block_alloc w0 _)) (by simp [Value.oneCell']) (by decide) (by unfold maxLen; omega) (by omega) h1.2.2.2.2.2 _ rfl ?_
  intro g cap w' g1 g2 g3 g4
  refine h _ w' ?_
  obtain ⟨p1, p2, p3, p4, p5, p6⟩ := h1
  have ht : Touch (fun g => v.ownBlock = some g) (w0.alloc (.cells #[.int .u64 (c1 : Nat), .int .u32 (c2 : Nat)] 39)) w' := Touch.of_grown g2 (fun g hg => .inl hg)
  refine ⟨p1.touch ht (fun g hs hg => p4 g hg hs), p2, ?_, ?_, p5.grown g2 p6 (fun g hg => (p3.lt g hg).1), Nat.le_trans p6 g2.size⟩
  · have e : ats ls (k + 1) = ats ls k ++ [.int .u64 (c1 : Nat), .int .u32 (c2 : Nat)] := by rw [ats_succ, hc]
    rw [e]; exact g1
  · intro g' hg' hs
    have e : g = g' := by simpa [Value.ownBlock] using hg'
    subst e
    rcases g3 with g3 | g3
    · exact p4 g g3 hs
    · have := p1.2.1 g hs
      omega
/-- the list of places, to be read -/
theorem OnceSt.read {W : World} {p : Nat} {ls cur : List (List UInt8)} {k : Nat} {S : Nat → Prop} {v : Value} {w : World} (h : OnceSt W p ls cur k S v w) (hk : 0 < k) :
    ∃ g cap, v = .slice (some ⟨g, 0, none⟩) k cap ∧ g < w.heap.size ∧ ∀ j, j < k → w.cell? ⟨g, j * 2, none⟩ = some (.int .u64 ((cont ls j).1 : Nat)) ∧ w.cell? ⟨g, j * 2 + 1, none⟩ = some (.int .u32 ((cont ls j).2 : Nat)) := by
  have h3 := h.2.2.1
  have hc := fun g hg => h3.cells (g := g) hg
  rcases h3.2 with ⟨rfl, h0⟩ | ⟨g, cap, cur, rfl, hb, hg, hle, hm, hs, ht⟩
  · omega
  · refine ⟨g, cap, rfl, (Array.getElem?_eq_some_iff.1 hg).1, fun j hj => ?_⟩
    obtain ⟨e1, e2⟩ := ats_get ls k j hj
    have k1 := hc g rfl _ _ e1
    have k2 := hc g rfl _ _ e2
    rw [at_plain, Nat.zero_add] at k1 k2
    exact ⟨k1, k2⟩
end Go.Proofs.Ytjeeedbbdgjgeaa
