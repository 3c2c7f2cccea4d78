/- The steps of put of a pool behind its map: places and text. -/
import Derived.Test.YtjeeedbbdgjgeaaPoolPut
import Derived.WalkSpells
namespace Go.Proofs.Ytjeeedbbdgjgeaa
open Go.RowKit Go.Maps PoolPlain
theorem info_content : (Try.prog.info? 39).map (fun i => (i.zero, i.size, i.bytes)) = some (some (.agg #[.int .u64 0, .int .u32 0]), 2, 16) := by kernel_rfl
theorem info_byte : (Try.prog.info? 5).map (fun i => (i.zero, i.size, i.bytes)) = some (some (.int .u8 0), 1, 1) := by kernel_rfl

theorem set_block {w : World} {p : Nat} {cs : Array Value} {t : TypeId} {k : Nat} (h : w.heap[p]? = some (.cells cs t (0, 0))) (v : Value) : (w.setCell ⟨p, k, none⟩ v).heap[p]? = some (.cells (cs.setIfInBounds k v) t (0, 0)) := by
  simp [World.setCell, Array.getElem?_modify, h]
theorem set_other {w : World} {p k g : Nat} (v : Value) (h : g ≠ p) : (w.setCell ⟨p, k, none⟩ v).heap[g]? = w.heap[g]? := Below.heap_setCell _ _ _ _ h
theorem set_size (w : World) (a : Addr) (v : Value) : (w.setCell a v).heap.size = w.heap.size := by simp [World.setCell]

/-- the world in which the store into the map stands -/
def Ready (w W : World) (p b : Nat) (tv pv : Value) (D : DataW Unit) (r l m : List (List UInt8)) (M n : Nat) (S S' : Nat → Prop) : Prop :=
  Pre W p b tv pv D r l m S' ∧ W.heap[w.heap.size]? = some (.cells #[.int .u64 0, .int .u32 0] 39 (0, 0)) ∧ W.heap[w.heap.size + 1]? = some (.cells #[.int .u64 (M : Nat), .int .u32 (n : Nat)] 39 (0, 0)) ∧
    Touch S w W ∧ (∀ g, S g → S' g) ∧ (∀ g, S' g → S g ∨ w.heap.size + 2 ≤ g) ∧ w.heap.size + 2 ≤ W.heap.size
theorem Ready.below {w W W' : World} {p b : Nat} {tv pv : Value} {D : DataW Unit} {r l m : List (List UInt8)} {M n : Nat} {S S' : Nat → Prop} (h : Ready w W p b tv pv D r l m M n S S') (hb : Below W.heap.size W W') : Ready w W' p b tv pv D r l m M n S S' := by
  obtain ⟨h1, h2, h3, h4, h5, h6, h7⟩ := h
  exact ⟨h1.below hb, (hb.block _ (by omega)).trans h2, (hb.block _ (by omega)).trans h3, h4.trans (Touch.of_below (S := S) hb) (fun g hg => .inl hg), h5, h6, Nat.le_trans h7 hb.size⟩
theorem ready_some {w W : World} {p b : Nat} {tv pv : Value} {D : DataW Unit} {l : List (List UInt8)} {M n : Nat} {S : Nat → Prop} (hP : Pre w p b tv pv D l l l S)
    (hA : W.heap[w.heap.size]? = some (.cells #[.int .u64 0, .int .u32 0] 39 (0, 0)) ∧ W.heap[w.heap.size + 1]? = some (.cells #[.int .u64 (M : Nat), .int .u32 (n : Nat)] 39 (0, 0)) ∧ Below w.heap.size w W ∧ W.heap.size = w.heap.size + 1 + 1) : Ready w W p b tv pv D l l l M n S S :=
  ⟨hP.below hA.2.2.1, hA.1, hA.2.1, Touch.of_below hA.2.2.1, fun g hg => hg, fun g hg => .inl hg, by rw [hA.2.2.2]; omega⟩
theorem ready_nil {w W : World} {p : Nat} {tv pv : Value} {l : List (List UInt8)} {M n : Nat} {S : Nat → Prop} (hSl : ∀ g, S g → g < w.heap.size) (hSp : S p) (hb : w.heap[p]? = some (.cells #[tv, pv, .map none] 61 (0, 0)))
    (ht : w.ownsRow 0 5 1 tv l.flatten.length (bytesV l.flatten)) (hts : ∀ g, tv.ownBlock = some g → S g) (hp : w.ownsRow 0 39 2 pv l.length (pcells l)) (hps : ∀ g, pv.ownBlock = some g → S g) (hl : l = [])
    (hA : W.heap[w.heap.size]? = some (.cells #[.int .u64 0, .int .u32 0] 39 (0, 0)) ∧ W.heap[w.heap.size + 1]? = some (.cells #[.int .u64 (M : Nat), .int .u32 (n : Nat)] 39 (0, 0)) ∧ Below w.heap.size w W ∧ W.heap.size = w.heap.size + 1 + 1) :
    Ready w ((W.alloc (.map #[] 0)).setCell ⟨p, 2, none⟩ (.map (some (w.heap.size + 1 + 1)))) p (w.heap.size + 1 + 1) tv pv (.map []) l l l M n S (fun g => S g ∨ g = w.heap.size + 2) := by
  subst hl
  obtain ⟨a1, a2, a3, a4⟩ := hA
  have hpl := hSl p hSp
  have hz : (W.alloc (.map #[] 0)).heap.size = w.heap.size + 3 := by rw [World.size_alloc, a4]
  have old : ∀ g, g < w.heap.size + 2 → g ≠ p → ((W.alloc (.map #[] 0)).setCell ⟨p, 2, none⟩ (.map (some (w.heap.size + 1 + 1)))).heap[g]? = W.heap[g]? := fun g hg hn => (set_other _ hn).trans (heap_alloc_old _ _ (by rw [a4]; omega))
  have hbp : (W.alloc (.map #[] 0)).heap[p]? = some (.cells #[tv, pv, .map none] 61 (0, 0)) := (heap_alloc_old _ _ (by rw [a4]; omega)).trans ((a3.block p hpl).trans hb)
  have nt : ∀ g, tv.ownBlock = some g → g ≠ p := fun g hg e => own_not_row ht hb (by decide) (by rw [hg, e])
  have np : ∀ g, pv.ownBlock = some g → g ≠ p := fun g hg e => own_not_row hp hb (by decide) (by rw [hg, e])
  have hgm := World.ownsGroups_made (H := Unit) W Try.prog 22 3 .i64
  have hsm := World.Shuns_made W (fun g => ¬ (S g ∨ g = w.heap.size + 2))
  rw [a4] at hgm hsm
  obtain ⟨g1, g2⟩ := groups_kept (w' := (W.alloc (.map #[] 0)).setCell ⟨p, 2, none⟩ (.map (some (w.heap.size + 1 + 1)))) (S := fun g => g = w.heap.size + 2) hgm (fun es c he x hx => by
    have := block_alloc W (.map #[] 0)
    rw [a4] at this
    rw [this] at he
    injection he with he; injection he with he _
    subst he; simp at hx) rfl (fun g hg _ => set_other _ (by omega))
  refine ⟨⟨fun g hg => ?_, .inl hSp, .inr rfl, ?_, own_of_block ht (fun g hg => (old g (by have := (ht.lt g hg).2; omega) (nt g hg)).trans (a3.block g (ht.lt g hg).2)), fun g hg => .inl (hts g hg), own_of_block hp (fun g hg => (old g (by have := (hp.lt g hg).2; omega) (np g hg)).trans (a3.block g (hp.lt g hg).2)), fun g hg => .inl (hps g hg), g1, ?_, fun x hx => rfl⟩, ?_, ?_, ?_, fun g hg => .inl hg, fun g hg => hg.imp id (fun e => by omega), by rw [set_size, hz]; omega⟩
  · rw [set_size, hz]
    rcases hg with hg | rfl
    · have := hSl g hg; omega
    · omega
  · rw [set_block hbp]; rfl
  · intro es c he x hx g hg hn
    exact g2 es c he x hx g hg (fun e => hn (.inr e))
  · exact (old _ (by omega) (by omega)).trans a1
  · exact (old _ (by omega) (by omega)).trans a2
  · refine ⟨a3.os, a3.tape, a3.output, by rw [set_size, hz]; omega, fun k hk hn => (old k (by omega) (fun e => hn (e ▸ hSp))).trans (a3.block k hk)⟩

/-- the append of one place at a step of a region that draws -/
theorem step_places {ops : Array Oper} {o : Oper} {a : Act} {K : Act → World → Prop} {Q : Exit → Act → World → Prop} {E : Prop} (W0 : World) {p b : Nat} {tv pv : Value} {D : DataW Unit} {r l m : List (List UInt8)} {S : Nat → Prop} (s : List UInt8)
    (hpre : Pre W0 p b tv pv D r l m S) (hl : l.length < 2048) (W : World) (N : Nat) (hbW : Below W0.heap.size W0 W) (hB : W.heap[N]? = some (.cells #[.int .u64 (l.flatten.length : Nat), .int .u32 (s.length : Nat)] 39 (0, 0)))
    (hgd : o.guard = none) (x y : Operand) (ho : o.op = .call { callee := .builtin .append, args := #[x, y], argTypes := #[56, 56] }) (hx : a.eval x = pv) (hy : a.eval y = .slice (some ⟨N, 0, none⟩) 1 1)
    (h : ∀ g cap w1, w1.cell? ⟨p, 1, none⟩ = some pv → w1.frozen? ⟨p, 1, none⟩ = false → Touch S W w1 → Pre (w1.setCell ⟨p, 1, none⟩ (.slice (some ⟨g, 0, none⟩) (l.length + 1) cap)) p b tv (.slice (some ⟨g, 0, none⟩) (l.length + 1) cap) D r (l ++ [s]) m (SX S W0 w1) → K (a.put o.dst (.slice (some ⟨g, 0, none⟩) (l.length + 1) cap)) w1) :
    if Region.wanted o (yielded ops a.tmps) = true then Oper.wp Try.prog o a W K Q else E := by
  obtain ⟨i0, hi, hz0, hz1, hz2⟩ := info_parts info_content
  obtain ⟨hSl, hSp, hSb, hbp, ht, hts, hp, hps, hg, hsh, hG⟩ := hpre
  have hlp := hSl p hSp
  have hoW : W.ownsRow 0 39 2 pv l.length (pcells l) := own_of_block hp (fun g hg => hbW.block g (hp.lt g hg).2)
  refine step_append_lies W hgd x y 56 ho 0 39 i0 _ 2 16 Try.underlying56 hi hz0 hz1 hz2 rfl (by decide) pv l.length (pcells l) hx hoW ⟨N, 0, none⟩ 1 1 [.int .u64 (l.flatten.length : Nat), .int .u32 (s.length : Nat)] hy rfl (World.news_of_block hB) (by simp [Value.oneCell']) (by decide) (by unfold maxLen; omega) (by omega) (Nat.zero_le _) _ rfl ?_
  intro g cap w1 h1 h2 h3 h4
  have hne : pv.ownBlock ≠ some p := own_not_row hp hbp (by decide)
  obtain ⟨es, clock, hbm, hrest⟩ := hg
  have hgrp : W0.ownsGroups Try.prog 22 (b + 1) 3 .i64 b m.length D := ⟨es, clock, hbm, hrest⟩
  have k1 : ∀ g, g < W0.heap.size → pv.ownBlock ≠ some g → w1.heap[g]? = W0.heap[g]? := fun g hg hn => (h2.block g (Nat.lt_of_lt_of_le hg hbW.size) (fun e => hn e.symm)).trans (hbW.block g hg)
  have hp1 := (k1 p hlp hne).trans hbp
  obtain ⟨-, c1, -, -, f1, -⟩ := cells3 hp1
  have hs1 : W0.heap.size ≤ w1.heap.size := Nat.le_trans hbW.size h2.size
  have hSX : ∀ g, S g → SX S W0 w1 g := fun g hg => ⟨.inl hg, Nat.lt_of_lt_of_le (hSl g hg) hs1⟩
  have hg1 : SX S W0 w1 g := by
    refine ⟨?_, h4⟩
    rcases h3 with h3 | h3
    · exact .inl (hps g h3)
    · rw [h3]; exact .inr hbW.size
  refine h g cap w1 c1 f1 (Touch.of_grown h2 (fun g hg => .inl (hps g hg))) ?_
  have hgp : g ≠ p := fun e => own_not_row (by exact h1) hp1 (by decide) (by rw [← e]; rfl)
  have kk : ∀ g, S g → g ≠ p → pv.ownBlock ≠ some g → (w1.setCell ⟨p, 1, none⟩ (.slice (some ⟨g, 0, none⟩) (l.length + 1) cap)).heap[g]? = W0.heap[g]? := fun g hg hn hn2 => (set_other _ hn).trans (k1 g (hSl g hg) hn2)
  have hap := own_apart ht hp (by decide)
  have hpvS : ∀ x ∈ es.toList, ∀ g, x.val.ownBlock = some g → S g ∧ g ≠ p ∧ pv.ownBlock ≠ some g := fun x hx g hg => by
    have hxS := Classical.not_not.1 (hsh es clock hbm x hx g hg)
    obtain ⟨F, -⟩ := hrest
    obtain ⟨y, hy⟩ := F.reads x hx
    obtain ⟨z, hz, -⟩ := Go.WideElems.rd_val hy
    obtain ⟨zs, ho, -⟩ := rowElem_inv hz
    refine ⟨hxS, fun e => own_not_row ho.1 hbp (by decide) (by rw [hg, e]), fun e => ?_⟩
    rcases own_apart hp ho.1 (by decide) with h | h
    · rw [h] at e; cases e
    · exact h (by rw [e, hg])
  have hbne : b ≠ p := fun e => by rw [← e] at hbp; rw [hbp] at hbm; cases hbm
  have hpb : pv.ownBlock ≠ some b := own_not_map hp hbm
  obtain ⟨q1, q2⟩ := groups_kept (w' := w1.setCell ⟨p, 1, none⟩ (.slice (some ⟨g, 0, none⟩) (l.length + 1) cap)) (S := fun g => S g ∧ g ≠ p ∧ pv.ownBlock ≠ some g) hgrp (fun es2 c2 he x hx g hg hn => by
    obtain ⟨rfl, rfl⟩ : es = es2 ∧ clock = c2 := by rw [hbm] at he; simpa using he
    exact hn (hpvS x hx g hg)) ⟨hSb, hbne, hpb⟩ (fun g hg _ => (set_other _ hg.2.1).trans (k1 g (hSl g hg.1) hg.2.2))
  refine ⟨fun g hg => by rw [set_size]; exact hg.2, hSX p hSp, hSX b hSb, ?_, own_of_block ht (fun g hg => (set_other _ (fun e => own_not_row ht hbp (by decide) (by rw [hg, e]))).trans (k1 g (ht.lt g hg).2 (fun e => hap.elim (fun h => by rw [h] at hg; cases hg) (fun h => h (hg.trans e.symm))))), fun g hg => hSX g (hts g hg), ?_, ?_, q1, fun es2 c2 he x hx g hg hn => q2 es2 c2 he x hx g hg (fun hh => hn (hSX g hh.1)), hG⟩
  · rw [set_block hp1]; rfl
  · rw [pcells_snoc, List.length_append]
    exact own_of_block h1 (fun g' hg' => set_other _ (by
      have : g = g' := by simpa [Value.ownBlock] using hg'
      omega))
  · intro g' hg'
    have : g = g' := by simpa [Value.ownBlock] using hg'
    exact this ▸ hg1
/-- where a text's bytes come to lie behind an append -/
theorem run_append_string_at (w : World) (t u ty e : TypeId) (i : TypeInfo) (ht : Try.prog.underlying t = some (.slice e)) (hu : Try.prog.underlying u = some .string) (hi : Try.prog.info? e = some i) (hz : i.zero = some (.int .u8 0)) (hsize : i.size = 1) (hby : i.bytes = 1)
    (v : Value) (n : Nat) (xs : List Value) (hown : w.ownsRow 0 e 1 v n xs) (s : ByteArray) (h0 : 0 < s.size) (h63 : n + s.size ≤ maxLen) (hbytes : n + s.size ≤ 140737488355328) (v' : Value) (w' : World) (hr : (Builtin.append_ #[t, u] ty #[v, .string s]).run Try.prog w = .ok v' w') :
    v'.ownBlock = v.ownBlock ∨ v'.ownBlock = some w.heap.size := by
  unfold maxLen at h63
  have hxl : xs.length = n := by simpa using hown.1
  rcases hown.2 with ⟨rfl, rfl⟩ | ⟨g, cap, cur, rfl, hbg, hg, hnc, hcm, hcs, htake⟩
  · have h := run_append_nil_string (P := Try.prog) w t u ty e i (.int .u8 0) ht hu hi hz s h0 (by omega) (by rw [hby]; omega)
    rw [h] at hr
    injection hr with e1 _
    exact .inr (by rw [← e1]; rfl)
  · by_cases hroom : n + s.size ≤ cap
    · have h := Lib.run_append_room_string (P := Try.prog) w t u ty e i ht hu hi hsize g n cap cur hg s hroom (by have : cur.size = cap := (by simpa using hcs); omega)
      rw [h] at hr
      injection hr with e1 _
      exact .inl (by rw [← e1]; rfl)
    · have h := Lib.run_append_grow_string (P := Try.prog) w t u ty e i (.int .u8 0) ht hu hi hz ⟨g, 0, none⟩ n cap xs (by rw [hsize]; simpa using hxl) (hown.cells (g := g) rfl) s (by omega) (by omega) (by rw [hby]; exact growslice_fits (by omega) (by omega))
      rw [h] at hr
      injection hr with e1 _
      exact .inr (by rw [← e1]; rfl)
theorem append_text {ops : Array Oper} {rest : List Oper} {o : Oper} {a : Act} {Q : Exit → Act → World → Prop} (W : World) {p b : Nat} {tv pv : Value} {D : DataW Unit} {r l m : List (List UInt8)} {S : Nat → Prop} (s : List UInt8)
    (hpre : Pre W p b tv pv D r l m S) (hfl : r.flatten.length ≤ 134217728) (h0 : s ≠ []) (hsl : s.length ≤ 65536)
    (hgd : o.guard = none) (x y : Operand) (ho : o.op = .call { callee := .builtin .append, args := #[x, y], argTypes := #[29, 9] }) (hx : a.eval x = tv) (hy : a.eval y = .string (bs s))
    (h : ∀ (g k cap : Nat) w1, w1.cell? ⟨p, 0, none⟩ = some tv → w1.frozen? ⟨p, 0, none⟩ = false → Touch S W w1 → Pre (w1.setCell ⟨p, 0, none⟩ (.slice (some ⟨g, 0, none⟩) k cap)) p b (.slice (some ⟨g, 0, none⟩) k cap) pv D (r ++ [s]) l m (SX S W w1) → wpList Try.prog ops Q rest (a.put o.dst (.slice (some ⟨g, 0, none⟩) k cap)) w1) :
    wpList Try.prog ops Q (o :: rest) a W := by
  refine wpList_plain hgd fun K hK => ?_
  obtain ⟨i0, hi, hz0, hz1, hz2⟩ := info_parts info_byte
  obtain ⟨hSl, hSp, hSb, hbp, ht, hts, hp, hps, hg, hsh, hG⟩ := hpre
  have hlp := hSl p hSp
  have hss : (bs s).size = s.length := bs_size s
  have hs0 : 0 < s.length := List.length_pos_iff.2 h0
  obtain ⟨v', w1, hr, h1, h2, -⟩ := Lib.run_append_own_string (P := Try.prog) W 0 29 9 o.type 5 i0 Try.underlying29 Try.underlying9 hi hz0 hz1 hz2 tv r.flatten.length (bytesV r.flatten) ht (bs s) (by unfold maxLen; omega) (by omega) (Nat.zero_le _)
  have h3 := run_append_string_at W 29 9 o.type 5 i0 Try.underlying29 Try.underlying9 hi hz0 hz1 hz2 tv r.flatten.length (bytesV r.flatten) ht (bs s) (by omega) (by unfold maxLen; omega) (by omega) v' w1 hr
  rw [hss, bytesV_str, bs_data] at h1
  obtain ⟨gv, capv, rfl, -, -⟩ := h1.form (by omega)
  have hne : tv.ownBlock ≠ some p := own_not_row ht hbp (by decide)
  obtain ⟨es, clock, hbm, hrest⟩ := hg
  have hgrp : W.ownsGroups Try.prog 22 (b + 1) 3 .i64 b m.length D := ⟨es, clock, hbm, hrest⟩
  have k1 : ∀ g, g < W.heap.size → tv.ownBlock ≠ some g → w1.heap[g]? = W.heap[g]? := fun g hg hn => h2.block g hg (fun e => hn e.symm)
  have hp1 := (k1 p hlp hne).trans hbp
  obtain ⟨c1, -, -, f1, -, -⟩ := cells3 hp1
  have hSX : ∀ g, S g → SX S W w1 g := fun g hg => ⟨.inl hg, Nat.lt_of_lt_of_le (hSl g hg) h2.size⟩
  have hgv : ∀ g, (Value.slice (some ⟨gv, 0, none⟩) (r.flatten.length + s.length) capv).ownBlock = some g → SX S W w1 g := fun g hg => by
    refine ⟨?_, (h1.lt g hg).2⟩
    rcases h3 with h3 | h3
    · exact .inl (hts g (by rw [← h3]; exact hg))
    · rw [hg] at h3; rw [Option.some.inj h3]; exact .inr (Nat.le_refl _)
  have hgp : ∀ g, (Value.slice (some ⟨gv, 0, none⟩) (r.flatten.length + s.length) capv).ownBlock = some g → g ≠ p := fun g hg e => own_not_row h1 hp1 (by decide) (by rw [← e]; exact hg)
  have hap := own_apart hp ht (by decide)
  have hpvS : ∀ x ∈ es.toList, ∀ g, x.val.ownBlock = some g → S g ∧ g ≠ p ∧ tv.ownBlock ≠ some g := fun x hx g hg => by
    have hxS := Classical.not_not.1 (hsh es clock hbm x hx g hg)
    obtain ⟨F, -⟩ := hrest
    obtain ⟨y, hy⟩ := F.reads x hx
    obtain ⟨z, hz, -⟩ := Go.WideElems.rd_val hy
    obtain ⟨zs, ho, -⟩ := rowElem_inv hz
    refine ⟨hxS, fun e => own_not_row ho.1 hbp (by decide) (by rw [hg, e]), fun e => ?_⟩
    rcases own_apart ht ho.1 (by decide) with h | h
    · rw [h] at e; cases e
    · exact h (by rw [e, hg])
  have hbne : b ≠ p := fun e => by rw [← e] at hbp; rw [hbp] at hbm; cases hbm
  have hpb : tv.ownBlock ≠ some b := own_not_map ht hbm
  obtain ⟨q1, q2⟩ := groups_kept (w' := w1.setCell ⟨p, 0, none⟩ (.slice (some ⟨gv, 0, none⟩) (r.flatten.length + s.length) capv)) (S := fun g => S g ∧ g ≠ p ∧ tv.ownBlock ≠ some g) hgrp (fun es2 c2 he x hx g hg hn => by
    obtain ⟨rfl, rfl⟩ : es = es2 ∧ clock = c2 := by rw [hbm] at he; simpa using he
    exact hn (hpvS x hx g hg)) ⟨hSb, hbne, hpb⟩ (fun g hg _ => (set_other _ hg.2.1).trans (k1 g (hSl g hg.1) hg.2.2))
  unfold Oper.wp execOp
  simp only [ho, resolve, invoke, builtin, Sem.run_bind, Sem.run_pure, Result.andThen_ok, List.map_toArray, List.map_cons, List.map_nil, hx, hy, hr]
  refine hK _ _ (h gv _ capv w1 c1 f1 (Touch.of_grown h2 (fun g hg => .inl (hts g hg))) ⟨fun g hg => by rw [set_size]; exact hg.2, hSX p hSp, hSX b hSb, ?_, ?_, hgv, own_of_block hp (fun g hg => (set_other _ (fun e => own_not_row hp hbp (by decide) (by rw [hg, e]))).trans (k1 g (hp.lt g hg).2 (fun e => hap.elim (fun h => by rw [h] at hg; cases hg) (fun h => h (hg.trans e.symm))))), fun g hg => hSX g (hps g hg), q1, fun es2 c2 he x hx g hg hn => q2 es2 c2 he x hx g hg (fun hh => hn (hSX g hh.1)), hG⟩)
  · rw [set_block hp1]; rfl
  · have e1 : (r ++ [s]).flatten = r.flatten ++ s := by rw [List.flatten_append, List.flatten_cons, List.flatten_nil, List.append_nil]
    rw [e1, List.length_append, bytesV_append]
    exact own_of_block h1 (fun g hg => set_other _ (hgp g hg))
theorem Ready.go {w W0 W w2 : World} {p b : Nat} {tv pv tv' pv' : Value} {D D' : DataW Unit} {r l m r' l' m' : List (List UInt8)} {M n : Nat} {S S0 : Nat → Prop} (h : Ready w W0 p b tv pv D r l m M n S S0) (hSl : ∀ g, S g → g < w.heap.size) (hb : Below W0.heap.size W0 W) (ht : Touch S0 W w2) (hp : Pre w2 p b tv' pv' D' r' l' m' (SX S0 W0 w2)) :
    Ready w w2 p b tv' pv' D' r' l' m' M n S (SX S0 W0 w2) := by
  obtain ⟨h1, h2, h3, h4, h5, h6, h7⟩ := h
  have hsz := Nat.le_trans hb.size ht.size
  have old : ∀ g, g < w.heap.size + 2 → w.heap.size ≤ g → w2.heap[g]? = W0.heap[g]? := fun g hg hg2 => (ht.block g (by have := hb.size; omega) (fun hs => (h6 g hs).elim (fun h => by have := hSl g h; omega) (fun h => by omega))).trans (hb.block g (by omega))
  refine ⟨hp, (old _ (by omega) (Nat.le_refl _)).trans h2, (old _ (by omega) (by omega)).trans h3, (h4.trans (Touch.of_below (S := S) hb) (fun g hg => .inl hg)).trans ht (fun g hg => (h6 g hg).imp id (fun e => by omega)), fun g hg => ⟨.inl (h5 g hg), Nat.lt_of_lt_of_le (h1.1 g (h5 g hg)) hsz⟩, fun g hg => ?_, Nat.le_trans h7 hsz⟩
  rcases hg.1 with hg | hg
  · exact h6 g hg
  · exact .inr (by omega)
theorem touch_set {S : Nat → Prop} {w w' : World} {a : Addr} (v : Value) (h : Touch S w w') (ha : S a.block ∨ w.heap.size ≤ a.block) : Touch S w (w'.setCell a v) :=
  h.trans (S' := fun g => g = a.block) ⟨rfl, rfl, rfl, by rw [set_size]; exact Nat.le_refl _, fun k hk hn => Below.heap_setCell _ _ _ _ hn⟩ (fun g hg => by rw [hg]; exact ha)
/-- the same, where the pool's block has been written besides -/
theorem Ready.goS {w W0 W w2 : World} {p b k : Nat} {v : Value} {tv pv tv' pv' : Value} {D D' : DataW Unit} {r l m r' l' m' : List (List UInt8)} {M n : Nat} {S S0 : Nat → Prop} (h : Ready w W0 p b tv pv D r l m M n S S0) (hSl : ∀ g, S g → g < w.heap.size) (hb : Below W0.heap.size W0 W) (ht : Touch S0 W w2) (hp : Pre (w2.setCell ⟨p, k, none⟩ v) p b tv' pv' D' r' l' m' (SX S0 W0 w2)) :
    Ready w (w2.setCell ⟨p, k, none⟩ v) p b tv' pv' D' r' l' m' M n S (SX S0 W0 w2) := by
  have e : SX S0 W0 w2 = SX S0 W0 (w2.setCell ⟨p, k, none⟩ v) := by funext g; unfold SX; rw [set_size]
  rw [e] at hp ⊢
  exact h.go hSl hb (touch_set v ht (.inl h.1.2.1)) hp
theorem Ready.far {w W w6 : World} {p b : Nat} {tv pv : Value} {D : DataW Unit} {r l m : List (List UInt8)} {M n : Nat} {S S' : Nat → Prop} (h : Ready w W p b tv pv D r l m M n S S') (hSl : ∀ g, S g → g < w.heap.size) (ht : Touch S' W w6) :
    w6.heap[w.heap.size]? = some (.cells #[.int .u64 0, .int .u32 0] 39 (0, 0)) ∧ w6.heap[w.heap.size + 1]? = some (.cells #[.int .u64 (M : Nat), .int .u32 (n : Nat)] 39 (0, 0)) := by
  obtain ⟨h1, h2, h3, h4, h5, h6, h7⟩ := h
  have old : ∀ g, g < w.heap.size + 2 → w.heap.size ≤ g → w6.heap[g]? = W.heap[g]? := fun g hg hg2 => ht.block g (by omega) (fun hs => (h6 g hs).elim (fun h => by have := hSl g h; omega) (fun h => by omega))
  exact ⟨(old _ (by omega) (Nat.le_refl _)).trans h2, (old _ (by omega) (by omega)).trans h3⟩
/-- a pool, whole -/
theorem Pre.pool {W : World} {p b : Nat} {tv pv : Value} {D : DataW Unit} {l : List (List UInt8)} {S : Nat → Prop} (h : Pre W p b tv pv D l l l S) (hok : OkL l) : PoolAt W p l S := by
  obtain ⟨h1, h2, h3, hb, ht, hts, hp, hps, hg, hsh, hG⟩ := h
  exact ⟨hok, h1, h2, _, _, _, hb, ht, hts, hp, hps, .inr ⟨b, D, rfl, h3, hg, hsh, hG⟩⟩
theorem Ready.cells {w W : World} {p b : Nat} {tv pv : Value} {D : DataW Unit} {r l m : List (List UInt8)} {M n : Nat} {S S' : Nat → Prop} (h : Ready w W p b tv pv D r l m M n S S') :
    W.cell? ⟨p, 0, none⟩ = some tv ∧ W.cell? ⟨p, 1, none⟩ = some pv ∧ W.cell? ⟨w.heap.size, 0, none⟩ = some (.int .u64 0) ∧ W.cell? ⟨w.heap.size, 1, none⟩ = some (.int .u32 0) ∧ W.frozen? ⟨w.heap.size, 0, none⟩ = false ∧ W.frozen? ⟨w.heap.size, 1, none⟩ = false ∧ W.cell? ⟨w.heap.size + 1, 0, none⟩ = some (.int .u64 (M : Nat)) ∧ W.cell? ⟨w.heap.size + 1, 1, none⟩ = some (.int .u32 (n : Nat)) ∧ p < W.heap.size ∧ w.heap.size + 1 < W.heap.size := by
  obtain ⟨h1, h2, h3, h4, h5, h6, h7⟩ := h
  obtain ⟨a0, a1, -, -, -, -⟩ := cells3 h1.2.2.2.1
  obtain ⟨b0, b1, b2, b3⟩ := cells2 h2
  obtain ⟨d0, d1, -, -⟩ := cells2 h3
  exact ⟨a0, a1, b0, b1, b2, b3, d0, d1, h1.lt.1, by omega⟩
end Go.Proofs.Ytjeeedbbdgjgeaa
