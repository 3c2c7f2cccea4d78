/- What put of a pool does: its steps. -/
import Derived.Test.YtjeeedbbdgjgeaaPoolFind2
import Derived.Deep.RegionHeld3
import Derived.Deep.RegionLaw
namespace Go.Proofs.Ytjeeedbbdgjgeaa
open Go.RowKit Go.Maps PoolPlain

/-- a pool that has a map, of which n contents are in groups -/
def Pre (W : World) (p b : Nat) (tv pv : Value) (D : DataW Unit) (r l m : List (List UInt8)) (S : Nat → Prop) : Prop :=
  (∀ g, S g → g < W.heap.size) ∧ S p ∧ S b ∧ W.heap[p]? = some (.cells #[tv, pv, .map (some b)] 61 (0, 0)) ∧
    W.ownsRow 0 5 1 tv r.flatten.length (bytesV r.flatten) ∧ (∀ g, tv.ownBlock = some g → S g) ∧
    W.ownsRow 0 39 2 pv l.length (pcells l) ∧ (∀ g, pv.ownBlock = some g → S g) ∧
    W.ownsGroups Try.prog 22 (b + 1) 3 .i64 b m.length D ∧ W.Shuns b (fun g => ¬ S g) ∧ Groups D m
theorem Pre.lt {W : World} {p b : Nat} {tv pv : Value} {D : DataW Unit} {r l m : List (List UInt8)} {S : Nat → Prop} (h : Pre W p b tv pv D r l m S) : p < W.heap.size ∧ b < W.heap.size := ⟨h.1 p h.2.1, h.1 b h.2.2.1⟩
theorem Pre.keep {w w' : World} {p b : Nat} {tv pv : Value} {D : DataW Unit} {r l m : List (List UInt8)} {S : Nat → Prop} (h : Pre w p b tv pv D r l m S) (hs : w.heap.size ≤ w'.heap.size) (hk : ∀ g, S g → w'.heap[g]? = w.heap[g]?) : Pre w' p b tv pv D r l m S := by
  obtain ⟨h1, h2, h3, hb, ht, hts, hp, hps, hg, hsh, hG⟩ := h
  obtain ⟨g1, g2⟩ := groups_kept hg hsh h3 (fun g hg _ => hk g hg)
  exact ⟨fun g hg => Nat.lt_of_lt_of_le (h1 g hg) hs, h2, h3, (hk p h2).trans hb, own_of_block ht (fun g hg => hk g (hts g hg)), hts, own_of_block hp (fun g hg => hk g (hps g hg)), hps, g1, g2, hG⟩
theorem Pre.below {w w' : World} {p b : Nat} {tv pv : Value} {D : DataW Unit} {r l m : List (List UInt8)} {S : Nat → Prop} (h : Pre w p b tv pv D r l m S) (hb : Below w.heap.size w w') : Pre w' p b tv pv D r l m S := h.keep hb.size (fun g hg => hb.block g (h.1 g hg))
theorem Pre.wide {w : World} {p b : Nat} {tv pv : Value} {D : DataW Unit} {r l m : List (List UInt8)} {S S' : Nat → Prop} (h : Pre w p b tv pv D r l m S) (hS : ∀ g, S g → S' g) (hl : ∀ g, S' g → g < w.heap.size) : Pre w p b tv pv D r l m S' := by
  obtain ⟨h1, h2, h3, hb, ht, hts, hp, hps, hg, hsh, hG⟩ := h
  exact ⟨hl, hS p h2, hS b h3, hb, ht, fun g h => hS g (hts g h), hp, fun g h => hS g (hps g h), hg, fun es c he x hx g hg hn => hsh es c he x hx g hg (fun hs => hn (hS g hs)), hG⟩
/-- all blocks of S, and the new ones -/
def SX (S : Nat → Prop) (w W : World) (g : Nat) : Prop := (S g ∨ w.heap.size ≤ g) ∧ g < W.heap.size

theorem grpZ_snoc (l : List (List UInt8)) (s : List UInt8) (x : Nat) : grpZ (l ++ [s]) x = grpZ l x ++ (if FnvPlain.sum s = x then [(l.length : Int)] else []) := by
  unfold grpZ; rw [grp_snoc, List.map_append]
  congr 1
  split <;> rfl
theorem groups_put {D : DataW Unit} {l : List (List UInt8)} (s : List UInt8) (h : Groups D l) (hD : IsMap D) {w : World} {base : Nat} {e : TypeId} {v : Value} (ho : w.ownsInts base e .i64 v (grpZ l (FnvPlain.sum s) ++ [(l.length : Int)])) :
    Groups (D.put (.int .u64 (FnvPlain.sum s : Nat)) (rowDatum .i64 v (grpZ l (FnvPlain.sum s) ++ [(l.length : Int)]))) (l ++ [s]) := by
  intro x hx
  rw [grpZ_snoc]
  by_cases e : FnvPlain.sum s = x
  · subst e
    rw [atKey_put_same hD (kU64.key (key_u64 _ hx)), if_pos rfl]
    rw [ho.datum_pos (by simp)]
    unfold grpD
    rw [if_neg (by simp)]
  · rw [atKey_put_other (by intro h; apply e; injection h with _ h2; omega), if_neg e, List.append_nil]
    exact h x hx
theorem groups_isMap {w : World} {k base e : Nat} {q : IntKind} {b n : Nat} {D : DataW Unit} (h : w.ownsGroups Try.prog k base e q b n D) : IsMap D := by
  obtain ⟨es, c, -, -, -, rfl, -⟩ := h
  exact ⟨_, rfl⟩
/-- the look-up of a sum -/
def Looks (b x : Nat) (w : World) (v : Value) : Prop := (Instr.lookup 59 (.map (some b)) (.int .u64 (x : Int)) false).run Try.prog w = .ok v w
/-- F tells what a look-up finds -/
def Tells (F : World → Value) (b x : Nat) : Prop := ∀ w v, Looks b x w v → F w = v
theorem tells_some (b x : Nat) : ∃ F, Tells F b x := by
  refine ⟨fun w => Classical.epsilon (fun v => Looks b x w v), fun w v h => ?_⟩
  have h2 := Classical.epsilon_spec (p := fun v => Looks b x w v) ⟨v, h⟩
  have h3 := Eq.trans (Eq.symm (show _ = _ from h)) (show _ = _ from h2)
  injection h3 with h4
  exact h4.symm
/-- what the region of the store into the map reads -/
def PutS (F : World → Value) (p b x : Nat) (pv : Value) (w : World) : Prop := w.cell? ⟨p, 2, none⟩ = some (.map (some b)) ∧ w.cell? ⟨p, 1, none⟩ = some pv ∧ (Instr.lookup 59 (.map (some b)) (.int .u64 (x : Int)) false).run Try.prog w = .ok (F w) w
theorem PutS.of {F : World → Value} {p b x : Nat} (hF : Tells F b x) {tv pv v : Value} {w : World} (h : w.heap[p]? = some (.cells #[tv, pv, .map (some b)] 61 (0, 0))) (hr : Looks b x w v) : PutS F p b x pv w := by
  obtain ⟨-, h1, h2, -, -, -⟩ := cells3 h
  exact ⟨h2, h1, by rw [hF w v hr]; exact hr⟩
theorem info_int : (Try.prog.info? 3).map (fun i => (i.zero, i.size, i.bytes)) = some (some (.int .i64 0), 1, 8) := by kernel_rfl
/-- behind the append to a group -/
structure Mid (F : World → Value) (W0 W w1 w2 : World) (p b : Nat) (tv pv : Value) (l : List (List UInt8)) (s : List UInt8) (S : Nat → Prop) : Prop where
  pre : ∃ D, Pre w2 p b tv pv D l l (l ++ [s]) (SX S W0 w2)
  touch : Touch S W w2
  s1 : PutS F p b (FnvPlain.sum s) pv w1
  s2 : PutS F p b (FnvPlain.sum s) pv w2
theorem step_group {ops : Array Oper} {o : Oper} {a : Act} {K : Act → World → Prop} {Q : Exit → Act → World → Prop} {E : Prop} (F : World → Value) (W0 : World) {p b : Nat} {tv pv : Value} {D : DataW Unit} {l : List (List UInt8)} {S : Nat → Prop} (s : List UInt8) (hF : Tells F b (FnvPlain.sum s))
    (hpre : Pre W0 p b tv pv D l l l S) (hl : l.length < 2048) {v : Value} (hoi : W0.ownsInts (b + 1) 3 .i64 v (grpZ l (FnvPlain.sum s)))
    (hback : W0.groupBack Try.prog 59 22 (b + 1) 3 .i64 b l.length D (.int .u64 (FnvPlain.sum s : Nat)) (.int .u64 (FnvPlain.sum s : Nat)) v) (hvS : ∀ g, v.ownBlock = some g → S g)
    (hlk : ∀ w', w'.heap[b]? = W0.heap[b]? → Looks b (FnvPlain.sum s) w' v)
    (W : World) (N : Nat) (hbW : Below W0.heap.size W0 W) (hB : W.heap[N]? = some (.cells #[.int .i64 (l.length : Nat)] 3 (0, 0)))
    (hgd : o.guard = none) (x y : Operand) (ho : o.op = .call { callee := .builtin .append, args := #[x, y], argTypes := #[70, 70] }) (hx : a.eval x = v) (hy : a.eval y = .slice (some ⟨N, 0, none⟩) 1 1)
    (h : ∀ v' w1 w2, (Instr.mapUpdate 59 (.map (some b)) (.int .u64 (FnvPlain.sum s : Nat)) v').run Try.prog w1 = .ok () w2 → Mid F W0 W w1 w2 p b tv pv l s S → K (a.put o.dst v') w1) :
    if Region.wanted o (yielded ops a.tmps) = true then Oper.wp Try.prog o a W K Q else E := by
  obtain ⟨i0, hi, hz0, hz1, hz2⟩ := info_parts info_int
  obtain ⟨hSl, hSp, hSb, hbp, ht, hts, hp, hps, hg, hsh, hG⟩ := hpre
  have hlb := hSl b hSb
  have hlp := hSl p hSp
  have hsm := FnvPlain.sum_lt s
  have hzl : (grpZ l (FnvPlain.sum s)).length ≤ l.length := by unfold grpZ; rw [List.length_map]; exact grp_length l _
  have hoW : W.ownsRow (b + 1) 3 1 v (grpZ l (FnvPlain.sum s)).length ((grpZ l (FnvPlain.sum s)).map (Value.int .i64)) := own_of_block hoi.1 (fun g hg => hbW.block g (hoi.1.lt g hg).2)
  have hw : Region.wanted o (yielded ops a.tmps) = true := by simp [Region.wanted, hgd]
  rw [if_pos hw]
  obtain ⟨v', w1, hr, h2, h3, -, h5⟩ := run_append_own_at (P := Try.prog) W (b + 1) 70 o.type 3 i0 _ 1 8 Try.underlying70 hi hz0 hz1 hz2 rfl (by decide) v _ _ hoW ⟨N, 0, none⟩ 1 1 [.int .i64 (l.length : Nat)] rfl (World.news_of_block hB) (by simp [Value.oneCell']) (by unfold maxLen; omega) (by omega) (by have := hbW.size; omega)
  have hG0 : W0.grownBy w1 v.ownBlock := ⟨h3.os.trans hbW.os, h3.tape.trans hbW.tape, h3.output.trans hbW.output, Nat.le_trans hbW.size h3.size, fun k hk hne => (h3.block k (Nat.lt_of_lt_of_le hk hbW.size) hne).trans (hbW.block k hk)⟩
  have ho1 : w1.ownsInts (b + 1) 3 .i64 v' (grpZ l (FnvPlain.sum s) ++ [(l.length : Int)]) := hoi.appended h2 (WalkArith.wf_i64 (by omega))
  obtain ⟨w2, hu, hg2, hg12⟩ := hback w1 v' _ hG0 ho1 (by simp; omega) (h5.imp id (fun e => ⟨_, e, hbW.size⟩))
  have hnb : v.ownBlock ≠ some b := fun e => by have := (hoi.1.lt b e).1; omega
  have hnp : v.ownBlock ≠ some p := own_not_row hoi.1 hbp (by decide)
  have hisD := groups_isMap hg
  obtain ⟨es, clock, hbm, Fit0, hsz0, -⟩ := hg
  have hpb : p ≠ b := fun e => by rw [e] at hbp; rw [hbp] at hbm; cases hbm
  have k1 : ∀ g, g < W0.heap.size → v.ownBlock ≠ some g → w1.heap[g]? = W0.heap[g]? := fun g hg hn => hG0.block g hg (fun e => hn e.symm)
  have k2 : ∀ g, g < W0.heap.size → v.ownBlock ≠ some g → g ≠ b → w2.heap[g]? = W0.heap[g]? := fun g hg hn hb => (hg12.block g (Nat.lt_of_lt_of_le hg hG0.size) (fun e => hb (Option.some.inj e))).trans (k1 g hg hn)
  have htch : Touch S W w2 := (Touch.of_grown h3 (fun g hg => .inl (hvS g hg))).trans (Touch.of_grown (S := S) hg12 (fun g hg => .inl (by rw [← Option.some.inj hg]; exact hSb))) (fun g hg => .inl hg)
  have hap1 := own_apart ht hoi.1 (by decide)
  have hap2 := own_apart hp hoi.1 (by decide)
  have kt : ∀ g, tv.ownBlock = some g → w2.heap[g]? = W0.heap[g]? := fun g hg => k2 g (ht.lt g hg).2 (fun e => hap1.elim (fun h => by rw [h] at hg; cases hg) (fun h => h (hg.trans e.symm))) (fun e => own_not_map ht hbm (by rw [hg, e]))
  have kp : ∀ g, pv.ownBlock = some g → w2.heap[g]? = W0.heap[g]? := fun g hg => k2 g (hp.lt g hg).2 (fun e => hap2.elim (fun h => by rw [h] at hg; cases hg) (fun h => h (hg.trans e.symm))) (fun e => own_not_map hp hbm (by rw [hg, e]))
  have hsz2 : W0.heap.size ≤ w2.heap.size := Nat.le_trans hG0.size hg12.size
  have hSX : ∀ g, S g → SX S W0 w2 g := fun g hg => ⟨.inl hg, by have := hSl g hg; omega⟩
  have hs2 : w2.Shuns b (fun g => ¬ SX S W0 w2 g) := by
    have hb1 := (k1 b hlb hnb).trans hbm
    obtain ⟨es', clock', hb2, hwho⟩ := stored_who kU64 Try.underlying59 hb1 Fit0 (by unfold maxLen; omega) (key_u64 _ hsm) hu
    intro es2 clock2 hb2' y hy g hyg hno
    obtain ⟨rfl, rfl⟩ : es' = es2 ∧ clock' = clock2 := by rw [hb2] at hb2'; simpa using hb2'
    rcases hwho y hy with ⟨hy0, -⟩ | ⟨-, hval⟩
    · exact hsh es clock hbm y hy0 g hyg (fun hs => hno (hSX g hs))
    · rw [hval] at hyg
      have hlt2 := (h2.lt g hyg).2
      refine hno ⟨?_, Nat.lt_of_lt_of_le hlt2 hg12.size⟩
      rcases h5 with h5 | h5
      · exact .inl (hvS g (by rw [← h5]; exact hyg))
      · rw [hyg] at h5
        rw [Option.some.inj h5]
        exact .inr hbW.size
  have hlen : (l ++ [s]).length = l.length + 1 := by simp
  have hp2 := (k2 p hlp hnp hpb).trans hbp
  have hlk2 : ∃ v2, Looks b (FnvPlain.sum s) w2 v2 := by
    obtain ⟨v2, zs2, -, -, -, -, -, h6⟩ := groups_look kU64 Try.underlying59 zeroInts hg2 hs2 (by unfold maxLen; omega) (key_u64 _ hsm)
    exact ⟨v2, h6 w2 rfl⟩
  have hpre2 : Pre w2 p b tv pv (D.put (.int .u64 (FnvPlain.sum s : Nat)) (rowDatum .i64 v' (grpZ l (FnvPlain.sum s) ++ [(l.length : Int)]))) l l (l ++ [s]) (SX S W0 w2) :=
    ⟨fun g hg => hg.2, hSX p hSp, hSX b hSb, hp2, own_of_block ht kt, fun g hg => hSX g (hts g hg), own_of_block hp kp, fun g hg => hSX g (hps g hg), by rw [hlen]; exact hg2, hs2, groups_put s hG hisD ho1⟩
  unfold Oper.wp execOp
  simp only [ho, resolve, invoke, builtin, Sem.run_bind, Sem.run_pure, Result.andThen_ok, List.map_toArray, List.map_cons, List.map_nil, hx, hy, hr]
  exact h v' w1 w2 hu ⟨⟨_, hpre2⟩, htch, PutS.of hF ((k1 p hlp hnp).trans hbp) (hlk w1 (k1 b hlb hnb)), PutS.of hF hp2 hlk2.choose_spec⟩
end Go.Proofs.Ytjeeedbbdgjgeaa
