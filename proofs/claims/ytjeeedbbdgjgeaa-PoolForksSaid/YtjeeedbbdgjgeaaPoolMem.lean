/- A pool in memory: its blocks, what keeps them. -/
import Derived.Test.YtjeeedbbdgjgeaaPoolPlain
import Derived.Test.YtjeeedbbdgjgeaaFnvSum
import Derived.Maps.GroupsBeside
import Derived.Lib.AppendStr
import Derived.Deep.AppendLies
namespace Go.Proofs.Ytjeeedbbdgjgeaa
open Go.RowKit Go.Maps PoolPlain

/-- w' is w but for blocks of which S holds, and new ones -/
structure Touch (S : Nat → Prop) (w w' : World) : Prop where
  os : w'.os = w.os
  tape : w'.tape = w.tape
  output : w'.output = w.output
  size : w.heap.size ≤ w'.heap.size
  block : ∀ k, k < w.heap.size → ¬ S k → w'.heap[k]? = w.heap[k]?
theorem Touch.refl (S : Nat → Prop) (w : World) : Touch S w w := ⟨rfl, rfl, rfl, Nat.le_refl _, fun _ _ _ => rfl⟩
theorem Touch.trans {S S' : Nat → Prop} {a b c : World} (h : Touch S a b) (k : Touch S' b c) (hS : ∀ g, S' g → S g ∨ a.heap.size ≤ g) : Touch S a c :=
  ⟨k.os.trans h.os, k.tape.trans h.tape, k.output.trans h.output, Nat.le_trans h.size k.size, fun i hi hn =>
    (k.block i (Nat.lt_of_lt_of_le hi h.size) (fun hs => (hS i hs).elim hn (fun h2 => by omega))).trans (h.block i hi hn)⟩
theorem Touch.of_below {S : Nat → Prop} {w w' : World} (h : Below w.heap.size w w') : Touch S w w' := ⟨h.os, h.tape, h.output, h.size, fun k hk _ => h.block k hk⟩
theorem Touch.of_grown {S : Nat → Prop} {w w' : World} {row : Option Nat} (h : w.grownBy w' row) (hr : ∀ g, row = some g → S g ∨ w.heap.size ≤ g) : Touch S w w' :=
  ⟨h.os, h.tape, h.output, h.size, fun k hk hn => h.block k hk (fun e => (hr k e.symm).elim hn (fun h2 => by omega))⟩
theorem Touch.mono {S S' : Nat → Prop} {w w' : World} (h : Touch S w w') (hS : ∀ g, S g → S' g) : Touch S' w w' := ⟨h.os, h.tape, h.output, h.size, fun k hk hn => h.block k hk (fun hs => hn (hS k hs))⟩
theorem Touch.below {S : Nat → Prop} {B : Nat} {w w' : World} (h : Touch S w w') (hS : ∀ g, S g → B ≤ g) (hB : B ≤ w.heap.size) : Below B w w' :=
  ⟨h.os, h.tape, h.output, h.size, fun k hk => h.block k (by omega) (fun hs => by have := hS k hs; omega)⟩

/-- a row that stands in its block is owned in every world that has that block -/
theorem own_of_block {w w' : World} {base : Nat} {e : TypeId} {size : Nat} {v : Value} {n : Nat} {xs : List Value} (h : w.ownsRow base e size v n xs) (hb : ∀ g, v.ownBlock = some g → w'.heap[g]? = w.heap[g]?) : w'.ownsRow base e size v n xs := by
  refine ⟨h.1, ?_⟩
  rcases h.2 with hn | ⟨g, cap, cur, rfl, hg, hgg, rest⟩
  · exact .inl hn
  · refine .inr ⟨g, cap, cur, rfl, hg, ?_, rest⟩
    rw [hb g rfl]; exact hgg
theorem own_kept {w w' : World} {S : Nat → Prop} {base : Nat} {e : TypeId} {size : Nat} {v : Value} {n : Nat} {xs : List Value} (h : w.ownsRow base e size v n xs) (ht : Touch S w w') (hn : ∀ g, v.ownBlock = some g → ¬ S g) : w'.ownsRow base e size v n xs :=
  own_of_block h (fun g hg => ht.block g (h.lt g hg).2 (hn g hg))
/-- the block of an owned row bears its element's type -/
theorem own_tag {w : World} {base : Nat} {e : TypeId} {size : Nat} {v : Value} {n : Nat} {xs : List Value} (h : w.ownsRow base e size v n xs) (g : Nat) (hg : v.ownBlock = some g) : ∃ cur, w.heap[g]? = some (.cells cur e (0, 0)) := by
  rcases h.2 with ⟨rfl, _⟩ | ⟨g', cap, cur, rfl, _, hgg, _⟩
  · cases hg
  · obtain rfl : g' = g := by simpa [Value.ownBlock] using hg
    exact ⟨cur, hgg⟩
theorem own_apart {w : World} {b1 b2 : Nat} {e1 e2 : TypeId} {s1 s2 n1 n2 : Nat} {v1 v2 : Value} {x1 x2 : List Value} (h1 : w.ownsRow b1 e1 s1 v1 n1 x1) (h2 : w.ownsRow b2 e2 s2 v2 n2 x2) (hne : e1 ≠ e2) : v1.ownBlock = none ∨ v1.ownBlock ≠ v2.ownBlock := by
  cases hv : v1.ownBlock with
  | none => exact .inl rfl
  | some g =>
    refine .inr (fun e => ?_)
    obtain ⟨c1, k1⟩ := own_tag h1 g hv
    obtain ⟨c2, k2⟩ := own_tag h2 g e.symm
    rw [k1] at k2
    simp only [Option.some.injEq, Obj.cells.injEq] at k2
    exact hne k2.2.1
theorem own_not_map {w : World} {b1 : Nat} {e1 : TypeId} {s1 n1 : Nat} {v1 : Value} {x1 : List Value} (h1 : w.ownsRow b1 e1 s1 v1 n1 x1) {b : Nat} {es : Array MapEntry} {clock : Nat} (hb : w.heap[b]? = some (.map es clock)) : v1.ownBlock ≠ some b := fun hv => by
  obtain ⟨c1, k1⟩ := own_tag h1 b hv
  rw [k1] at hb; cases hb
theorem own_not_row {w : World} {b1 : Nat} {e1 : TypeId} {s1 n1 : Nat} {v1 : Value} {x1 : List Value} (h1 : w.ownsRow b1 e1 s1 v1 n1 x1) {b : Nat} {cs : Array Value} {t : TypeId} {m : Nat × Nat} (hb : w.heap[b]? = some (.cells cs t m)) (hne : e1 ≠ t) : v1.ownBlock ≠ some b := fun hv => by
  obtain ⟨c1, k1⟩ := own_tag h1 b hv
  rw [k1] at hb
  simp only [Option.some.injEq, Obj.cells.injEq] at hb
  exact hne hb.2.1

/-- groups stay while their map's block and their rows stay -/
theorem groups_kept {H : Type} {P : Program} {k : TypeId} {w w' : World} {base : Nat} {e : TypeId} {q : IntKind} {b n : Nat} {D : DataW H} {S : Nat → Prop} (h : w.ownsGroups P k base e q b n D) (hs : w.Shuns b (fun g => ¬ S g)) (hb : S b)
    (hk : ∀ g, S g → g < w.heap.size → w'.heap[g]? = w.heap[g]?) : w'.ownsGroups P k base e q b n D ∧ w'.Shuns b (fun g => ¬ S g) := by
  obtain ⟨es, clock, hbk, F, hsz, rfl, hbb, hlen, hap⟩ := h
  have hblt : b < w.heap.size := (Array.getElem?_eq_some_iff.1 hbk).1
  have hSx : ∀ x ∈ es.toList, ∀ g, x.val.ownBlock = some g → S g := fun x hx g hg => Classical.not_not.1 (hs es clock hbk x hx g hg)
  have hst0 : ∀ x ∈ es.toList, ∀ zs, w.ownsInts base e q x.val zs → w'.ownsInts base e q x.val zs := fun x hx zs ho => ⟨own_of_block ho.1 (fun g hg => hk g (hSx x hx g hg) (ho.1.lt g hg).2), ho.2⟩
  have hst : ∀ x ∈ es.toList, ∀ z, rowElem (H := H) w base e q x.val = some z → rowElem w' base e q x.val = some z := fun x hx z hz => by
    obtain ⟨zs, ho, rfl⟩ := rowElem_inv hz
    exact rowElem_mk (hst0 x hx zs ho)
  obtain ⟨F1, hmap, _⟩ := F.stay hst
  have hb' : w'.heap[b]? = some (.map es clock) := (hk b hb hblt).trans hbk
  refine ⟨⟨es, clock, hb', F1, hsz, by rw [hmap], hbb, fun x hx zs ho => ?_, hap⟩, fun es2 c2 h2 => ?_⟩
  · obtain ⟨y, hy⟩ := F.reads x hx
    obtain ⟨z, hz, _⟩ := Go.WideElems.rd_val hy
    obtain ⟨zs0, ho0, _⟩ := rowElem_inv hz
    rw [ho.unique (hst0 x hx zs0 ho0)]
    exact hlen x hx zs0 ho0
  · obtain ⟨rfl, rfl⟩ : es = es2 ∧ clock = c2 := by rw [hb'] at h2; simpa using h2
    exact hs es clock hbk

/-- the values of some bytes -/
def bytesV (l : List UInt8) : List Value := l.map fun b => Value.int .u8 (b.toNat : Int)
theorem bytesV_length (l : List UInt8) : (bytesV l).length = l.length := by simp [bytesV]
theorem bytesV_append (a b : List UInt8) : bytesV (a ++ b) = bytesV a ++ bytesV b := by simp [bytesV]
theorem bytesV_str (s : ByteArray) : Lib.strCells s = bytesV s.data.toList := rfl
/-- the cells of the places -/
def pcell (l : List (List UInt8)) (k : Nat) : List Value := [.int .u64 (off l k : Nat), .int .u32 ((l.getD k []).length : Nat)]
def pcells (l : List (List UInt8)) : List Value := (List.range l.length).flatMap (pcell l)
theorem pcells_snoc (l : List (List UInt8)) (s : List UInt8) : pcells (l ++ [s]) = pcells l ++ [.int .u64 (l.flatten.length : Nat), .int .u32 (s.length : Nat)] := by
  unfold pcells
  rw [List.length_append, List.length_singleton, List.range_succ, List.flatMap_append]
  congr 1
  · rw [List.flatMap_def, List.flatMap_def]
    congr 1
    refine List.map_congr_left (fun k hk => ?_)
    have hk := List.mem_range.1 hk
    unfold pcell
    rw [off_append l [s] k (by omega), List.getD_eq_getElem?_getD, List.getD_eq_getElem?_getD, List.getElem?_append_left hk]
  · unfold pcell
    rw [List.flatMap_cons, List.flatMap_nil, off_append l [s] _ (Nat.le_refl _), off_all l _ (Nat.le_refl _)]
    simp [List.getD_eq_getElem?_getD]
theorem pcells_get (l : List (List UInt8)) (k : Nat) (hk : k < l.length) : (pcells l)[k * 2]? = some (.int .u64 (off l k : Nat)) ∧ (pcells l)[k * 2 + 1]? = some (.int .u32 (l[k].length : Nat)) ∧ (pcells l).length = l.length * 2 := by
  have gen : ∀ n, ∀ j, j < n → ((List.range n).flatMap (pcell l))[j * 2]? = some (.int .u64 (off l j : Nat)) ∧ ((List.range n).flatMap (pcell l))[j * 2 + 1]? = some (.int .u32 ((l.getD j []).length : Nat)) := by
    intro n
    induction n with
    | zero => intro j hj; omega
    | succ n ih =>
      intro j hj
      have hlen : ((List.range n).flatMap (pcell l)).length = n * 2 := by
        clear ih hj
        induction n with
        | zero => rfl
        | succ n ih => rw [List.range_succ, List.flatMap_append, List.length_append, ih]; simp [pcell]; omega
      rw [List.range_succ, List.flatMap_append]
      by_cases h : j < n
      · rw [List.getElem?_append_left (by omega), List.getElem?_append_left (by omega)]
        exact ih j h
      · obtain rfl : j = n := by omega
        rw [List.getElem?_append_right (by omega), List.getElem?_append_right (by omega), hlen]
        rw [show j * 2 - j * 2 = 0 by omega, show j * 2 + 1 - j * 2 = 1 by omega]
        exact ⟨rfl, rfl⟩
  have h := gen l.length k hk
  refine ⟨h.1, ?_, ?_⟩
  · have h2 := h.2
    rw [List.getD_eq_getElem?_getD, List.getElem?_eq_getElem hk] at h2
    exact h2
  · have : ∀ n, ((List.range n).flatMap (pcell l)).length = n * 2 := by
      intro n
      induction n with
      | zero => rfl
      | succ n ih => rw [List.range_succ, List.flatMap_append, List.length_append, ih]; simp [pcell]; omega
    exact this _

/-- the numbers of a group -/
def grpZ (l : List (List UInt8)) (x : Nat) : List Int := (grp l x).map fun (k : Nat) => (k : Int)
/-- what a group reads as -/
def grpD (zs : List Int) : DataW Unit := if zs = [] then .nil else .slice (Go.ChangeShapes.lits .i64 zs) []
/-- the groups of a map -/
def Groups (D : DataW Unit) (l : List (List UInt8)) : Prop := ∀ x : Nat, x < 18446744073709551616 → D.atKey (.int .u64 (x : Int)) .nil = grpD (grpZ l x)

/-- what the map of a pool is -/
def MapAt (w : World) (mv : Value) (l : List (List UInt8)) (S : Nat → Prop) : Prop :=
  (mv = .map none ∧ l = []) ∨ ∃ b D, mv = .map (some b) ∧ S b ∧ w.ownsGroups Try.prog 22 (b + 1) 3 .i64 b l.length D ∧ w.Shuns b (fun g => ¬ S g) ∧ Groups D l
/-- block p is a pool of the contents l; all its blocks are of S -/
def PoolAt (w : World) (p : Nat) (l : List (List UInt8)) (S : Nat → Prop) : Prop :=
  OkL l ∧ (∀ g, S g → g < w.heap.size) ∧ S p ∧ ∃ tv pv mv, w.heap[p]? = some (.cells #[tv, pv, mv] 61 (0, 0)) ∧
    w.ownsRow 0 5 1 tv l.flatten.length (bytesV l.flatten) ∧ (∀ g, tv.ownBlock = some g → S g) ∧
    w.ownsRow 0 39 2 pv l.length (pcells l) ∧ (∀ g, pv.ownBlock = some g → S g) ∧ MapAt w mv l S
theorem MapAt.keep {w w' : World} {mv : Value} {l : List (List UInt8)} {S : Nat → Prop} (h : MapAt w mv l S) (hk : ∀ g, S g → w'.heap[g]? = w.heap[g]?) : MapAt w' mv l S := by
  rcases h with h | ⟨b, D, h1, h2, h3, h4, h5⟩
  · exact .inl h
  · obtain ⟨g1, g2⟩ := groups_kept h3 h4 h2 (fun g hg _ => hk g hg)
    exact .inr ⟨b, D, h1, h2, g1, g2, h5⟩
theorem PoolAt.keep {w w' : World} {p : Nat} {l : List (List UInt8)} {S : Nat → Prop} (h : PoolAt w p l S) (hs : w.heap.size ≤ w'.heap.size) (hk : ∀ g, S g → w'.heap[g]? = w.heap[g]?) : PoolAt w' p l S := by
  obtain ⟨h0, h1, h2, tv, pv, mv, hb, ht, hts, hp, hps, hm⟩ := h
  exact ⟨h0, fun g hg => Nat.lt_of_lt_of_le (h1 g hg) hs, h2, tv, pv, mv, (hk p h2).trans hb, own_of_block ht (fun g hg => hk g (hts g hg)), hts, own_of_block hp (fun g hg => hk g (hps g hg)), hps, hm.keep hk⟩
theorem PoolAt.below {w w' : World} {p : Nat} {l : List (List UInt8)} {S : Nat → Prop} (h : PoolAt w p l S) (hb : Below w.heap.size w w') : PoolAt w' p l S := h.keep hb.size (fun g hg => hb.block g (h.2.1 g hg))
theorem PoolAt.touch {w w' : World} {p : Nat} {l : List (List UInt8)} {S S' : Nat → Prop} (h : PoolAt w p l S) (ht : Touch S' w w') (hd : ∀ g, S g → ¬ S' g) : PoolAt w' p l S := h.keep ht.size (fun g hg => ht.block g (h.2.1 g hg) (hd g hg))
theorem PoolAt.lt {w : World} {p : Nat} {l : List (List UInt8)} {S : Nat → Prop} (h : PoolAt w p l S) : p < w.heap.size := h.2.1 p h.2.2.1
/-- a new pool -/
theorem PoolAt.new (w : World) : PoolAt (w.alloc (.cells #[.slice none 0 0, .slice none 0 0, .map none] 61)) w.heap.size [] (fun g => g = w.heap.size) :=
  ⟨okL_nil, fun g hg => by rw [World.size_alloc, hg]; omega, rfl, _, _, _, block_alloc w _, World.ownsRow_nil _ _ _ _, fun g hg => (by cases hg), World.ownsRow_nil _ _ _ _, fun g hg => (by cases hg), .inl ⟨rfl, rfl⟩⟩
theorem cells3 {w : World} {b : Nat} {x y z : Value} {t : TypeId} (h : w.heap[b]? = some (.cells #[x, y, z] t (0, 0))) :
    w.cell? ⟨b, 0, none⟩ = some x ∧ w.cell? ⟨b, 1, none⟩ = some y ∧ w.cell? ⟨b, 2, none⟩ = some z ∧ w.frozen? ⟨b, 0, none⟩ = false ∧ w.frozen? ⟨b, 1, none⟩ = false ∧ w.frozen? ⟨b, 2, none⟩ = false := by
  refine ⟨?_, ?_, ?_, ?_, ?_, ?_⟩
  · unfold World.cell?; rw [h]; rfl
  · unfold World.cell?; rw [h]; rfl
  · unfold World.cell?; rw [h]; rfl
  · unfold World.frozen?; rw [h]; rfl
  · unfold World.frozen?; rw [h]; rfl
  · unfold World.frozen?; rw [h]; rfl
end Go.Proofs.Ytjeeedbbdgjgeaa
