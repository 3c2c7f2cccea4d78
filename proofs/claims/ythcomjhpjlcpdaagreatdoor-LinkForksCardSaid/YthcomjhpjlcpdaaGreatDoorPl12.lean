/- Blocks that a call touches; rows of bytes. (The same as PoolMem's first part: never import both.) What Clip and Told of package ranges, and of its reference, return. What wrong and Told of package ranges, and Told of its reference, return. What Check and sort of package origin, and the replies of both sorts, return. What Answer and Code of package origin return. What the reference of origin returns. The small example of the laws of layer 27. The law OriginTells. A connection in memory; what New, Closed, Rest and Served of package serve return. -/
import Derived.Test.YthcomjhpjlcpdaaGreatDoorPl11
import Derived.Lib.AppendStr
import Derived.Deep.AppendLies
import Derived.Deep.RegionHeld3
set_option linter.unusedVariables false
set_option linter.unusedSimpArgs false
namespace Go.Proofs.YthcomjhpjlcpdaaGreatDoor
open Go.RowKit
/-- w' is w but for blocks of which S holds, and new ones -/
structure Touch (S : Nat → Prop) (w w' : World) : Prop where
  os : w'.os = w.os
  tape : w'.tape = w.tape
  output : w'.output = w.output
  size : w.heap.size ≤ w'.heap.size
  block : ∀ k, k < w.heap.size → ¬ S k → w'.heap[k]? = w.heap[k]?
theorem Touch.refl (S : Nat → Prop) (w : World) : Touch S w w := ⟨rfl, rfl, rfl, Nat.le_refl _, fun _ _ _ => rfl⟩
theorem Touch.trans {S S' : Nat → Prop} {a b c : World} (h : Touch S a b) (k : Touch S' b c) (hS : ∀ g, S' g → S g ∨ a.heap.size ≤ g) : Touch S a c :=
  ⟨k.os.trans h.os, k.tape.trans h.tape, k.output.trans h.output, Nat.le_trans h.size k.size, fun i hi hn =>
    (k.block i (Nat.lt_of_lt_of_le hi h.size) (fun hs => (hS i hs).elim hn (fun h2 => by omega))).trans (h.block i hi hn)⟩
theorem Touch.of_below {S : Nat → Prop} {w w' : World} (h : Below w.heap.size w w') : Touch S w w' := ⟨h.os, h.tape, h.output, h.size, fun k hk _ => h.block k hk⟩
theorem Touch.of_grown {S : Nat → Prop} {w w' : World} {row : Option Nat} (h : w.grownBy w' row) (hr : ∀ g, row = some g → S g ∨ w.heap.size ≤ g) : Touch S w w' :=
  ⟨h.os, h.tape, h.output, h.size, fun k hk hn => h.block k hk (fun e => (hr k e.symm).elim hn (fun h2 => by omega))⟩
theorem Touch.mono {S S' : Nat → Prop} {w w' : World} (h : Touch S w w') (hS : ∀ g, S g → S' g) : Touch S' w w' := ⟨h.os, h.tape, h.output, h.size, fun k hk hn => h.block k hk (fun hs => hn (hS k hs))⟩
theorem Touch.below {S : Nat → Prop} {B : Nat} {w w' : World} (h : Touch S w w') (hS : ∀ g, S g → B ≤ g) (hB : B ≤ w.heap.size) : Below B w w' :=
  ⟨h.os, h.tape, h.output, h.size, fun k hk => h.block k (by omega) (fun hs => by have := hS k hs; omega)⟩

/-- a row that stands in its block is owned in every world that has that block -/
theorem own_of_block {w w' : World} {base : Nat} {e : TypeId} {size : Nat} {v : Value} {n : Nat} {xs : List Value} (h : w.ownsRow base e size v n xs) (hb : ∀ g, v.ownBlock = some g → w'.heap[g]? = w.heap[g]?) : w'.ownsRow base e size v n xs := by
  refine ⟨h.1, ?_⟩
  rcases h.2 with hn | ⟨g, cap, cur, rfl, hg, hgg, rest⟩
  · exact .inl hn
  · refine .inr ⟨g, cap, cur, rfl, hg, ?_, rest⟩
    rw [hb g rfl]; exact hgg
theorem own_kept {w w' : World} {S : Nat → Prop} {base : Nat} {e : TypeId} {size : Nat} {v : Value} {n : Nat} {xs : List Value} (h : w.ownsRow base e size v n xs) (ht : Touch S w w') (hn : ∀ g, v.ownBlock = some g → ¬ S g) : w'.ownsRow base e size v n xs :=
  own_of_block h (fun g hg => ht.block g (h.lt g hg).2 (hn g hg))
/-- the block of an owned row bears its element's type -/
theorem own_tag {w : World} {base : Nat} {e : TypeId} {size : Nat} {v : Value} {n : Nat} {xs : List Value} (h : w.ownsRow base e size v n xs) (g : Nat) (hg : v.ownBlock = some g) : ∃ cur, w.heap[g]? = some (.cells cur e (0, 0)) := by
  rcases h.2 with ⟨rfl, _⟩ | ⟨g', cap, cur, rfl, _, hgg, _⟩
  · cases hg
  · obtain rfl : g' = g := by simpa [Value.ownBlock] using hg
    exact ⟨cur, hgg⟩
theorem own_apart {w : World} {b1 b2 : Nat} {e1 e2 : TypeId} {s1 s2 n1 n2 : Nat} {v1 v2 : Value} {x1 x2 : List Value} (h1 : w.ownsRow b1 e1 s1 v1 n1 x1) (h2 : w.ownsRow b2 e2 s2 v2 n2 x2) (hne : e1 ≠ e2) : v1.ownBlock = none ∨ v1.ownBlock ≠ v2.ownBlock := by
  cases hv : v1.ownBlock with
  | none => exact .inl rfl
  | some g =>
    refine .inr (fun e => ?_)
    obtain ⟨c1, k1⟩ := own_tag h1 g hv
    obtain ⟨c2, k2⟩ := own_tag h2 g e.symm
    rw [k1] at k2
    simp only [Option.some.injEq, Obj.cells.injEq] at k2
    exact hne k2.2.1
theorem own_not_map {w : World} {b1 : Nat} {e1 : TypeId} {s1 n1 : Nat} {v1 : Value} {x1 : List Value} (h1 : w.ownsRow b1 e1 s1 v1 n1 x1) {b : Nat} {es : Array MapEntry} {clock : Nat} (hb : w.heap[b]? = some (.map es clock)) : v1.ownBlock ≠ some b := fun hv => by
  obtain ⟨c1, k1⟩ := own_tag h1 b hv
  rw [k1] at hb; cases hb
theorem own_not_row {w : World} {b1 : Nat} {e1 : TypeId} {s1 n1 : Nat} {v1 : Value} {x1 : List Value} (h1 : w.ownsRow b1 e1 s1 v1 n1 x1) {b : Nat} {cs : Array Value} {t : TypeId} {m : Nat × Nat} (hb : w.heap[b]? = some (.cells cs t m)) (hne : e1 ≠ t) : v1.ownBlock ≠ some b := fun hv => by
  obtain ⟨c1, k1⟩ := own_tag h1 b hv
  rw [k1] at hb
  simp only [Option.some.injEq, Obj.cells.injEq] at hb
  exact hne hb.2.1

/-- the values of some bytes -/
def bytesV (l : List UInt8) : List Value := l.map fun b => Value.int .u8 (b.toNat : Int)
theorem bytesV_length (l : List UInt8) : (bytesV l).length = l.length := by simp [bytesV]
theorem bytesV_append (a b : List UInt8) : bytesV (a ++ b) = bytesV a ++ bytesV b := by simp [bytesV]
theorem bytesV_str (s : ByteArray) : Lib.strCells s = bytesV s.data.toList := rfl
/-- where a text's bytes come to lie behind an append -/
theorem run_append_string_at (w : World) (t u ty e : TypeId) (i : TypeInfo) (ht : Tryz.prog.underlying t = some (.slice e)) (hu : Tryz.prog.underlying u = some .string) (hi : Tryz.prog.info? e = some i) (hz : i.zero = some (.int .u8 0)) (hsize : i.size = 1) (hby : i.bytes = 1)
    (v : Value) (n : Nat) (xs : List Value) (hown : w.ownsRow 0 e 1 v n xs) (s : ByteArray) (h0 : 0 < s.size) (h63 : n + s.size ≤ maxLen) (hbytes : n + s.size ≤ 140737488355328) (v' : Value) (w' : World) (hr : (Builtin.append_ #[t, u] ty #[v, .string s]).run Tryz.prog w = .ok v' w') :
    v'.ownBlock = v.ownBlock ∨ v'.ownBlock = some w.heap.size := by
  unfold maxLen at h63
  have hxl : xs.length = n := by simpa using hown.1
  rcases hown.2 with ⟨rfl, rfl⟩ | ⟨g, cap, cur, rfl, hbg, hg, hnc, hcm, hcs, htake⟩
  · have h := run_append_nil_string (P := Tryz.prog) w t u ty e i (.int .u8 0) ht hu hi hz s h0 (by omega) (by rw [hby]; omega)
    rw [h] at hr
    injection hr with e1 _
    exact .inr (by rw [← e1]; rfl)
  · by_cases hroom : n + s.size ≤ cap
    · have h := Lib.run_append_room_string (P := Tryz.prog) w t u ty e i ht hu hi hsize g n cap cur hg s hroom (by have : cur.size = cap := (by simpa using hcs); omega)
      rw [h] at hr
      injection hr with e1 _
      exact .inl (by rw [← e1]; rfl)
    · have h := Lib.run_append_grow_string (P := Tryz.prog) w t u ty e i (.int .u8 0) ht hu hi hz ⟨g, 0, none⟩ n cap xs (by rw [hsize]; simpa using hxl) (hown.cells (g := g) rfl) s (by omega) (by omega) (by rw [hby]; exact growslice_fits (by omega) (by omega))
      rw [h] at hr
      injection hr with e1 _
      exact .inr (by rw [← e1]; rfl)
theorem touch_set {S : Nat → Prop} {w w' : World} {a : Addr} (v : Value) (h : Touch S w w') (ha : S a.block ∨ w.heap.size ≤ a.block) : Touch S w (w'.setCell a v) :=
  h.trans (S' := fun g => g = a.block) ⟨rfl, rfl, rfl, by rw [set_size]; exact Nat.le_refl _, fun k hk hn => Below.heap_setCell _ _ _ _ hn⟩ (fun g hg => by rw [hg]; exact ha)
end Go.Proofs.YthcomjhpjlcpdaaGreatDoor
namespace Go.Proofs.YthcomjhpjlcpdaaGreatDoor
open Go.RowKit
/-- a world with two pairs of cells more -/
def W2of (w : World) (a b : Value) (t t2 : TypeId) : World := (w.alloc (.cells #[a, b] t)).alloc (.cells #[.int .i64 0, .int .i64 0] t2)
theorem w2_facts (w : World) (a b : Value) (t t2 : TypeId) : Below w.heap.size w (W2of w a b t t2) ∧ (W2of w a b t t2).heap[w.heap.size]? = some (.cells #[a, b] t (0, 0)) ∧ (W2of w a b t t2).heap[w.heap.size + 1]? = some (.cells #[.int .i64 0, .int .i64 0] t2 (0, 0)) ∧ (W2of w a b t t2).heap.size = w.heap.size + 1 + 1 := by
  refine ⟨bstep (below_agg2 w a b t) (below_agg2 _ _ _ _), ?_, ?_, by unfold W2of; simp⟩
  · exact ((below_agg2 (w.alloc (.cells #[a, b] t)) (.int .i64 0) (.int .i64 0) t2).block w.heap.size (by simp)).trans (heap_alloc_new w _)
  · have := heap_alloc_new (w.alloc (.cells #[a, b] t)) (.cells #[.int .i64 0, .int .i64 0] t2)
    simpa [W2of] using this
set_option maxRecDepth 100000 in
set_option maxHeartbeats 1000000 in
theorem ranges_clip (a b t : Int) (w : World) (ht0 : -9223372036854775807 ≤ t) (ht : t ≤ 9223372036854775807) :
    Calls Tryz.prog 56 #[.agg #[.int .i64 a, .int .i64 b], .int .i64 t] w fun e w' => e = .returned (.tuple #[.agg #[.int .i64 (clipA a b t), .int .i64 (clipB a b t)], .int .i64 (clipE a b t : Nat)]) ∧ Below w.heap.size w w' := by
  have HC := Lib.hid (fun w => ranges_check a b w)
  obtain ⟨hB0, hr0, hk0, hs0⟩ := w2_facts w (.int .i64 a) (.int .i64 b) 72 72
  unfold W2of at hB0 hr0 hk0 hs0
  have HB0 := Lib.hid hB0
  have HR0 := Lib.hid hr0
  have HK0 := Lib.hid hk0
  have HS0 := Lib.hid hs0
  obtain ⟨r0, r1, -, -⟩ := two_of hr0
  clear hB0 hr0 hk0 hs0
  by_cases he : rErr a b = 0
  case neg =>
    have h8 := (rErr_no a b he).1
    have HA : Hid (clipE a b t = 8 ∧ clipA a b t = 0 ∧ clipB a b t = 0) := Lib.hid (by
      have : clipE a b t = 8 := by unfold clipE; rw [if_pos he, h8]
      unfold clipA clipB; rw [this]; exact ⟨rfl, rfl, rfl⟩)
    rw [h8] at HC
    clear he h8
    go_enter Tryz.func56, Tryz.ntmps56
    go_wp2_with fail
    refine (HC.out _).mono ?_
    rintro e w1 ⟨rfl, hb1⟩
    generalize ((w.alloc (.cells #[.int .i64 a, .int .i64 b] 72)).alloc (.cells #[.int .i64 0, .int .i64 0] 72)) = W0 at HB0 HR0 HK0 HS0 hb1 r0 r1 ⊢
    have hk1 : w1.heap[w.heap.size + 1]? = some (.cells #[.int .i64 0, .int .i64 0] 72 (0, 0)) := (hb1.block _ (by have := HS0.out; omega)).trans HK0.out
    obtain ⟨k0, k1, f0, f1⟩ := two_of hk1
    have HK1 := Lib.hid hk1
    have HB1 := Lib.hid (bstep HB0.out hb1)
    clear hk1 hb1
    go_wp2_with fail
    refine ret_field (b := w.heap.size + 1) (x := .int .i64 0) (y := .int .i64 0) rfl (load_range _ _ _ _ _ (two_set HK1.out _ _)) rfl rfl rfl ?_
    refine ⟨?_, two_below HB1.out _ (by omega) _ _⟩
    rw [HA.out.1, HA.out.2.1, HA.out.2.2]; rfl
  have hab := rErr_ok a b he
  rw [he] at HC
  by_cases hf : t ≤ a
  · have HA : Hid (clipE a b t = 8 ∧ clipA a b t = 0 ∧ clipB a b t = 0) := Lib.hid (by
      have : clipE a b t = 8 := by unfold clipE; rw [if_neg (fun h => h he), if_pos hf]
      unfold clipA clipB; rw [this]; exact ⟨rfl, rfl, rfl⟩)
    have tf : decide (a ≥ t) = true := decide_eq_true hf
    clear he hf hab
    go_enter Tryz.func56, Tryz.ntmps56
    go_wp2_with fail
    refine (HC.out _).mono ?_
    rintro e w1 ⟨rfl, hb1⟩
    generalize ((w.alloc (.cells #[.int .i64 a, .int .i64 b] 72)).alloc (.cells #[.int .i64 0, .int .i64 0] 72)) = W0 at HB0 HR0 HK0 HS0 hb1 r0 r1 ⊢
    have hk1 : w1.heap[w.heap.size + 1]? = some (.cells #[.int .i64 0, .int .i64 0] 72 (0, 0)) := (hb1.block _ (by have := HS0.out; omega)).trans HK0.out
    have hr1 : w1.heap[w.heap.size]? = some (.cells #[.int .i64 a, .int .i64 b] 72 (0, 0)) := (hb1.block _ (by have := HS0.out; omega)).trans HR0.out
    clear r0 r1
    obtain ⟨k0, k1, f0, f1⟩ := two_of hk1
    obtain ⟨r0, r1, -, -⟩ := two_of hr1
    have HK1 := Lib.hid hk1
    have HB1 := Lib.hid (bstep HB0.out hb1)
    clear hk1 hb1 hr1
    go_wp2_with fail
    refine ret_field (b := w.heap.size + 1) (x := .int .i64 0) (y := .int .i64 0) rfl (load_range _ _ _ _ _ (two_set HK1.out _ _)) rfl rfl rfl ?_
    refine ⟨?_, two_below HB1.out _ (by omega) _ _⟩
    rw [HA.out.1, HA.out.2.1, HA.out.2.2]; rfl
  have tf : decide (a ≥ t) = false := decide_eq_false hf
  obtain ⟨B, hB⟩ : ∃ B, (if b < t - 1 then b else t - 1) = B := ⟨_, rfl⟩
  have HA : Hid (clipE a b t = 0 ∧ clipA a b t = a ∧ clipB a b t = B) := Lib.hid (by
    have : clipE a b t = 0 := by unfold clipE; rw [if_neg (fun h => h he), if_neg hf]
    unfold clipA clipB; rw [if_pos this, if_pos this, hB]; exact ⟨this, rfl, rfl⟩)
  have hmin : min b (t - 1) = B := by rw [← hB]; split <;> omega
  have HM := Lib.hid hmin
  have tw : IntKind.i64.wrap (t - 1) = t - 1 := by rw [IntKind.wrap_i64]; omega
  clear he hf hab hB hmin
  go_enter Tryz.func56, Tryz.ntmps56
  go_wp2_with fail
  refine (HC.out _).mono ?_
  rintro e w1 ⟨rfl, hb1⟩
  generalize ((w.alloc (.cells #[.int .i64 a, .int .i64 b] 72)).alloc (.cells #[.int .i64 0, .int .i64 0] 72)) = W0 at HB0 HR0 HK0 HS0 hb1 r0 r1 ⊢
  have hk1 : w1.heap[w.heap.size + 1]? = some (.cells #[.int .i64 0, .int .i64 0] 72 (0, 0)) := (hb1.block _ (by have := HS0.out; omega)).trans HK0.out
  have hr1 : w1.heap[w.heap.size]? = some (.cells #[.int .i64 a, .int .i64 b] 72 (0, 0)) := (hb1.block _ (by have := HS0.out; omega)).trans HR0.out
  clear r0 r1
  obtain ⟨k0, k1, f0, f1⟩ := two_of hk1
  obtain ⟨r0, r1, g0, g1⟩ := two_of hr1
  have HK1 := Lib.hid hk1
  have HB1 := Lib.hid (bstep HB0.out hb1)
  clear hk1 hb1 hr1
  go_wp2_with fail
  have hk2 : ∀ V, (w1.setCell ⟨w.heap.size, 1, none⟩ V).heap[w.heap.size + 1]? = some (.cells #[.int .i64 0, .int .i64 0] 72 (0, 0)) := fun V => (Below.heap_setCell _ _ _ _ (by simp)).trans HK1.out
  refine ret_field (b := w.heap.size + 1) (x := .int .i64 a) rfl (load_range _ _ _ _ _ (two_set (hk2 _) _ _)) rfl rfl rfl ?_
  refine ⟨?_, two_below (HB1.out.setCell (Nat.le_refl _) _) _ (by omega) _ _⟩
  rw [HA.out.1, HA.out.2.1, HA.out.2.2, ← HM.out]
  rfl
set_option maxRecDepth 100000 in
set_option maxHeartbeats 1000000 in
theorem ref_clip (a b t : Int) (w : World) (ht0 : -9223372036854775807 ≤ t) (ht : t ≤ 9223372036854775807) :
    Calls Tryz.prog 67 #[.agg #[.int .i64 a, .int .i64 b], .int .i64 t] w fun e w' => e = .returned (.tuple #[.agg #[.int .i64 (clipA a b t), .int .i64 (clipB a b t)], .int .i64 (clipE a b t : Nat)]) ∧ Below w.heap.size w w' := by
  have HC := Lib.hid (fun w => ref_rcheck a b w)
  obtain ⟨hB0, hr0, hk0, hs0⟩ := w2_facts w (.int .i64 a) (.int .i64 b) 124 124
  unfold W2of at hB0 hr0 hk0 hs0
  have HB0 := Lib.hid hB0
  have HR0 := Lib.hid hr0
  have HK0 := Lib.hid hk0
  have HS0 := Lib.hid hs0
  obtain ⟨r0, r1, -, -⟩ := two_of hr0
  clear hB0 hr0 hk0 hs0
  by_cases he : rErr a b = 0
  case neg =>
    have h8 := (rErr_no a b he).1
    have HA : Hid (clipE a b t = 8 ∧ clipA a b t = 0 ∧ clipB a b t = 0) := Lib.hid (by
      have : clipE a b t = 8 := by unfold clipE; rw [if_pos he, h8]
      unfold clipA clipB; rw [this]; exact ⟨rfl, rfl, rfl⟩)
    rw [h8] at HC
    clear he h8
    go_enter Tryz.func67, Tryz.ntmps67
    go_wp2_with fail
    refine (HC.out _).mono ?_
    rintro e w1 ⟨rfl, hb1⟩
    generalize ((w.alloc (.cells #[.int .i64 a, .int .i64 b] 124)).alloc (.cells #[.int .i64 0, .int .i64 0] 124)) = W0 at HB0 HR0 HK0 HS0 hb1 r0 r1 ⊢
    have hk1 : w1.heap[w.heap.size + 1]? = some (.cells #[.int .i64 0, .int .i64 0] 124 (0, 0)) := (hb1.block _ (by have := HS0.out; omega)).trans HK0.out
    obtain ⟨k0, k1, f0, f1⟩ := two_of hk1
    have HK1 := Lib.hid hk1
    have HB1 := Lib.hid (bstep HB0.out hb1)
    clear hk1 hb1
    go_wp2_with fail
    refine ret_field (b := w.heap.size + 1) (x := .int .i64 0) (y := .int .i64 0) rfl (load_rrange _ _ _ _ _ (two_set HK1.out _ _)) rfl rfl rfl ?_
    refine ⟨?_, two_below HB1.out _ (by omega) _ _⟩
    rw [HA.out.1, HA.out.2.1, HA.out.2.2]; rfl
  have hab := rErr_ok a b he
  rw [he] at HC
  by_cases hf : t ≤ a
  · have HA : Hid (clipE a b t = 8 ∧ clipA a b t = 0 ∧ clipB a b t = 0) := Lib.hid (by
      have : clipE a b t = 8 := by unfold clipE; rw [if_neg (fun h => h he), if_pos hf]
      unfold clipA clipB; rw [this]; exact ⟨rfl, rfl, rfl⟩)
    have tf : decide (a ≥ t) = true := decide_eq_true hf
    clear he hf hab
    go_enter Tryz.func67, Tryz.ntmps67
    go_wp2_with fail
    refine (HC.out _).mono ?_
    rintro e w1 ⟨rfl, hb1⟩
    generalize ((w.alloc (.cells #[.int .i64 a, .int .i64 b] 124)).alloc (.cells #[.int .i64 0, .int .i64 0] 124)) = W0 at HB0 HR0 HK0 HS0 hb1 r0 r1 ⊢
    have hk1 : w1.heap[w.heap.size + 1]? = some (.cells #[.int .i64 0, .int .i64 0] 124 (0, 0)) := (hb1.block _ (by have := HS0.out; omega)).trans HK0.out
    have hr1 : w1.heap[w.heap.size]? = some (.cells #[.int .i64 a, .int .i64 b] 124 (0, 0)) := (hb1.block _ (by have := HS0.out; omega)).trans HR0.out
    clear r0 r1
    obtain ⟨k0, k1, f0, f1⟩ := two_of hk1
    obtain ⟨r0, r1, -, -⟩ := two_of hr1
    have HK1 := Lib.hid hk1
    have HB1 := Lib.hid (bstep HB0.out hb1)
    clear hk1 hb1 hr1
    go_wp2_with fail
    refine ret_field (b := w.heap.size + 1) (x := .int .i64 0) (y := .int .i64 0) rfl (load_rrange _ _ _ _ _ (two_set HK1.out _ _)) rfl rfl rfl ?_
    refine ⟨?_, two_below HB1.out _ (by omega) _ _⟩
    rw [HA.out.1, HA.out.2.1, HA.out.2.2]; rfl
  have tf : decide (a ≥ t) = false := decide_eq_false hf
  obtain ⟨B, hB⟩ : ∃ B, (if b < t - 1 then b else t - 1) = B := ⟨_, rfl⟩
  have HA : Hid (clipE a b t = 0 ∧ clipA a b t = a ∧ clipB a b t = B) := Lib.hid (by
    have : clipE a b t = 0 := by unfold clipE; rw [if_neg (fun h => h he), if_neg hf]
    unfold clipA clipB; rw [if_pos this, if_pos this, hB]; exact ⟨this, rfl, rfl⟩)
  have hmin : min b (t - 1) = B := by rw [← hB]; split <;> omega
  have HM := Lib.hid hmin
  have tw : IntKind.i64.wrap (t - 1) = t - 1 := by rw [IntKind.wrap_i64]; omega
  clear he hf hab hB hmin
  go_enter Tryz.func67, Tryz.ntmps67
  go_wp2_with fail
  refine (HC.out _).mono ?_
  rintro e w1 ⟨rfl, hb1⟩
  generalize ((w.alloc (.cells #[.int .i64 a, .int .i64 b] 124)).alloc (.cells #[.int .i64 0, .int .i64 0] 124)) = W0 at HB0 HR0 HK0 HS0 hb1 r0 r1 ⊢
  have hk1 : w1.heap[w.heap.size + 1]? = some (.cells #[.int .i64 0, .int .i64 0] 124 (0, 0)) := (hb1.block _ (by have := HS0.out; omega)).trans HK0.out
  have hr1 : w1.heap[w.heap.size]? = some (.cells #[.int .i64 a, .int .i64 b] 124 (0, 0)) := (hb1.block _ (by have := HS0.out; omega)).trans HR0.out
  clear r0 r1
  obtain ⟨k0, k1, f0, f1⟩ := two_of hk1
  obtain ⟨r0, r1, g0, g1⟩ := two_of hr1
  have HK1 := Lib.hid hk1
  have HB1 := Lib.hid (bstep HB0.out hb1)
  clear hk1 hb1 hr1
  go_wp2_with fail
  refine ret_field (b := w.heap.size + 1) (x := .int .i64 a) rfl (load_rrange _ _ _ _ _ (two_set HK1.out _ _)) rfl rfl rfl ?_
  refine ⟨?_, two_below HB1.out _ (by omega) _ _⟩
  rw [HA.out.1, HA.out.2.1, HA.out.2.2, ← HM.out]
  rfl
end Go.Proofs.YthcomjhpjlcpdaaGreatDoor
namespace Go.Proofs.YthcomjhpjlcpdaaGreatDoor
open Go.RowKit
theorem box3 (w : World) (x y z : Value) (t : TypeId) : (w.alloc (.cells #[x, y, z] t)).cell? ⟨w.heap.size, 0, none⟩ = some x ∧ (w.alloc (.cells #[x, y, z] t)).cell? ⟨w.heap.size, 1, none⟩ = some y ∧ (w.alloc (.cells #[x, y, z] t)).cell? ⟨w.heap.size, 2, none⟩ = some z :=
  let ⟨h0, h1, h2, _⟩ := three_facts (heap_alloc_new w (.cells #[x, y, z] t)); ⟨h0, h1, h2⟩
set_option maxRecDepth 100000 in
set_option maxHeartbeats 1000000 in
theorem told_wrong (a b t : Int) (w : World) :
    Calls Tryz.prog 252 #[.agg #[.int .i64 a, .int .i64 b, .int .i64 t]] w fun e w' => e = .returned (.int .i64 (toldE a b t : Nat)) ∧ Below w.heap.size w w' := by
  have HC := Lib.hid (fun w => ranges_check a b w)
  obtain ⟨x0, x1, x2⟩ := box3 w (.int .i64 a) (.int .i64 b) (.int .i64 t) 326
  have hB0 := below_agg3 w (.int .i64 a) (.int .i64 b) (.int .i64 t) 326
  have HB0 := Lib.hid hB0
  have hl : w.heap.size < (w.alloc (.cells #[.int .i64 a, .int .i64 b, .int .i64 t] 326)).heap.size := by simp
  have HL := Lib.hid hl
  clear hB0 hl
  by_cases he : rErr a b = 0
  case neg =>
    have h8 := (rErr_no a b he).1
    have HA : Hid (toldE a b t = 8) := Lib.hid (by unfold toldE; rw [if_pos he, h8])
    rw [h8] at HC
    clear he h8
    go_enter Tryz.func252, Tryz.ntmps252
    go_wp2_with fail
    refine (HC.out _).mono ?_
    rintro e w1 ⟨rfl, hb1⟩
    go_wp2_with fail
    go_ret
    exact ⟨by rw [HA.out]; rfl, bstep HB0.out hb1⟩
  rw [he] at HC
  by_cases h1 : t ≤ b
  · have HA : Hid (toldE a b t = 8) := Lib.hid (by unfold toldE; rw [if_neg (fun h => h he), if_pos (.inl h1)])
    have t1 : decide (t ≤ b) = true := decide_eq_true h1
    clear he h1
    go_enter Tryz.func252, Tryz.ntmps252
    go_wp2_with fail
    refine (HC.out _).mono ?_
    rintro e w1 ⟨rfl, hb1⟩
    have y1 := (hb1.cell (p := ⟨w.heap.size, 1, none⟩) HL.out).trans x1
    have y2 := (hb1.cell (p := ⟨w.heap.size, 2, none⟩) HL.out).trans x2
    have HB1 := Lib.hid (bstep HB0.out hb1)
    clear hb1 x0 x1 x2
    go_wp2_with fail
    go_ret
    exact ⟨by rw [HA.out]; rfl, HB1.out⟩
  have t1 : decide (t ≤ b) = false := decide_eq_false h1
  obtain ⟨r, hr⟩ : ∃ r, decide (t > 9007199254740991) = r := ⟨_, rfl⟩
  have HA : Hid (toldE a b t = if r = true then 8 else 0) := Lib.hid (by
    unfold toldE
    rw [if_neg (fun h => h he)]
    cases r with
    | true => rw [if_pos (.inr (of_decide_eq_true hr)), if_pos rfl]
    | false => rw [if_neg (fun h => h.elim h1 (of_decide_eq_false hr)), if_neg (by decide)])
  clear he h1
  cases r
  all_goals
    go_enter Tryz.func252, Tryz.ntmps252
    go_wp2_with fail
    refine (HC.out _).mono ?_
    rintro e w1 ⟨rfl, hb1⟩
    have y1 := (hb1.cell (p := ⟨w.heap.size, 1, none⟩) HL.out).trans x1
    have y2 := (hb1.cell (p := ⟨w.heap.size, 2, none⟩) HL.out).trans x2
    have HB1 := Lib.hid (bstep HB0.out hb1)
    clear hb1 x0 x1 x2
    go_wp2_with fail
    go_ret
    exact ⟨by rw [HA.out]; rfl, HB1.out⟩
theorem told_text (a b t : Int) (h : toldE a b t = 0) (X Y : ByteArray) (hX : bs (textR a b) = X) (hY : bs (digL t) = Y) : ((⟨#[98, 121, 116, 101, 115, 32]⟩ ++ X) ++ ⟨#[47]⟩) ++ Y = bs (toldL a b t) := by
  unfold toldL
  rw [if_pos h, ← hX, ← hY, show (⟨#[98, 121, 116, 101, 115, 32]⟩ : ByteArray) = bs tellsL from rfl, show (⟨#[47]⟩ : ByteArray) = bs [47] from rfl, bs_cat, bs_cat, bs_cat]
  simp
set_option maxRecDepth 100000 in
set_option maxHeartbeats 2000000 in
theorem ranges_told (a b t : Int) (w : World) (hE : EnvF w) :
    Calls Tryz.prog 251 #[.agg #[.int .i64 a, .int .i64 b], .int .i64 t] w fun e w' => e = .returned (.tuple #[.string (bs (toldL a b t)), .int .i64 (toldE a b t : Nat)]) ∧ Below w.heap.size w w' := by
  have HW := Lib.hid (fun w => told_wrong a b t w)
  obtain ⟨r0, r1⟩ := box2 w (.int .i64 a) (.int .i64 b) 72
  have HB0 := Lib.hid (below_agg2 w (.int .i64 a) (.int .i64 b) 72)
  by_cases he : toldE a b t = 0
  case neg =>
    have HA : Hid (toldL a b t = []) := Lib.hid (by unfold toldL; rw [if_neg he])
    have tz : ((toldE a b t : Int) != 0) = true := by rw [bne_iff_ne]; omega
    generalize toldE a b t = E at HW tz ⊢
    clear he
    go_enter Tryz.func251, Tryz.ntmps251
    go_wp2_with fail
    refine (HW.out _).mono ?_
    rintro e w1 ⟨rfl, hb1⟩
    have HB1 := Lib.hid (bstep HB0.out (bstep (below_agg3 _ _ _ _ _) hb1))
    clear hb1
    go_wp2_with fail
    go_ret2
    exact ⟨by rw [HA.out]; rfl, HB1.out⟩
  obtain ⟨g1, g2, g3⟩ := toldE_ok a b t he
  obtain ⟨q1, q2, q3⟩ := rErr_ok a b g1
  have HX := Lib.hid (fun w hE => ranges_text a b w hE (by omega) (by omega) (by omega) (by omega))
  have HD := Lib.hid (fun w hE => fields_digits t (by omega) (by omega) w hE)
  have hxl := textR_len a b (by omega) (by omega)
  have hdl := digL_len t (by omega)
  obtain ⟨X, hX⟩ : ∃ X, bs (textR a b) = X := ⟨_, rfl⟩
  obtain ⟨Y, hY⟩ : ∃ Y, bs (digL t) = Y := ⟨_, rfl⟩
  have HR := Lib.hid (told_text a b t he X Y hX hY)
  have hXs : X.size ≤ 41 := by rw [← hX, bs_size]; exact hxl
  have hYs : Y.size ≤ 20 := by rw [← hY, bs_size]; exact hdl
  rw [hX] at HX
  rw [hY] at HD
  have p1 := fun w => run_string_add_sum (P := Tryz.prog) w ⟨#[98, 121, 116, 101, 115, 32]⟩ X (by show 6 + _ ≤ _; omega)
  have p2 := fun w => run_string_add_sum (P := Tryz.prog) w (⟨#[98, 121, 116, 101, 115, 32]⟩ ++ X) ⟨#[47]⟩ (by rw [ByteArray.size_append]; show 6 + _ + 1 ≤ _; omega)
  have p3 := fun w => run_string_add_sum (P := Tryz.prog) w ((⟨#[98, 121, 116, 101, 115, 32]⟩ ++ X) ++ ⟨#[47]⟩) Y (by rw [ByteArray.size_append, ByteArray.size_append]; show 6 + _ + 1 + _ ≤ _; omega)
  rw [he] at HW ⊢
  have HE := Lib.hid hE
  clear he g1 g2 g3 q1 q2 q3 hxl hdl hX hY hE
  go_enter Tryz.func251, Tryz.ntmps251
  go_wp2_with fail
  refine (HW.out _).mono ?_
  rintro e w1 ⟨rfl, hb1⟩
  have hsz : (w.alloc (.cells #[.int .i64 a, .int .i64 b] 72)).heap.size = w.heap.size + 1 := by simp
  obtain ⟨y0, y1, y2⟩ := box3 (w.alloc (.cells #[.int .i64 a, .int .i64 b] 72)) (.int .i64 a) (.int .i64 b) (.int .i64 t) 326
  rw [hsz] at y0 y1 y2
  have hl : w.heap.size + 1 < ((w.alloc (.cells #[.int .i64 a, .int .i64 b] 72)).alloc (.cells #[.int .i64 a, .int .i64 b, .int .i64 t] 326)).heap.size := by simp
  have z0 := (hb1.cell (p := ⟨w.heap.size + 1, 0, none⟩) hl).trans y0
  have z1 := (hb1.cell (p := ⟨w.heap.size + 1, 1, none⟩) hl).trans y1
  have z2 := (hb1.cell (p := ⟨w.heap.size + 1, 2, none⟩) hl).trans y2
  have hbl : w.heap.size + 1 < w1.heap.size := Nat.lt_of_lt_of_le hl hb1.size
  have HB1 := Lib.hid (bstep HB0.out (bstep (below_agg3 _ _ _ _ _) hb1))
  have HE1 := Lib.hid (HE.out.below HB1.out)
  clear hb1 y0 y1 y2 hl hsz r0 r1
  go_wp2_with fail
  have k0 : ∀ p : BelowOf w1, p.world.cell? ⟨w.heap.size + 1, 0, none⟩ = some (.int .i64 a) := fun p => cell_of p hbl z0
  have k1 : ∀ p : BelowOf w1, p.world.cell? ⟨w.heap.size + 1, 1, none⟩ = some (.int .i64 b) := fun p => cell_of p hbl z1
  have k2 : ∀ p : BelowOf w1, p.world.cell? ⟨w.heap.size + 1, 2, none⟩ = some (.int .i64 t) := fun p => cell_of p hbl z2
  clear z0 z1 z2
  refine wp_region_quiet_below (by kernel_rfl) (by kernel_rfl) ?_
  repeat (go_big_quiet_step (fail))
  go_big_quiet_step ((go_at_call 248; exact below_of (HX.out _ (HE1.out.below (BelowOf.below _)))))
  repeat (go_big_quiet_step (fail))
  go_big_quiet_step ((go_at_call 51; exact below_of (HD.out _ (HE1.out.below (BelowOf.below _)))))
  repeat (go_big_quiet_step (fail))
  refine wpQuiet_nil ?_
  intro W1 hw'
  have hb2 := of_class hw'
  clear hw'
  go_wp2_with fail
  go_ret2
  exact ⟨by rw [← HR.out]; rfl, bstep HB1.out hb2⟩
theorem told_text2 (a b t : Int) (h : toldE a b t = 0) (X Y Z : ByteArray) (hX : bs (digL a) = X) (hY : bs (digL b) = Y) (hZ : bs (digL t) = Z) : ((((⟨#[98, 121, 116, 101, 115, 32]⟩ ++ X) ++ ⟨#[45]⟩) ++ Y) ++ ⟨#[47]⟩) ++ Z = bs (toldL a b t) := by
  unfold toldL textR
  rw [if_pos h, ← hX, ← hY, ← hZ, show (⟨#[98, 121, 116, 101, 115, 32]⟩ : ByteArray) = bs tellsL from rfl, show (⟨#[47]⟩ : ByteArray) = bs [47] from rfl, show (⟨#[45]⟩ : ByteArray) = bs [45] from rfl, bs_cat, bs_cat, bs_cat, bs_cat, bs_cat]
  simp
set_option maxRecDepth 100000 in
set_option maxHeartbeats 2000000 in
theorem ref_told (a b t : Int) (w : World) :
    Calls Tryz.prog 68 #[.agg #[.int .i64 a, .int .i64 b], .int .i64 t] w fun e w' => e = .returned (.tuple #[.string (bs (toldL a b t)), .int .i64 (toldE a b t : Nat)]) ∧ Below w.heap.size w w' := by
  have HC := Lib.hid (fun w => ref_rcheck a b w)
  obtain ⟨r0, r1⟩ := box2 w (.int .i64 a) (.int .i64 b) 124
  have HB0 := Lib.hid (below_agg2 w (.int .i64 a) (.int .i64 b) 124)
  have hl : w.heap.size < (w.alloc (.cells #[.int .i64 a, .int .i64 b] 124)).heap.size := by simp
  have HL := Lib.hid hl
  clear hl
  by_cases hr : rErr a b = 0
  case neg =>
    have h8 := (rErr_no a b hr).1
    have HA : Hid (toldE a b t = 8 ∧ toldL a b t = []) := Lib.hid (by
      have : toldE a b t = 8 := by unfold toldE; rw [if_pos hr, h8]
      exact ⟨this, by unfold toldL; rw [this]; rfl⟩)
    rw [h8] at HC
    clear hr h8
    go_enter Tryz.func68, Tryz.ntmps68
    go_wp2_with fail
    refine (HC.out _).mono ?_
    rintro e w1 ⟨rfl, hb1⟩
    go_wp2_with fail
    go_ret2
    exact ⟨by rw [HA.out.1, HA.out.2]; rfl, bstep HB0.out hb1⟩
  rw [hr] at HC
  by_cases h1 : t ≤ b ∨ 9007199254740991 < t
  · have HA : Hid (toldE a b t = 8 ∧ toldL a b t = []) := Lib.hid (by
      have : toldE a b t = 8 := by unfold toldE; rw [if_neg (fun h => h hr), if_pos h1]
      exact ⟨this, by unfold toldL; rw [this]; rfl⟩)
    by_cases h2 : t ≤ b
    · have t1 : decide (t ≤ b) = true := decide_eq_true h2
      clear hr h1 h2
      go_enter Tryz.func68, Tryz.ntmps68
      go_wp2_with fail
      refine (HC.out _).mono ?_
      rintro e w1 ⟨rfl, hb1⟩
      have y1 := (hb1.cell (p := ⟨w.heap.size, 1, none⟩) HL.out).trans r1
      have HB1 := Lib.hid (bstep HB0.out hb1)
      clear hb1 r0 r1
      go_wp2_with fail
      go_ret2
      exact ⟨by rw [HA.out.1, HA.out.2]; rfl, HB1.out⟩
    · have t1 : decide (t ≤ b) = false := decide_eq_false h2
      have t2 : decide (t > 9007199254740991) = true := decide_eq_true (h1.resolve_left h2)
      clear hr h1 h2
      go_enter Tryz.func68, Tryz.ntmps68
      go_wp2_with fail
      refine (HC.out _).mono ?_
      rintro e w1 ⟨rfl, hb1⟩
      have y1 := (hb1.cell (p := ⟨w.heap.size, 1, none⟩) HL.out).trans r1
      have HB1 := Lib.hid (bstep HB0.out hb1)
      clear hb1 r0 r1
      go_wp2_with fail
      go_ret2
      exact ⟨by rw [HA.out.1, HA.out.2]; rfl, HB1.out⟩
  have he : toldE a b t = 0 := by unfold toldE; rw [if_neg (fun h => h hr), if_neg h1]
  rw [not_or] at h1
  obtain ⟨q1, q2, q3⟩ := rErr_ok a b hr
  have t1 : decide (t ≤ b) = false := decide_eq_false h1.1
  have t2 : decide (t > 9007199254740991) = false := decide_eq_false h1.2
  have HDa := Lib.hid (fun w => ref_digitsZ a w (by omega))
  have HDb := Lib.hid (fun w => ref_digitsZ b w (by omega))
  have HDt := Lib.hid (fun w => ref_digitsZ t w (by omega))
  have hal := digL_len a (by omega)
  have hbl := digL_len b (by omega)
  have htl := digL_len t (by omega)
  obtain ⟨X, hX⟩ : ∃ X, bs (digL a) = X := ⟨_, rfl⟩
  obtain ⟨Y, hY⟩ : ∃ Y, bs (digL b) = Y := ⟨_, rfl⟩
  obtain ⟨Z, hZ⟩ : ∃ Z, bs (digL t) = Z := ⟨_, rfl⟩
  have HR := Lib.hid (told_text2 a b t he X Y Z hX hY hZ)
  have hXs : X.size ≤ 20 := by rw [← hX, bs_size]; exact hal
  have hYs : Y.size ≤ 20 := by rw [← hY, bs_size]; exact hbl
  have hZs : Z.size ≤ 20 := by rw [← hZ, bs_size]; exact htl
  rw [hX] at HDa
  rw [hY] at HDb
  rw [hZ] at HDt
  have p1 := fun w => run_string_add_sum (P := Tryz.prog) w ⟨#[98, 121, 116, 101, 115, 32]⟩ X (by show 6 + _ ≤ _; omega)
  have p2 := fun w => run_string_add_sum (P := Tryz.prog) w (⟨#[98, 121, 116, 101, 115, 32]⟩ ++ X) ⟨#[45]⟩ (by rw [ByteArray.size_append]; show 6 + _ + 1 ≤ _; omega)
  have p3 := fun w => run_string_add_sum (P := Tryz.prog) w ((⟨#[98, 121, 116, 101, 115, 32]⟩ ++ X) ++ ⟨#[45]⟩) Y (by rw [ByteArray.size_append, ByteArray.size_append]; show 6 + _ + 1 + _ ≤ _; omega)
  have p4 := fun w => run_string_add_sum (P := Tryz.prog) w (((⟨#[98, 121, 116, 101, 115, 32]⟩ ++ X) ++ ⟨#[45]⟩) ++ Y) ⟨#[47]⟩ (by rw [ByteArray.size_append, ByteArray.size_append, ByteArray.size_append]; show 6 + _ + 1 + _ + 1 ≤ _; omega)
  have p5 := fun w => run_string_add_sum (P := Tryz.prog) w ((((⟨#[98, 121, 116, 101, 115, 32]⟩ ++ X) ++ ⟨#[45]⟩) ++ Y) ++ ⟨#[47]⟩) Z (by rw [ByteArray.size_append, ByteArray.size_append, ByteArray.size_append, ByteArray.size_append]; show 6 + _ + 1 + _ + 1 + _ ≤ _; omega)
  rw [he]
  clear he hr h1 q1 q2 q3 hal hbl htl hX hY hZ
  go_enter Tryz.func68, Tryz.ntmps68
  go_wp2_with fail
  refine (HC.out _).mono ?_
  rintro e w1 ⟨rfl, hb1⟩
  have y0 := (hb1.cell (p := ⟨w.heap.size, 0, none⟩) HL.out).trans r0
  have y1 := (hb1.cell (p := ⟨w.heap.size, 1, none⟩) HL.out).trans r1
  have hbl : w.heap.size < w1.heap.size := Nat.lt_of_lt_of_le HL.out hb1.size
  have HB1 := Lib.hid (bstep HB0.out hb1)
  clear hb1 r0 r1
  go_wp2_with fail
  have k0 : ∀ p : BelowOf w1, p.world.cell? ⟨w.heap.size, 0, none⟩ = some (.int .i64 a) := fun p => cell_of p hbl y0
  have k1 : ∀ p : BelowOf w1, p.world.cell? ⟨w.heap.size, 1, none⟩ = some (.int .i64 b) := fun p => cell_of p hbl y1
  clear y0 y1
  refine wp_region_quiet_below (by kernel_rfl) (by kernel_rfl) ?_
  repeat (go_big_quiet_step (fail))
  go_big_quiet_step ((go_at_call 64; exact below_same (HDa.out _)))
  repeat (go_big_quiet_step (fail))
  go_big_quiet_step ((go_at_call 64; exact below_same (HDb.out _)))
  repeat (go_big_quiet_step (fail))
  go_big_quiet_step ((go_at_call 64; exact below_same (HDt.out _)))
  repeat (go_big_quiet_step (fail))
  refine wpQuiet_nil ?_
  intro W1 hw'
  have hb2 := of_class hw'
  clear hw'
  go_wp2_with fail
  go_ret2
  exact ⟨by rw [← HR.out]; rfl, bstep HB1.out hb2⟩
end Go.Proofs.YthcomjhpjlcpdaaGreatDoor
namespace Go.Proofs.YthcomjhpjlcpdaaGreatDoor
open Go.RowKit
theorem below_o3 (w : World) (x y z : Value) : Below w.heap.size w (w.alloc (.cells #[x, y, z] 34)) := (Below.refl _ _).alloc (Nat.le_refl _) _
set_option maxRecDepth 100000 in
set_option maxHeartbeats 1000000 in
theorem origin_check (h p f : ByteArray) (w : World) :
    Calls Tryz.prog 22 #[.agg #[.string h, .string p, .string f]] w fun e w' => e = .returned (.int .i64 (orgE h.data.toList p.data.toList : Nat)) ∧ Below w.heap.size w w' := by
  have HC := Lib.hid (fun w => asking_check p h 0 0 w)
  rw [orgE_asks] at HC
  generalize orgE h.data.toList p.data.toList = E at HC ⊢
  obtain ⟨x0, x1, x2⟩ := box3 w (.string h) (.string p) (.string f) 34
  have HB0 := Lib.hid (below_o3 w (.string h) (.string p) (.string f))
  go_enter Tryz.func22, Tryz.ntmps22
  go_wp2_with fail
  refine (HC.out _).mono ?_
  rintro e w1 ⟨rfl, hb1⟩
  go_wp2_with fail
  go_ret
  exact ⟨rfl, bstep HB0.out hb1⟩
/-- a code's reply, without fields and body -/
theorem refusal_reply (c : Int) (w : World) :
    Calls Tryz.prog 249 #[.int .i64 c] w fun e w' => e = .returned (.agg #[.int .i64 c, .slice none 0 0, .string ⟨#[]⟩]) ∧ Below w.heap.size w w' := by
  obtain ⟨k0, k1, k2, f0, f1, f2⟩ := three_facts (heap_alloc_new w (.cells #[.int .i64 0, .slice none 0 0, .string ⟨#[]⟩] 79))
  go_enter Tryz.func249, Tryz.ntmps249
  go_wp2_with fail
  refine ret_cell (A := ⟨w.heap.size, 0, none⟩) rfl (load_rep _ _ _ _ _ _ (heap_alloc_new w _)) rfl rfl ?_
  exact ⟨rfl, below_agg3 _ _ _ _ _⟩
/-- a block of one field is a row of it -/
theorem own_one (w : World) (x y : Value) (T : TypeId) : (w.alloc (.cells #[x, y] T)).ownsRow w.heap.size T 2 (.slice (some ⟨w.heap.size, 0, none⟩) 1 1) 1 [x, y] :=
  ⟨rfl, .inr ⟨w.heap.size, 1, #[x, y], rfl, Nat.le_refl _, heap_alloc_new w _, Nat.le_refl _, by unfold maxLen; decide, rfl, rfl⟩⟩
theorem own_one_at (w : World) (g : Nat) (hg : g = w.heap.size) (x y : Value) (T : TypeId) : (w.alloc (.cells #[x, y] T)).ownsRow 0 T 2 (.slice (some ⟨g, 0, none⟩) 1 1) 1 [x, y] := by
  subst hg
  exact own_lowerF (own_one w x y T) (Nat.zero_le _)
/-- what a reply's making hands over -/
def PartPost (c : Int) (fs : List (List UInt8 × List UInt8)) (x : ByteArray) (T : TypeId) (w : World) (e : Ending) (w' : World) : Prop :=
  ∃ a cp, e = .returned (.agg #[.int .i64 c, .slice a fs.length cp, .string x]) ∧ (∃ B, w'.ownsRow B T 2 (.slice a fs.length cp) fs.length (fcells fs)) ∧ Below w.heap.size w w'
set_option maxRecDepth 100000 in
set_option maxHeartbeats 2000000 in
theorem part_reply (a b : Int) (f : ByteArray) (w : World) (hE : EnvF w) (h0 : 0 ≤ a) (h1 : a ≤ b) (h2 : b < (f.size : Int)) (hf : f.size ≤ 1000000) :
    Calls Tryz.prog 250 #[.agg #[.int .i64 a, .int .i64 b, .string f]] w (PartPost 206 [(crangeK, toldL a b (f.size : Int))] (f.extract a.toNat (b + 1).toNat) 108 w) := by
  have HT := Lib.hid (fun w hE => ranges_told a b (f.size : Int) w hE)
  obtain ⟨V, hV⟩ : ∃ V, bs (toldL a b (f.size : Int)) = V := ⟨_, rfl⟩
  rw [hV] at HT
  have HV := Lib.hid hV
  generalize toldE a b (f.size : Int) = E at HT
  obtain ⟨x0, x1, x2⟩ := box3 w (.int .i64 a) (.int .i64 b) (.string f) 120
  have hB0 := below_agg3 w (.int .i64 a) (.int .i64 b) (.string f) 120
  have hB1 := bstep hB0 (below_agg3 _ (.int .i64 0) (.slice none 0 0) (.string ⟨#[]⟩) 79)
  have hsz : ((w.alloc (.cells #[.int .i64 a, .int .i64 b, .string f] 120)).alloc (.cells #[.int .i64 0, .slice none 0 0, .string ⟨#[]⟩] 79)).heap.size = w.heap.size + 1 + 1 := by simp
  have hk0 := heap_alloc2_new w (.cells #[.int .i64 a, .int .i64 b, .string f] 120) (.cells #[.int .i64 0, .slice none 0 0, .string ⟨#[]⟩] 79)
  have hp0 := ((below_agg3 (w.alloc (.cells #[.int .i64 a, .int .i64 b, .string f] 120)) (.int .i64 0) (.slice none 0 0) (.string ⟨#[]⟩) 79).block w.heap.size (by simp)).trans (heap_alloc_new w _)
  have HB1 := Lib.hid hB1
  have HE1 := Lib.hid (hE.below hB1)
  have HK0 := Lib.hid hk0
  have HP0 := Lib.hid hp0
  have HSZ := Lib.hid hsz
  clear hB0 hB1 hk0 hp0 hsz x0 x1 x2 hE hV
  go_enter Tryz.func250, Tryz.ntmps250
  go_wp2_with fail
  generalize ((w.alloc (.cells #[.int .i64 a, .int .i64 b, .string f] 120)).alloc (.cells #[.int .i64 0, .slice none 0 0, .string ⟨#[]⟩] 79)) = W0 at HB1 HE1 HK0 HP0 HSZ ⊢
  obtain ⟨p0, p1, p2, -, -, -⟩ := three_facts HP0.out
  go_wp2_with fail
  refine (HT.out _ HE1.out).mono ?_
  rintro e w1 ⟨rfl, hb1⟩
  have hp1 := (hb1.block w.heap.size (by have := HSZ.out; omega)).trans HP0.out
  have hk1 := (hb1.block (w.heap.size + 1) (by have := HSZ.out; omega)).trans HK0.out
  clear p0 p1 p2
  obtain ⟨p0, p1, p2, -, -, -⟩ := three_facts hp1
  obtain ⟨k0, k1, k2, f0, f1, f2⟩ := three_facts hk1
  have HK1 := Lib.hid hk1
  have HB2 := Lib.hid (bstep HB1.out hb1)
  have hs1 : w.heap.size + 1 < w1.heap.size := by have := hb1.size; have := HSZ.out; omega
  have hs2 : w.heap.size < w1.heap.size := by omega
  clear hp1 hk1 hb1 HT HE1
  go_wp2_with fail
  refine ret_cell (A := ⟨w.heap.size + 1, 0, none⟩) rfl (load_rep _ _ _ _ _ _ ((heap_alloc_old _ _ (by simp; omega)).trans (three_set HK1.out _ _ _))) rfl rfl ?_
  refine ⟨_, _, rfl, ⟨0, ?_⟩, ?_⟩
  · have := own_one_at (((w1.setCell ⟨w.heap.size + 1, 0, none⟩ (.int .i64 206)).setCell ⟨w.heap.size + 1, 1, none⟩ (.slice (some ⟨w1.heap.size, 0, none⟩) 1 1)).setCell ⟨w.heap.size + 1, 2, none⟩ (.string (f.extract a.toNat (b + 1).toNat))) w1.heap.size (by simp) (.string (bs crangeK)) (.string (bs (toldL a b (f.size : Int)))) 108
    rw [HV.out] at this
    have e : fcells [(crangeK, toldL a b (f.size : Int))] = [.string (bs crangeK), .string V] := by rw [← HV.out]; rfl
    rw [e]
    exact this
  · exact (three_below HB2.out _ (by omega) _ _ _).alloc (by have := HB2.out.size; simp; omega) _
/-- the sort of answer, as an interface's value -/
def sortV (h p f s : ByteArray) : Value := if orgC h.data.toList p.data.toList f.data.toList s = 206 then .iface 120 (.agg #[.int .i64 (orgA f.data.toList s), .int .i64 (orgB f.data.toList s), .string f]) else .iface 116 (.int .i64 (orgC h.data.toList p.data.toList f.data.toList s))
set_option maxRecDepth 100000 in
set_option maxHeartbeats 4000000 in
theorem origin_sort (h p f s : ByteArray) (w : World) (hE : EnvF w) (hs : s.size ≤ 1000000) (hf : f.size ≤ 1000000) :
    Calls Tryz.prog 35 #[.agg #[.string h, .string p, .string f], .string s] w fun e w' => e = .returned (sortV h p f s) ∧ Below w.heap.size w w' := by
  have HA := Lib.hid (fun w hE => asking_parse s w hs hE)
  have hB0 := below_o3 w (.string h) (.string p) (.string f)
  have HE0 := Lib.hid (hE.below hB0)
  have HB0 := Lib.hid hB0
  have HP0 := Lib.hid (heap_alloc_new w (.cells #[.string h, .string p, .string f] 34))
  have hsz : (w.alloc (.cells #[.string h, .string p, .string f] 34)).heap.size = w.heap.size + 1 := by simp
  have HSZ := Lib.hid hsz
  unfold askV at HA
  have hn0 : askE s ≠ 0 → askN s = 0 := fun hh => (ask_bad s hh).2.2.2.2
  have hnb : askE s = 0 → 0 < askN s ∧ askN s ≤ (s.size : Int) := fun hh => let ⟨_, h1, h2, _⟩ := ask_again s hh; ⟨h1, h2⟩
  obtain ⟨P, hP⟩ : ∃ P, bs (askPath s) = P := ⟨_, rfl⟩
  obtain ⟨Q, hQ⟩ : ∃ Q, bs (askHost s) = Q := ⟨_, rfl⟩
  obtain ⟨a, ha⟩ : ∃ a, askA s = a := ⟨_, rfl⟩
  obtain ⟨b, hb⟩ : ∃ b, askB s = b := ⟨_, rfl⟩
  obtain ⟨n, hn⟩ : ∃ n, askN s = n := ⟨_, rfl⟩
  obtain ⟨E, hE1⟩ : ∃ E, askE s = E := ⟨_, rfl⟩
  have hPd : askPath s = P.data.toList := by rw [← hP, bs_data]
  have hQd : askHost s = Q.data.toList := by rw [← hQ, bs_data]
  obtain ⟨C, hC⟩ : ∃ C, orgC h.data.toList p.data.toList f.data.toList s = C := ⟨_, rfl⟩
  have hCC : C = if E ≠ 0 ∨ n < (s.size : Int) then 400 else if P.data.toList ≠ p.data.toList ∨ Q.data.toList ≠ h.data.toList then 404 else if clipE a b (f.size : Int) ≠ 0 then 416 else 206 := by
    rw [← hC]; unfold orgC; rw [hE1, hn, hPd, hQd, ha, hb, size_len]
  have hV : sortV h p f s = if C = 206 then .iface 120 (.agg #[.int .i64 (clipA a b (f.size : Int)), .int .i64 (clipB a b (f.size : Int)), .string f]) else .iface 116 (.int .i64 C) := by
    unfold sortV orgA orgB; rw [hC, ha, hb, size_len]
  obtain ⟨V, hVV⟩ : ∃ V, sortV h p f s = V := ⟨_, rfl⟩
  rw [hVV] at hV ⊢
  have HV := Lib.hid hV
  rw [hP, hQ, ha, hb, hn, hE1] at HA
  have HCC := Lib.hid hCC
  clear hE hP hQ hPd hQd hC hCC hV hVV hB0 hsz hn0 hnb
  by_cases h1 : E = 0
  case neg =>
    have HR : Hid (C = 400) := Lib.hid (by rw [HCC.out, if_pos (.inl h1)])
    have tz : ((E : Int) != 0) = true := by rw [bne_iff_ne]; omega
    clear h1 hE1 hn ha hb
    go_enter Tryz.func35, Tryz.ntmps35
    go_wp2_with fail
    refine (HA.out _ HE0.out).mono ?_
    rintro e w1 ⟨rfl, hb1⟩
    have hp1 := (hb1.block w.heap.size (by have := HSZ.out; omega)).trans HP0.out
    have HB1 := Lib.hid (bstep HB0.out hb1)
    have hs1 : w.heap.size < w1.heap.size := by have := hb1.size; have := HSZ.out; omega
    obtain ⟨o0, o1, o2, -, -, -⟩ := three_facts hp1
    obtain ⟨q0, q1, q2, q3⟩ := box4 w1 (.string P) (.string Q) (.int .i64 a) (.int .i64 b) 74
    clear hp1 hb1 HE0 HP0
    go_wp2_with fail
    go_ret
    exact ⟨by rw [HV.out, HR.out]; rfl, HB1.out.alloc HB1.out.size _⟩
  subst h1
  by_cases h2 : n < (s.size : Int)
  · have HR : Hid (C = 400) := Lib.hid (by rw [HCC.out, if_pos (.inr h2)])
    have t2 : decide (n < (s.size : Int)) = true := decide_eq_true h2
    clear h2 hE1 hn ha hb
    go_enter Tryz.func35, Tryz.ntmps35
    go_wp2_with fail
    refine (HA.out _ HE0.out).mono ?_
    rintro e w1 ⟨rfl, hb1⟩
    have hp1 := (hb1.block w.heap.size (by have := HSZ.out; omega)).trans HP0.out
    have HB1 := Lib.hid (bstep HB0.out hb1)
    have hs1 : w.heap.size < w1.heap.size := by have := hb1.size; have := HSZ.out; omega
    obtain ⟨o0, o1, o2, -, -, -⟩ := three_facts hp1
    obtain ⟨q0, q1, q2, q3⟩ := box4 w1 (.string P) (.string Q) (.int .i64 a) (.int .i64 b) 74
    clear hp1 hb1 HE0 HP0
    go_wp2_with fail
    go_ret
    exact ⟨by rw [HV.out, HR.out]; rfl, HB1.out.alloc HB1.out.size _⟩
  have t2 : decide (n < (s.size : Int)) = false := decide_eq_false h2
  by_cases h3 : P.data.toList = p.data.toList
  case neg =>
    have HR : Hid (C = 404) := Lib.hid (by rw [HCC.out, if_neg (fun e => e.elim (fun e => e rfl) h2), if_pos (.inl h3)])
    have t3 : ¬ P.toList = p.toList := by rw [ByteArray.toList_eq, ByteArray.toList_eq]; exact h3
    clear h2 h3 hE1 hn ha hb
    go_enter Tryz.func35, Tryz.ntmps35
    go_wp2_with fail
    refine (HA.out _ HE0.out).mono ?_
    rintro e w1 ⟨rfl, hb1⟩
    have hp1 := (hb1.block w.heap.size (by have := HSZ.out; omega)).trans HP0.out
    have HB1 := Lib.hid (bstep HB0.out hb1)
    have hs1 : w.heap.size < w1.heap.size := by have := hb1.size; have := HSZ.out; omega
    obtain ⟨o0, o1, o2, -, -, -⟩ := three_facts hp1
    obtain ⟨q0, q1, q2, q3⟩ := box4 w1 (.string P) (.string Q) (.int .i64 a) (.int .i64 b) 74
    clear hp1 hb1 HE0 HP0
    go_wp2_with fail
    go_ret
    exact ⟨by rw [HV.out, HR.out]; rfl, HB1.out.alloc HB1.out.size _⟩
  have t3 : P.toList = p.toList := by rw [ByteArray.toList_eq, ByteArray.toList_eq]; exact h3
  by_cases h4 : Q.data.toList = h.data.toList
  case neg =>
    have HR : Hid (C = 404) := Lib.hid (by rw [HCC.out, if_neg (fun e => e.elim (fun e => e rfl) h2), if_pos (.inr h4)])
    have t4 : ¬ Q.toList = h.toList := by rw [ByteArray.toList_eq, ByteArray.toList_eq]; exact h4
    have t4b : (Q.toList == h.toList) = false := by rw [beq_eq_false_iff_ne]; exact t4
    clear h2 h3 h4 hE1 hn ha hb
    go_enter Tryz.func35, Tryz.ntmps35
    go_wp2_with fail
    refine (HA.out _ HE0.out).mono ?_
    rintro e w1 ⟨rfl, hb1⟩
    have hp1 := (hb1.block w.heap.size (by have := HSZ.out; omega)).trans HP0.out
    have HB1 := Lib.hid (bstep HB0.out hb1)
    have hs1 : w.heap.size < w1.heap.size := by have := hb1.size; have := HSZ.out; omega
    obtain ⟨o0, o1, o2, -, -, -⟩ := three_facts hp1
    obtain ⟨q0, q1, q2, q3⟩ := box4 w1 (.string P) (.string Q) (.int .i64 a) (.int .i64 b) 74
    clear hp1 hb1 HE0 HP0
    go_wp2_with fail
    go_ret
    exact ⟨by rw [HV.out, HR.out]; rfl, HB1.out.alloc HB1.out.size _⟩
  have t4 : Q.toList = h.toList := by rw [ByteArray.toList_eq, ByteArray.toList_eq]; exact h4
  have HCl := Lib.hid (fun w => ranges_clip a b (f.size : Int) w (by omega) (by omega))
  obtain ⟨K, hK⟩ : ∃ K, clipE a b (f.size : Int) = K := ⟨_, rfl⟩
  have HCK : Hid (C = if K ≠ 0 then 416 else 206) := Lib.hid (by
    rw [HCC.out, if_neg (fun e => e.elim (fun e => e rfl) h2), if_neg (fun e => e.elim (fun e => e h3) (fun e => e h4)), hK])
  rw [hK] at HCl
  generalize clipA a b (f.size : Int) = A at HCl HV
  generalize clipB a b (f.size : Int) = B at HCl HV
  by_cases h5 : K = 0
  case neg =>
    have HR : Hid (C = 416) := Lib.hid (by rw [HCK.out, if_pos h5])
    have tz : ((K : Int) != 0) = true := by rw [bne_iff_ne]; omega
    clear h2 h3 h4 h5 hK hE1 hn ha hb
    go_enter Tryz.func35, Tryz.ntmps35
    go_wp2_with fail
    refine (HA.out _ HE0.out).mono ?_
    rintro e w1 ⟨rfl, hb1⟩
    have hp1 := (hb1.block w.heap.size (by have := HSZ.out; omega)).trans HP0.out
    have HB1 := Lib.hid (bstep HB0.out hb1)
    have hs1 : w.heap.size < w1.heap.size := by have := hb1.size; have := HSZ.out; omega
    obtain ⟨o0, o1, o2, -, -, -⟩ := three_facts hp1
    obtain ⟨q0, q1, q2, q3⟩ := box4 w1 (.string P) (.string Q) (.int .i64 a) (.int .i64 b) 74
    clear hp1 hb1 HE0 HP0
    go_wp2_with fail
    refine (HCl.out _).mono ?_
    rintro e w2 ⟨rfl, hb2⟩
    have HB2 := Lib.hid (bstep HB1.out (bstep (below_agg4 _ _ _ _ _ _) hb2))
    clear hb2
    go_wp2_with fail
    go_ret
    exact ⟨by rw [HV.out, HR.out]; rfl, HB2.out.alloc HB2.out.size _⟩
  subst h5
  have HR : Hid (C = 206) := Lib.hid (by rw [HCK.out, if_neg (fun e => e rfl)])
  clear h2 h3 h4 hK hE1 hn ha hb
  go_enter Tryz.func35, Tryz.ntmps35
  go_wp2_with fail
  refine (HA.out _ HE0.out).mono ?_
  rintro e w1 ⟨rfl, hb1⟩
  have hp1 := (hb1.block w.heap.size (by have := HSZ.out; omega)).trans HP0.out
  have HB1 := Lib.hid (bstep HB0.out hb1)
  have hs1 : w.heap.size < w1.heap.size := by have := hb1.size; have := HSZ.out; omega
  obtain ⟨o0, o1, o2, -, -, -⟩ := three_facts hp1
  obtain ⟨q0, q1, q2, q3⟩ := box4 w1 (.string P) (.string Q) (.int .i64 a) (.int .i64 b) 74
  clear hp1 hb1 HE0 HP0
  go_wp2_with fail
  refine (HCl.out _).mono ?_
  rintro e w2 ⟨rfl, hb2⟩
  have hx : w.heap.size < (w1.alloc (.cells #[.string P, .string Q, .int .i64 a, .int .i64 b] 74)).heap.size := by simp; omega
  have o2' := (hb2.cell (p := ⟨w.heap.size, 2, none⟩) hx).trans (((below_agg4 w1 (.string P) (.string Q) (.int .i64 a) (.int .i64 b) 74).cell (p := ⟨w.heap.size, 2, none⟩) hs1).trans o2)
  have HB2 := Lib.hid (bstep HB1.out (bstep (below_agg4 _ _ _ _ _ _) hb2))
  have hs2 : w.heap.size < w2.heap.size := Nat.lt_of_lt_of_le hx hb2.size
  obtain ⟨k0, k1⟩ := box2 w2 (.int .i64 A) (.int .i64 B) 72
  clear hb2 hx o0 o1 o2 q0 q1 q2 q3
  go_wp2_with fail
  go_ret
  exact ⟨by rw [HV.out, HR.out]; rfl, HB2.out.alloc HB2.out.size _⟩
end Go.Proofs.YthcomjhpjlcpdaaGreatDoor
namespace Go.Proofs.YthcomjhpjlcpdaaGreatDoor
open Go.RowKit
/-- what is answered with bytes -/
theorem org_part (h p f : List UInt8) (s : ByteArray) (hc : orgC h p f s = 206) (hf : f.length ≤ 1000000) : 0 ≤ orgA f s ∧ orgA f s ≤ orgB f s ∧ orgB f s < (f.length : Int) ∧ orgF h p f s = [(crangeK, toldL (orgA f s) (orgB f s) (f.length : Int))] ∧ orgY h p f s = (f.take (orgB f s + 1).toNat).drop (orgA f s).toNat := by
  obtain ⟨-, -, -, -, h5⟩ := orgC_206 h p f s hc
  obtain ⟨q1, q2, q3, q4⟩ := clip_ok _ _ _ h5
  obtain ⟨r1, r2, r3⟩ := rErr_ok _ _ q1
  unfold orgA orgB orgF orgY
  rw [q3, q4, if_pos hc, if_pos hc]
  unfold orgA orgB
  rw [q3, q4]
  refine ⟨r1, ?_, ?_, rfl, rfl⟩ <;> split <;> omega
theorem meth_refusal (v : Value) (w : World) : (Go.method 442 116 v "gazetteer/origin.reply").run Tryz.prog w = .ok (249, v) w := by kernel_rfl
theorem meth_part (v : Value) (w : World) : (Go.method 442 120 v "gazetteer/origin.reply").run Tryz.prog w = .ok (250, v) w := by kernel_rfl
theorem field_code (c : Int) (y z : Value) (w : World) : (Instr.field 79 (.agg #[.int .i64 c, y, z]) 0).run Tryz.prog w = .ok (.int .i64 c) w := by kernel_rfl
set_option maxRecDepth 100000 in
set_option maxHeartbeats 4000000 in
theorem origin_answer (h p f s : ByteArray) (w : World) (hE : EnvF w) (hs : s.size ≤ 1000000) (hf : f.size ≤ 1000000) :
    Calls Tryz.prog 23 #[.agg #[.string h, .string p, .string f], .string s] w fun e w' => e = .returned (.string (bs (orgS h.data.toList p.data.toList f.data.toList s))) ∧ Below w.heap.size w w' := by
  have HC := Lib.hid (fun w => origin_check h p f w)
  have HS := Lib.hid (fun w hE => origin_sort h p f s w hE hs hf)
  have hB0 := below_o3 w (.string h) (.string p) (.string f)
  have HE0 := Lib.hid (hE.below hB0)
  have HB0 := Lib.hid hB0
  have HP0 := Lib.hid (heap_alloc_new w (.cells #[.string h, .string p, .string f] 34))
  have hsz : (w.alloc (.cells #[.string h, .string p, .string f] 34)).heap.size = w.heap.size + 1 := by simp
  have HSZ := Lib.hid hsz
  obtain ⟨o0, o1, o2, -, -, -⟩ := three_facts HP0.out
  clear hE hB0 hsz
  by_cases he : orgE h.data.toList p.data.toList = 0
  case neg =>
    have HR : Hid (orgS h.data.toList p.data.toList f.data.toList s = []) := Lib.hid (by unfold orgS; rw [if_neg he])
    have tz : ((orgE h.data.toList p.data.toList : Int) != 0) = true := by rw [bne_iff_ne]; omega
    generalize orgE h.data.toList p.data.toList = E at HC tz
    clear he
    go_enter Tryz.func23, Tryz.ntmps23
    go_wp2_with fail
    refine (HC.out _).mono ?_
    rintro e w1 ⟨rfl, hb1⟩
    go_wp2_with fail
    go_ret
    exact ⟨by rw [HR.out]; rfl, bstep HB0.out hb1⟩
  rw [he] at HC
  by_cases hc : orgC h.data.toList p.data.toList f.data.toList s = 206
  · have hV : sortV h p f s = .iface 120 (.agg #[.int .i64 (orgA f.data.toList s), .int .i64 (orgB f.data.toList s), .string f]) := if_pos hc
    rw [hV] at HS
    obtain ⟨g1, g2, g3, g4, g5⟩ := org_part h.data.toList p.data.toList f.data.toList s hc (by rw [size_len]; exact hf)
    have HR : Hid (orgS h.data.toList p.data.toList f.data.toList s = repS 206 (orgF h.data.toList p.data.toList f.data.toList s) (orgY h.data.toList p.data.toList f.data.toList s)) := Lib.hid (by unfold orgS; rw [if_pos he, hc])
    rw [size_len] at g3 g4
    have hex : bs (orgY h.data.toList p.data.toList f.data.toList s) = f.extract (orgA f.data.toList s).toNat (orgB f.data.toList s + 1).toNat := by rw [extract_bs, g5]
    have hYl := orgY_len h.data.toList p.data.toList f.data.toList s
    rw [size_len] at hYl
    generalize orgY h.data.toList p.data.toList f.data.toList s = Y at HR g5 hex hYl
    have HPa := Lib.hid (fun W hE => part_reply (orgA f.data.toList s) (orgB f.data.toList s) f W hE g1 g2 g3 hf)
    rw [← g4, ← hex] at HPa
    have hFb : ∀ x ∈ orgF h.data.toList p.data.toList f.data.toList s, x.1.length ≤ 1000000 ∧ x.2.length ≤ 1000000 := by
      rw [g4]
      intro x hx
      obtain rfl := List.mem_singleton.1 hx
      exact ⟨by show crangeK.length ≤ 1000000; decide, Nat.le_trans (toldL_len _ _ _) (by decide)⟩
    have hFl : (orgF h.data.toList p.data.toList f.data.toList s).length ≤ 1000000 := by rw [g4]; show 1 ≤ 1000000; decide
    generalize orgF h.data.toList p.data.toList f.data.toList s = F at HR HPa g4 hFb hFl
    generalize orgA f.data.toList s = A at HS HPa
    generalize orgB f.data.toList s = B at HS HPa
    have HPr := Lib.hid (fun W fv BB hE hO => reply_print 206 fv F (bs Y) BB W hE (by decide) (by decide) hO hFl hFb (by rw [bs_size]; omega))
    rw [bs_data] at HPr
    unfold RPost at HPr
    unfold PartPost at HPa
    generalize bs Y = YB at HPa HPr
    have hm := meth_part
    clear hV hc he g1 g2 g3 g4 g5 hex hYl hFb hFl
    go_enter Tryz.func23, Tryz.ntmps23
    go_wp2_with fail
    refine (HC.out _).mono ?_
    rintro e w1 ⟨rfl, hb1⟩
    have hp1 := (hb1.block w.heap.size (by have := HSZ.out; omega)).trans HP0.out
    have HB1 := Lib.hid (bstep HB0.out hb1)
    have HE1 := Lib.hid (HE0.out.below hb1)
    clear hb1 o0 o1 o2
    obtain ⟨o0, o1, o2, -, -, -⟩ := three_facts hp1
    clear hp1
    go_wp2_with fail
    refine (HS.out _ HE1.out).mono ?_
    rintro e w2 ⟨rfl, hb2⟩
    have HB2 := Lib.hid (bstep HB1.out hb2)
    have HE2 := Lib.hid (HE1.out.below hb2)
    clear hb2 o0 o1 o2
    go_wp2_with fail
    refine (HPa.out _ HE2.out).mono ?_
    rintro e w3 ⟨a3, c3, rfl, ⟨BB, hO⟩, hb3⟩
    have HB3 := Lib.hid (bstep HB2.out hb3)
    have HE3 := Lib.hid (HE2.out.below hb3)
    have HO := Lib.hid hO
    clear hb3 hO
    go_wp2_with fail
    refine (HPr.out _ _ _ HE3.out HO.out).mono ?_
    rintro e w4 ⟨rfl, hb4⟩
    go_wp2_with fail
    go_ret
    exact ⟨by rw [HR.out]; rfl, bstep HB3.out hb4⟩
  · have hV : sortV h p f s = .iface 116 (.int .i64 (orgC h.data.toList p.data.toList f.data.toList s)) := if_neg hc
    rw [hV] at HS
    obtain ⟨e1, e2⟩ := orgF_other h.data.toList p.data.toList f.data.toList s hc
    have HR : Hid (orgS h.data.toList p.data.toList f.data.toList s = repS (orgC h.data.toList p.data.toList f.data.toList s) [] []) := Lib.hid (by unfold orgS; rw [if_pos he, e1, e2])
    have hc4 := orgC_four h.data.toList p.data.toList f.data.toList s
    generalize orgC h.data.toList p.data.toList f.data.toList s = C at HS HR hc hc4
    have HPr := Lib.hid (fun W hE => reply_print C (.slice none 0 0) [] ⟨#[]⟩ 0 W hE (by omega) (by omega) (nil_own W) (by decide) (fun f hf => by simp at hf) (by decide))
    have HRe := Lib.hid (fun W => refusal_reply C W)
    have hm := meth_refusal
    unfold RPost at HPr
    clear hV e1 e2 hc hc4 he
    go_enter Tryz.func23, Tryz.ntmps23
    go_wp2_with fail
    refine (HC.out _).mono ?_
    rintro e w1 ⟨rfl, hb1⟩
    have hp1 := (hb1.block w.heap.size (by have := HSZ.out; omega)).trans HP0.out
    have HB1 := Lib.hid (bstep HB0.out hb1)
    have HE1 := Lib.hid (HE0.out.below hb1)
    clear hb1 o0 o1 o2
    obtain ⟨o0, o1, o2, -, -, -⟩ := three_facts hp1
    clear hp1
    go_wp2_with fail
    refine (HS.out _ HE1.out).mono ?_
    rintro e w2 ⟨rfl, hb2⟩
    have HB2 := Lib.hid (bstep HB1.out hb2)
    have HE2 := Lib.hid (HE1.out.below hb2)
    clear hb2 o0 o1 o2
    go_wp2_with fail
    refine (HRe.out _).mono ?_
    rintro e w3 ⟨rfl, hb3⟩
    have HB3 := Lib.hid (bstep HB2.out hb3)
    have HE3 := Lib.hid (HE2.out.below hb3)
    clear hb3
    go_wp2_with fail
    refine (HPr.out _ HE3.out).mono ?_
    rintro e w4 ⟨rfl, hb4⟩
    go_wp2_with fail
    go_ret
    exact ⟨by rw [HR.out]; rfl, bstep HB3.out hb4⟩
end Go.Proofs.YthcomjhpjlcpdaaGreatDoor
namespace Go.Proofs.YthcomjhpjlcpdaaGreatDoor
open Go.RowKit
theorem below_ro3 (w : World) (x y z : Value) : Below w.heap.size w (w.alloc (.cells #[x, y, z] 23)) := (Below.refl _ _).alloc (Nat.le_refl _) _
set_option maxRecDepth 100000 in
set_option maxHeartbeats 1000000 in
theorem ref_ocheck (h p f : ByteArray) (w : World) (hh : h.size ≤ 9223372036854775807) (hp : p.size ≤ 9223372036854775807) :
    Calls Tryz.prog 14 #[.agg #[.string h, .string p, .string f]] w fun e w' => e = .returned (.int .i64 (orgE h.data.toList p.data.toList : Nat)) ∧ Below w.heap.size w w' := by
  have HP := Lib.hid (fun w => ref_path p w hp)
  have HH := Lib.hid (fun w => ref_host h w hh)
  obtain ⟨x0, x1, x2⟩ := box3 w (.string h) (.string p) (.string f) 23
  have HB0 := Lib.hid (below_ro3 w (.string h) (.string p) (.string f))
  obtain ⟨P, hP⟩ : ∃ P, pathB p.data.toList = P := ⟨_, rfl⟩
  obtain ⟨H, hH⟩ : ∃ H, hostB h.data.toList = H := ⟨_, rfl⟩
  have HR : Hid (orgE h.data.toList p.data.toList = if P = false ∨ H = false then 2 else 0) := Lib.hid (by unfold orgE; rw [hP, hH])
  rw [hP] at HP
  rw [hH] at HH
  clear hP hH hh hp
  cases P
  · go_enter Tryz.func14, Tryz.ntmps14
    go_wp2_with fail
    refine (HP.out _).mono ?_
    rintro e w' ⟨rfl, hww⟩
    obtain rfl := hww.symm
    go_wp2_with fail
    go_ret
    exact ⟨by rw [HR.out]; rfl, HB0.out⟩
  · cases H
    all_goals
      go_enter Tryz.func14, Tryz.ntmps14
      go_wp2_with fail
      refine (HP.out _).mono ?_
      rintro e w' ⟨rfl, hww⟩
      obtain rfl := hww.symm
      go_wp2_with fail
      refine (HH.out _).mono ?_
      rintro e w' ⟨rfl, hww⟩
      obtain rfl := hww.symm
      go_wp2_with fail
      go_ret
      exact ⟨by rw [HR.out]; rfl, HB0.out⟩
def overO (h p f : List UInt8) (most : Int) : Bool := decide (300 < h.length) || decide (300 < p.length) || decide (most < (f.length : Int))
set_option maxRecDepth 100000 in
set_option maxHeartbeats 1000000 in
theorem ref_oover (h p f : ByteArray) (m : Int) (w : World) :
    Calls Tryz.prog 8 #[.agg #[.string h, .string p, .string f], .int .i64 m] w fun e w' => e = .returned (.bool (overO h.data.toList p.data.toList f.data.toList m)) ∧ Below w.heap.size w w' := by
  obtain ⟨x0, x1, x2⟩ := box3 w (.string h) (.string p) (.string f) 23
  have HB0 := Lib.hid (below_ro3 w (.string h) (.string p) (.string f))
  obtain ⟨A, hA⟩ : ∃ A, decide (300 < h.size) = A := ⟨_, rfl⟩
  obtain ⟨B, hB⟩ : ∃ B, decide (300 < p.size) = B := ⟨_, rfl⟩
  obtain ⟨C, hC⟩ : ∃ C, decide (m < (f.size : Int)) = C := ⟨_, rfl⟩
  have HR : Hid (overO h.data.toList p.data.toList f.data.toList m = (A || B || C)) := Lib.hid (by unfold overO; rw [size_len, size_len, size_len, hA, hB, hC])
  have tA : decide ((h.size : Int) > 300) = A := by rw [← hA]; exact decide_eq_decide.2 (by omega)
  have tB : decide ((p.size : Int) > 300) = B := by rw [← hB]; exact decide_eq_decide.2 (by omega)
  have tC : decide ((f.size : Int) > m) = C := hC
  clear hA hB hC
  cases A
  · cases B
    all_goals
      go_enter Tryz.func8, Tryz.ntmps8
      go_wp2_with fail
      go_ret
      exact ⟨by rw [HR.out]; rfl, HB0.out⟩
  · go_enter Tryz.func8, Tryz.ntmps8
    go_wp2_with fail
    go_ret
    exact ⟨by rw [HR.out]; rfl, HB0.out⟩
set_option maxRecDepth 100000 in
set_option maxHeartbeats 8000000 in
theorem ref_oanswer (h p f s : ByteArray) (w : World) (hs : s.size ≤ 1000000) (hf : f.size ≤ 1000000) :
    Calls Tryz.prog 39 #[.agg #[.string h, .string p, .string f], .string s] w (PartPost (orgC h.data.toList p.data.toList f.data.toList s) (orgF h.data.toList p.data.toList f.data.toList s) (bs (orgY h.data.toList p.data.toList f.data.toList s)) 102 w) := by
  have HA := Lib.hid (fun w => ref_aparse s w hs)
  have hB0 := bstep (below_ro3 w (.string h) (.string p) (.string f)) (below_agg3 _ (.int .i64 0) (.slice none 0 0) (.string ⟨#[]⟩) 95)
  have HB0 := Lib.hid hB0
  have HK0 := Lib.hid (heap_alloc2_new w (.cells #[.string h, .string p, .string f] 23) (.cells #[.int .i64 0, .slice none 0 0, .string ⟨#[]⟩] 95))
  have HP0 := Lib.hid (((below_agg3 (w.alloc (.cells #[.string h, .string p, .string f] 23)) (.int .i64 0) (.slice none 0 0) (.string ⟨#[]⟩) 95).block w.heap.size (by simp)).trans (heap_alloc_new w _))
  have HSZ : Hid (((w.alloc (.cells #[.string h, .string p, .string f] 23)).alloc (.cells #[.int .i64 0, .slice none 0 0, .string ⟨#[]⟩] 95)).heap.size = w.heap.size + 1 + 1) := Lib.hid (by simp)
  unfold askV at HA
  obtain ⟨F, hF⟩ : ∃ F, orgF h.data.toList p.data.toList f.data.toList s = F := ⟨_, rfl⟩
  obtain ⟨Y, hY⟩ : ∃ Y, bs (orgY h.data.toList p.data.toList f.data.toList s) = Y := ⟨_, rfl⟩
  have hoth := orgF_other h.data.toList p.data.toList f.data.toList s
  have hprt := org_part h.data.toList p.data.toList f.data.toList s
  unfold orgA orgB at hprt
  obtain ⟨P, hP⟩ : ∃ P, bs (askPath s) = P := ⟨_, rfl⟩
  obtain ⟨Q, hQ⟩ : ∃ Q, bs (askHost s) = Q := ⟨_, rfl⟩
  obtain ⟨a, ha⟩ : ∃ a, askA s = a := ⟨_, rfl⟩
  obtain ⟨b, hb⟩ : ∃ b, askB s = b := ⟨_, rfl⟩
  obtain ⟨n, hn⟩ : ∃ n, askN s = n := ⟨_, rfl⟩
  obtain ⟨E, hE1⟩ : ∃ E, askE s = E := ⟨_, rfl⟩
  have hPd : askPath s = P.data.toList := by rw [← hP, bs_data]
  have hQd : askHost s = Q.data.toList := by rw [← hQ, bs_data]
  obtain ⟨C, hC⟩ : ∃ C, orgC h.data.toList p.data.toList f.data.toList s = C := ⟨_, rfl⟩
  have hCC : C = if E ≠ 0 ∨ n < (s.size : Int) then 400 else if P.data.toList ≠ p.data.toList ∨ Q.data.toList ≠ h.data.toList then 404 else if clipE a b (f.size : Int) ≠ 0 then 416 else 206 := by
    rw [← hC]; unfold orgC; rw [hE1, hn, hPd, hQd, ha, hb, size_len]
  rw [hC, hF] at hoth
  rw [hC, hF, ha, hb, size_len] at hprt
  have HO : Hid (C ≠ 206 → F = [] ∧ Y = ⟨#[]⟩) := Lib.hid (fun e => ⟨(hoth e).1, by rw [← hY, (hoth e).2]; rfl⟩)
  have HPR : Hid (C = 206 → 0 ≤ clipA a b (f.size : Int) ∧ clipA a b (f.size : Int) ≤ clipB a b (f.size : Int) ∧ clipB a b (f.size : Int) < (f.size : Int) ∧ F = [(crangeK, toldL (clipA a b (f.size : Int)) (clipB a b (f.size : Int)) (f.size : Int))] ∧ Y = f.extract (clipA a b (f.size : Int)).toNat (clipB a b (f.size : Int) + 1).toNat) := Lib.hid (fun e => by
    obtain ⟨g1, g2, g3, g4, g5⟩ := hprt e hf
    exact ⟨g1, g2, g3, g4, by rw [← hY, g5, extract_bs]⟩)
  rw [hC, hF, hY]
  rw [hP, hQ, ha, hb, hn, hE1] at HA
  have HCC := Lib.hid hCC
  clear hP hQ hPd hQd hC hCC hF hY hoth hprt hB0
  by_cases h1 : E = 0
  case neg =>
    have hR : C = 400 := by rw [HCC.out, if_pos (.inl h1)]
    have HR : Hid (C = 400 ∧ F = [] ∧ Y = ⟨#[]⟩) := Lib.hid ⟨hR, HO.out (by rw [hR]; decide)⟩
    have tz : ((E : Int) != 0) = true := by rw [bne_iff_ne]; omega
    clear h1 hE1 hn ha hb hR
    go_enter Tryz.func39, Tryz.ntmps39
    go_wp2_with fail
    generalize ((w.alloc (.cells #[.string h, .string p, .string f] 23)).alloc (.cells #[.int .i64 0, .slice none 0 0, .string ⟨#[]⟩] 95)) = W0 at HB0 HP0 HK0 HSZ ⊢
    refine (HA.out _).mono ?_
    rintro e w1 ⟨rfl, hb1⟩
    have hp1 := (hb1.block w.heap.size (by have := HSZ.out; omega)).trans HP0.out
    have hk1 := (hb1.block (w.heap.size + 1) (by have := HSZ.out; omega)).trans HK0.out
    have HB1 := Lib.hid (bstep HB0.out hb1)
    have hs0 : w.heap.size + 1 < w1.heap.size := by have := hb1.size; have := HSZ.out; omega
    have hs1 : w.heap.size < w1.heap.size := by omega
    obtain ⟨o0, o1, o2, -, -, -⟩ := three_facts hp1
    obtain ⟨r0, r1, r2, f0, f1, f2⟩ := three_facts hk1
    have HP1 := Lib.hid hp1
    have HK1 := Lib.hid hk1
    obtain ⟨q0, q1, q2, q3⟩ := box4 w1 (.string P) (.string Q) (.int .i64 a) (.int .i64 b) 126
    clear hp1 hk1 hb1 HP0 HK0
    go_wp2_with fail
    refine ret_cell (A := ⟨w.heap.size + 1, 0, none⟩) rfl (load_rrep _ _ _ _ _ _ ((heap_alloc_old _ _ (by simp; omega)).trans (three_set HK1.out _ _ _))) rfl rfl ?_
    rw [HR.out.1, HR.out.2.1, HR.out.2.2]
    exact ⟨none, 0, rfl, ⟨0, World.ownsRow_nil _ _ _ _⟩, (three_below HB1.out _ (by omega) _ _ _).alloc (by have := HB1.out.size; simp; omega) _⟩
  subst h1
  by_cases h2 : n < (s.size : Int)
  · have hR : C = 400 := by rw [HCC.out, if_pos (.inr h2)]
    have HR : Hid (C = 400 ∧ F = [] ∧ Y = ⟨#[]⟩) := Lib.hid ⟨hR, HO.out (by rw [hR]; decide)⟩
    have t2 : decide (n < (s.size : Int)) = true := decide_eq_true h2
    clear h2 hE1 hn ha hb hR
    go_enter Tryz.func39, Tryz.ntmps39
    go_wp2_with fail
    generalize ((w.alloc (.cells #[.string h, .string p, .string f] 23)).alloc (.cells #[.int .i64 0, .slice none 0 0, .string ⟨#[]⟩] 95)) = W0 at HB0 HP0 HK0 HSZ ⊢
    refine (HA.out _).mono ?_
    rintro e w1 ⟨rfl, hb1⟩
    have hp1 := (hb1.block w.heap.size (by have := HSZ.out; omega)).trans HP0.out
    have hk1 := (hb1.block (w.heap.size + 1) (by have := HSZ.out; omega)).trans HK0.out
    have HB1 := Lib.hid (bstep HB0.out hb1)
    have hs0 : w.heap.size + 1 < w1.heap.size := by have := hb1.size; have := HSZ.out; omega
    have hs1 : w.heap.size < w1.heap.size := by omega
    obtain ⟨o0, o1, o2, -, -, -⟩ := three_facts hp1
    obtain ⟨r0, r1, r2, f0, f1, f2⟩ := three_facts hk1
    have HP1 := Lib.hid hp1
    have HK1 := Lib.hid hk1
    obtain ⟨q0, q1, q2, q3⟩ := box4 w1 (.string P) (.string Q) (.int .i64 a) (.int .i64 b) 126
    clear hp1 hk1 hb1 HP0 HK0
    go_wp2_with fail
    refine ret_cell (A := ⟨w.heap.size + 1, 0, none⟩) rfl (load_rrep _ _ _ _ _ _ ((heap_alloc_old _ _ (by simp; omega)).trans (three_set HK1.out _ _ _))) rfl rfl ?_
    rw [HR.out.1, HR.out.2.1, HR.out.2.2]
    exact ⟨none, 0, rfl, ⟨0, World.ownsRow_nil _ _ _ _⟩, (three_below HB1.out _ (by omega) _ _ _).alloc (by have := HB1.out.size; simp; omega) _⟩
  have t2 : decide (n < (s.size : Int)) = false := decide_eq_false h2
  by_cases h3 : P.data.toList = p.data.toList
  case neg =>
    have hR : C = 404 := by rw [HCC.out, if_neg (fun e => e.elim (fun e => e rfl) h2), if_pos (.inl h3)]
    have HR : Hid (C = 404 ∧ F = [] ∧ Y = ⟨#[]⟩) := Lib.hid ⟨hR, HO.out (by rw [hR]; decide)⟩
    have t3 : ¬ P.toList = p.toList := by rw [ByteArray.toList_eq, ByteArray.toList_eq]; exact h3
    clear h2 h3 hE1 hn ha hb hR
    go_enter Tryz.func39, Tryz.ntmps39
    go_wp2_with fail
    generalize ((w.alloc (.cells #[.string h, .string p, .string f] 23)).alloc (.cells #[.int .i64 0, .slice none 0 0, .string ⟨#[]⟩] 95)) = W0 at HB0 HP0 HK0 HSZ ⊢
    refine (HA.out _).mono ?_
    rintro e w1 ⟨rfl, hb1⟩
    have hp1 := (hb1.block w.heap.size (by have := HSZ.out; omega)).trans HP0.out
    have hk1 := (hb1.block (w.heap.size + 1) (by have := HSZ.out; omega)).trans HK0.out
    have HB1 := Lib.hid (bstep HB0.out hb1)
    have hs0 : w.heap.size + 1 < w1.heap.size := by have := hb1.size; have := HSZ.out; omega
    have hs1 : w.heap.size < w1.heap.size := by omega
    obtain ⟨o0, o1, o2, -, -, -⟩ := three_facts hp1
    obtain ⟨r0, r1, r2, f0, f1, f2⟩ := three_facts hk1
    have HP1 := Lib.hid hp1
    have HK1 := Lib.hid hk1
    obtain ⟨q0, q1, q2, q3⟩ := box4 w1 (.string P) (.string Q) (.int .i64 a) (.int .i64 b) 126
    clear hp1 hk1 hb1 HP0 HK0
    go_wp2_with fail
    refine ret_cell (A := ⟨w.heap.size + 1, 0, none⟩) rfl (load_rrep _ _ _ _ _ _ ((heap_alloc_old _ _ (by simp; omega)).trans (three_set HK1.out _ _ _))) rfl rfl ?_
    rw [HR.out.1, HR.out.2.1, HR.out.2.2]
    exact ⟨none, 0, rfl, ⟨0, World.ownsRow_nil _ _ _ _⟩, (three_below HB1.out _ (by omega) _ _ _).alloc (by have := HB1.out.size; simp; omega) _⟩
  have t3 : P.toList = p.toList := by rw [ByteArray.toList_eq, ByteArray.toList_eq]; exact h3
  by_cases h4 : Q.data.toList = h.data.toList
  case neg =>
    have hR : C = 404 := by rw [HCC.out, if_neg (fun e => e.elim (fun e => e rfl) h2), if_pos (.inr h4)]
    have HR : Hid (C = 404 ∧ F = [] ∧ Y = ⟨#[]⟩) := Lib.hid ⟨hR, HO.out (by rw [hR]; decide)⟩
    have t4 : ¬ Q.toList = h.toList := by rw [ByteArray.toList_eq, ByteArray.toList_eq]; exact h4
    have t4b : (Q.toList == h.toList) = false := by rw [beq_eq_false_iff_ne]; exact t4
    clear h2 h3 h4 hE1 hn ha hb hR
    go_enter Tryz.func39, Tryz.ntmps39
    go_wp2_with fail
    generalize ((w.alloc (.cells #[.string h, .string p, .string f] 23)).alloc (.cells #[.int .i64 0, .slice none 0 0, .string ⟨#[]⟩] 95)) = W0 at HB0 HP0 HK0 HSZ ⊢
    refine (HA.out _).mono ?_
    rintro e w1 ⟨rfl, hb1⟩
    have hp1 := (hb1.block w.heap.size (by have := HSZ.out; omega)).trans HP0.out
    have hk1 := (hb1.block (w.heap.size + 1) (by have := HSZ.out; omega)).trans HK0.out
    have HB1 := Lib.hid (bstep HB0.out hb1)
    have hs0 : w.heap.size + 1 < w1.heap.size := by have := hb1.size; have := HSZ.out; omega
    have hs1 : w.heap.size < w1.heap.size := by omega
    obtain ⟨o0, o1, o2, -, -, -⟩ := three_facts hp1
    obtain ⟨r0, r1, r2, f0, f1, f2⟩ := three_facts hk1
    have HP1 := Lib.hid hp1
    have HK1 := Lib.hid hk1
    obtain ⟨q0, q1, q2, q3⟩ := box4 w1 (.string P) (.string Q) (.int .i64 a) (.int .i64 b) 126
    clear hp1 hk1 hb1 HP0 HK0
    go_wp2_with fail
    refine ret_cell (A := ⟨w.heap.size + 1, 0, none⟩) rfl (load_rrep _ _ _ _ _ _ ((heap_alloc_old _ _ (by simp; omega)).trans (three_set HK1.out _ _ _))) rfl rfl ?_
    rw [HR.out.1, HR.out.2.1, HR.out.2.2]
    exact ⟨none, 0, rfl, ⟨0, World.ownsRow_nil _ _ _ _⟩, (three_below HB1.out _ (by omega) _ _ _).alloc (by have := HB1.out.size; simp; omega) _⟩
  have t4 : Q.toList = h.toList := by rw [ByteArray.toList_eq, ByteArray.toList_eq]; exact h4
  have HCl := Lib.hid (fun w => ref_clip a b (f.size : Int) w (by omega) (by omega))
  obtain ⟨K, hK⟩ : ∃ K, clipE a b (f.size : Int) = K := ⟨_, rfl⟩
  have HCK : Hid (C = if K ≠ 0 then 416 else 206) := Lib.hid (by
    rw [HCC.out, if_neg (fun e => e.elim (fun e => e rfl) h2), if_neg (fun e => e.elim (fun e => e h3) (fun e => e h4)), hK])
  rw [hK] at HCl
  generalize clipA a b (f.size : Int) = A at HCl HPR
  generalize clipB a b (f.size : Int) = B at HCl HPR
  by_cases h5 : K = 0
  case neg =>
    have hR : C = 416 := by rw [HCK.out, if_pos h5]
    have HR : Hid (C = 416 ∧ F = [] ∧ Y = ⟨#[]⟩) := Lib.hid ⟨hR, HO.out (by rw [hR]; decide)⟩
    have tz : ((K : Int) != 0) = true := by rw [bne_iff_ne]; omega
    clear h2 h3 h4 h5 hK hE1 hn ha hb hR
    go_enter Tryz.func39, Tryz.ntmps39
    go_wp2_with fail
    generalize ((w.alloc (.cells #[.string h, .string p, .string f] 23)).alloc (.cells #[.int .i64 0, .slice none 0 0, .string ⟨#[]⟩] 95)) = W0 at HB0 HP0 HK0 HSZ ⊢
    refine (HA.out _).mono ?_
    rintro e w1 ⟨rfl, hb1⟩
    have hp1 := (hb1.block w.heap.size (by have := HSZ.out; omega)).trans HP0.out
    have hk1 := (hb1.block (w.heap.size + 1) (by have := HSZ.out; omega)).trans HK0.out
    have HB1 := Lib.hid (bstep HB0.out hb1)
    have hs0 : w.heap.size + 1 < w1.heap.size := by have := hb1.size; have := HSZ.out; omega
    have hs1 : w.heap.size < w1.heap.size := by omega
    obtain ⟨o0, o1, o2, -, -, -⟩ := three_facts hp1
    obtain ⟨r0, r1, r2, f0, f1, f2⟩ := three_facts hk1
    have HP1 := Lib.hid hp1
    have HK1 := Lib.hid hk1
    obtain ⟨q0, q1, q2, q3⟩ := box4 w1 (.string P) (.string Q) (.int .i64 a) (.int .i64 b) 126
    clear hp1 hk1 hb1 HP0 HK0
    go_wp2_with fail
    refine (HCl.out _).mono ?_
    rintro e w2 ⟨rfl, hb2⟩
    have hx : w.heap.size + 1 < (w1.alloc (.cells #[.string P, .string Q, .int .i64 a, .int .i64 b] 126)).heap.size := by simp; omega
    have hk2 := (hb2.block (w.heap.size + 1) hx).trans (((below_agg4 w1 (.string P) (.string Q) (.int .i64 a) (.int .i64 b) 126).block (w.heap.size + 1) hs0).trans HK1.out)
    have HB2 := Lib.hid (bstep HB1.out (bstep (below_agg4 _ _ _ _ _ _) hb2))
    have hs2 : w.heap.size + 1 < w2.heap.size := Nat.lt_of_lt_of_le hx hb2.size
    have HK2 := Lib.hid hk2
    clear r0 r1 r2 f0 f1 f2
    obtain ⟨r0, r1, r2, f0, f1, f2⟩ := three_facts hk2
    clear hb2 hx hk2 o0 o1 o2 q0 q1 q2 q3
    go_wp2_with fail
    refine ret_cell (A := ⟨w.heap.size + 1, 0, none⟩) rfl (load_rrep _ _ _ _ _ _ ((heap_alloc_old _ _ (by simp; omega)).trans (three_set HK2.out _ _ _))) rfl rfl ?_
    rw [HR.out.1, HR.out.2.1, HR.out.2.2]
    exact ⟨none, 0, rfl, ⟨0, World.ownsRow_nil _ _ _ _⟩, (three_below HB2.out _ (by omega) _ _ _).alloc (by have := HB2.out.size; simp; omega) _⟩
  subst h5
  have hR : C = 206 := by rw [HCK.out, if_neg (fun e => e rfl)]
  obtain ⟨g1, g2, g3, g4, g5⟩ := HPR.out hR
  have HR : Hid (C = 206 ∧ F = [(crangeK, toldL A B (f.size : Int))] ∧ Y = f.extract A.toNat (B + 1).toNat) := Lib.hid ⟨hR, g4, g5⟩
  have HT := Lib.hid (fun w => ref_told A B (f.size : Int) w)
  obtain ⟨V, hV⟩ : ∃ V, bs (toldL A B (f.size : Int)) = V := ⟨_, rfl⟩
  rw [hV] at HT
  have HV := Lib.hid hV
  generalize toldE A B (f.size : Int) = TE at HT
  clear h2 h3 h4 hK hE1 hn ha hb hR g4 g5 hV HPR HO
  go_enter Tryz.func39, Tryz.ntmps39
  go_wp2_with fail
  generalize ((w.alloc (.cells #[.string h, .string p, .string f] 23)).alloc (.cells #[.int .i64 0, .slice none 0 0, .string ⟨#[]⟩] 95)) = W0 at HB0 HP0 HK0 HSZ ⊢
  refine (HA.out _).mono ?_
  rintro e w1 ⟨rfl, hb1⟩
  have hp1 := (hb1.block w.heap.size (by have := HSZ.out; omega)).trans HP0.out
  have hk1 := (hb1.block (w.heap.size + 1) (by have := HSZ.out; omega)).trans HK0.out
  have HB1 := Lib.hid (bstep HB0.out hb1)
  have hs0 : w.heap.size + 1 < w1.heap.size := by have := hb1.size; have := HSZ.out; omega
  have hs1 : w.heap.size < w1.heap.size := by omega
  obtain ⟨o0, o1, o2, -, -, -⟩ := three_facts hp1
  obtain ⟨r0, r1, r2, f0, f1, f2⟩ := three_facts hk1
  have HP1 := Lib.hid hp1
  have HK1 := Lib.hid hk1
  obtain ⟨q0, q1, q2, q3⟩ := box4 w1 (.string P) (.string Q) (.int .i64 a) (.int .i64 b) 126
  clear hp1 hk1 hb1 HP0 HK0
  go_wp2_with fail
  refine (HCl.out _).mono ?_
  rintro e w2 ⟨rfl, hb2⟩
  have hx : w.heap.size + 1 < (w1.alloc (.cells #[.string P, .string Q, .int .i64 a, .int .i64 b] 126)).heap.size := by simp; omega
  have hk2 := (hb2.block (w.heap.size + 1) hx).trans (((below_agg4 w1 (.string P) (.string Q) (.int .i64 a) (.int .i64 b) 126).block (w.heap.size + 1) hs0).trans HK1.out)
  have hp2 := (hb2.block w.heap.size (by omega)).trans (((below_agg4 w1 (.string P) (.string Q) (.int .i64 a) (.int .i64 b) 126).block w.heap.size hs1).trans HP1.out)
  have HB2 := Lib.hid (bstep HB1.out (bstep (below_agg4 _ _ _ _ _ _) hb2))
  have hs2 : w.heap.size + 1 < w2.heap.size := Nat.lt_of_lt_of_le hx hb2.size
  have hs3 : w.heap.size < w2.heap.size := by omega
  have HK2 := Lib.hid hk2
  have HP2 := Lib.hid hp2
  clear r0 r1 r2 f0 f1 f2 o0 o1 o2
  obtain ⟨o0, o1, o2, -, -, -⟩ := three_facts hp2
  obtain ⟨k0, k1⟩ := box2 w2 (.int .i64 A) (.int .i64 B) 124
  clear hb2 hx hk2 hp2 q0 q1 q2 q3
  go_wp2_with fail
  refine (HT.out _).mono ?_
  rintro e w3 ⟨rfl, hb3⟩
  have hy : w.heap.size + 1 < (w2.alloc (.cells #[.int .i64 A, .int .i64 B] 124)).heap.size := by simp; omega
  have hk3 := (hb3.block (w.heap.size + 1) hy).trans (((below_agg2 w2 (.int .i64 A) (.int .i64 B) 124).block (w.heap.size + 1) hs2).trans HK2.out)
  have hp3 := (hb3.block w.heap.size (by omega)).trans (((below_agg2 w2 (.int .i64 A) (.int .i64 B) 124).block w.heap.size hs3).trans HP2.out)
  have hz : w2.heap.size < (w2.alloc (.cells #[.int .i64 A, .int .i64 B] 124)).heap.size := by simp
  have k0' := (hb3.cell (p := ⟨w2.heap.size, 0, none⟩) hz).trans k0
  have k1' := (hb3.cell (p := ⟨w2.heap.size, 1, none⟩) hz).trans k1
  have HB3 := Lib.hid (bstep HB2.out (bstep (below_agg2 _ _ _ _) hb3))
  have hs4 : w.heap.size + 1 < w3.heap.size := Nat.lt_of_lt_of_le hy hb3.size
  have hs5 : w.heap.size < w3.heap.size := by omega
  have hs6 : w2.heap.size < w3.heap.size := Nat.lt_of_lt_of_le hz hb3.size
  have HK3 := Lib.hid hk3
  clear o0 o1 o2 k0 k1
  obtain ⟨o0, o1, o2, -, -, -⟩ := three_facts hp3
  obtain ⟨r0, r1, r2, f0, f1, f2⟩ := three_facts hk3
  clear hb3 hy hz hk3 hp3
  go_wp2_with fail
  refine ret_cell (A := ⟨w.heap.size + 1, 0, none⟩) rfl (load_rrep _ _ _ _ _ _ ((heap_alloc_old _ _ (by simp; omega)).trans (three_set HK3.out _ _ _))) rfl rfl ?_
  rw [HR.out.1, HR.out.2.1, HR.out.2.2]
  refine ⟨_, _, rfl, ⟨0, ?_⟩, ?_⟩
  · have := own_one_at (((w3.setCell ⟨w.heap.size + 1, 0, none⟩ (.int .i64 206)).setCell ⟨w.heap.size + 1, 1, none⟩ (.slice (some ⟨w3.heap.size, 0, none⟩) 1 1)).setCell ⟨w.heap.size + 1, 2, none⟩ (.string (f.extract A.toNat (B + 1).toNat))) w3.heap.size (by simp) (.string (bs crangeK)) (.string (bs (toldL A B (f.size : Int)))) 102
    rw [HV.out] at this
    have e : fcells [(crangeK, toldL A B (f.size : Int))] = [.string (bs crangeK), .string V] := by rw [← HV.out]; rfl
    rw [e]
    exact this
  · exact (three_below HB3.out _ (by omega) _ _ _).alloc (by have := HB3.out.size; simp; omega) _
set_option maxRecDepth 100000 in
set_option maxHeartbeats 4000000 in
theorem ref_oAnswer (h p f s : ByteArray) (w : World) (hh : h.size ≤ 9223372036854775807) (hp : p.size ≤ 9223372036854775807) (hs : s.size ≤ 1000000) (hf : f.size ≤ 1000000) :
    Calls Tryz.prog 29 #[.agg #[.string h, .string p, .string f], .string s] w fun e w' => e = .returned (.string (bs (orgS h.data.toList p.data.toList f.data.toList s))) ∧ Below w.heap.size w w' := by
  have HC := Lib.hid (fun w => ref_ocheck h p f w hh hp)
  have HS := Lib.hid (fun w => ref_oanswer h p f s w hs hf)
  have HB0 := Lib.hid (below_ro3 w (.string h) (.string p) (.string f))
  have HP0 := Lib.hid (heap_alloc_new w (.cells #[.string h, .string p, .string f] 23))
  have HSZ : Hid ((w.alloc (.cells #[.string h, .string p, .string f] 23)).heap.size = w.heap.size + 1) := Lib.hid (by simp)
  obtain ⟨o0, o1, o2, -, -, -⟩ := three_facts HP0.out
  by_cases he : orgE h.data.toList p.data.toList = 0
  case neg =>
    have HR : Hid (orgS h.data.toList p.data.toList f.data.toList s = []) := Lib.hid (by unfold orgS; rw [if_neg he])
    have tz : ((orgE h.data.toList p.data.toList : Int) != 0) = true := by rw [bne_iff_ne]; omega
    generalize orgE h.data.toList p.data.toList = E at HC tz
    clear he
    go_enter Tryz.func29, Tryz.ntmps29
    go_wp2_with fail
    refine (HC.out _).mono ?_
    rintro e w1 ⟨rfl, hb1⟩
    go_wp2_with fail
    go_ret
    exact ⟨by rw [HR.out]; rfl, bstep HB0.out hb1⟩
  rw [he] at HC
  have HR : Hid (orgS h.data.toList p.data.toList f.data.toList s = repS (orgC h.data.toList p.data.toList f.data.toList s) (orgF h.data.toList p.data.toList f.data.toList s) (orgY h.data.toList p.data.toList f.data.toList s)) := Lib.hid (by unfold orgS; rw [if_pos he])
  have hc4 := orgC_four h.data.toList p.data.toList f.data.toList s
  have hYl := orgY_len h.data.toList p.data.toList f.data.toList s
  rw [size_len] at hYl
  have hFb := orgF_bd h.data.toList p.data.toList f.data.toList s
  generalize orgC h.data.toList p.data.toList f.data.toList s = C at HS HR hc4
  generalize orgF h.data.toList p.data.toList f.data.toList s = F at HS HR hFb
  generalize orgY h.data.toList p.data.toList f.data.toList s = Y at HS HR hYl
  have HPr := Lib.hid (fun W fv hO => ref_rprint C fv F (bs Y) W (by omega) (by omega) hO (by omega) hFb.2 (by rw [bs_size]; omega))
  rw [bs_data] at HPr
  unfold RPost at HPr
  unfold PartPost at HS
  generalize bs Y = YB at HS HPr
  clear he hc4 hYl hFb
  go_enter Tryz.func29, Tryz.ntmps29
  go_wp2_with fail
  refine (HC.out _).mono ?_
  rintro e w1 ⟨rfl, hb1⟩
  have hp1 := (hb1.block w.heap.size (by have := HSZ.out; omega)).trans HP0.out
  have HB1 := Lib.hid (bstep HB0.out hb1)
  clear hb1 o0 o1 o2
  obtain ⟨o0, o1, o2, -, -, -⟩ := three_facts hp1
  clear hp1
  go_wp2_with fail
  refine (HS.out _).mono ?_
  rintro e w3 ⟨a3, c3, rfl, ⟨BB, hO⟩, hb3⟩
  have HB3 := Lib.hid (bstep HB1.out hb3)
  have HO := Lib.hid (HoldsF.of_own hO)
  clear hb3 hO o0 o1 o2
  go_wp2_with fail
  refine (HPr.out _ _ HO.out).mono ?_
  rintro e w4 ⟨rfl, hb4⟩
  go_wp2_with fail
  go_ret
  exact ⟨by rw [HR.out]; rfl, bstep HB3.out hb4⟩
theorem field_rcode (c : Int) (y z : Value) (w : World) : (Instr.field 95 (.agg #[.int .i64 c, y, z]) 0).run Tryz.prog w = .ok (.int .i64 c) w := by kernel_rfl
end Go.Proofs.YthcomjhpjlcpdaaGreatDoor
namespace Go.Proofs.YthcomjhpjlcpdaaGreatDoor
open Go.RowKit
def a27 : List UInt8 := [72, 84, 84, 80, 47, 49, 46, 49, 32, 50, 48, 54, 32, 80, 97, 114, 116, 105, 97, 108, 32, 67, 111, 110, 116, 101, 110, 116, 13, 10, 67, 111, 110, 116, 101, 110, 116, 45, 76, 101, 110, 103, 116, 104, 58, 32, 50, 13, 10, 67, 111, 110, 116, 101, 110, 116, 45, 82, 97, 110, 103, 101, 58, 32, 98, 121, 116, 101, 115, 32, 49, 45, 50, 47, 51, 13, 10, 13, 10, 98, 99]
def q27 : ByteArray := ⟨#[71, 69, 84, 32, 47, 102, 32, 72, 84, 84, 80, 47, 49, 46, 49, 13, 10, 72, 111, 115, 116, 58, 32, 104, 13, 10, 82, 97, 110, 103, 101, 58, 32, 98, 121, 116, 101, 115, 61, 49, 45, 57, 13, 10, 13, 10]⟩
def r27 : ByteArray := ⟨#[71, 69, 84, 32, 47, 103, 32, 72, 84, 84, 80, 47, 49, 46, 49, 13, 10, 72, 111, 115, 116, 58, 32, 104, 13, 10, 82, 97, 110, 103, 101, 58, 32, 98, 121, 116, 101, 115, 61, 49, 45, 57, 13, 10, 13, 10]⟩
set_option maxRecDepth 100000 in
theorem aw27_c : orgE [104] [47, 102] = 0 ∧ orgC [104] [47, 102] [97, 98, 99] q27 = 206 ∧ orgA [97, 98, 99] q27 = 1 ∧ orgB [97, 98, 99] q27 = 2 := by decide +kernel
set_option maxRecDepth 100000 in
theorem aw27_d : orgK [104] [47, 102] [97, 98, 99] ⟨#[120]⟩ = 400 ∧ orgK [104] [47, 102] [97, 98, 99] r27 = 404 := by decide +kernel
theorem aw27_e : orgE [] [] = 2 := by decide
theorem st206 : (printOf 206).data.toList = [72, 84, 84, 80, 47, 49, 46, 49, 32, 50, 48, 54, 32, 80, 97, 114, 116, 105, 97, 108, 32, 67, 111, 110, 116, 101, 110, 116] := by
  rw [printOf_line 206 (by decide) (by decide)]
  exact (statusLine_data 206 (by decide) (by decide)).trans (by decide +kernel)
theorem digL_one (n : Nat) (h : n < 10) : digL (n : Int) = [UInt8.ofNat (48 + n)] := by
  rw [digL_nat, Go.Lib.decDigits_one h]
theorem told123 : toldL 1 2 3 = [98, 121, 116, 101, 115, 32, 49, 45, 50, 47, 51] := by
  have h : toldE 1 2 3 = 0 := by decide
  unfold toldL textR
  rw [if_pos h, show (1 : Int) = ((1 : Nat) : Int) from rfl, show (2 : Int) = ((2 : Nat) : Int) from rfl, show (3 : Int) = ((3 : Nat) : Int) from rfl, digL_one 1 (by decide), digL_one 2 (by decide), digL_one 3 (by decide)]
  decide +kernel
theorem aw27_s : orgS [104] [47, 102] [97, 98, 99] q27 = a27 := by
  obtain ⟨h1, h2, h3, h4⟩ := aw27_c
  rw [orgS_eq _ _ _ _ (by decide) h1, h2]
  have hF : orgF [104] [47, 102] [97, 98, 99] q27 = [(crangeK, toldL 1 2 3)] := by
    unfold orgF; rw [if_pos h2, h3, h4]; rfl
  have hY : orgY [104] [47, 102] [97, 98, 99] q27 = [98, 99] := by
    unfold orgY; rw [if_pos h2, h3, h4]; rfl
  rw [hF, hY]
  unfold repL repLines
  rw [st206, told123, show (([98, 99] : List UInt8).length : Int) = ((2 : Nat) : Int) from rfl, digL_one 2 (by decide)]
  decide +kernel
theorem bs_q27 : bs (orgS (ByteArray.mk #[104]).data.toList (ByteArray.mk #[47, 102]).data.toList (ByteArray.mk #[97, 98, 99]).data.toList q27) = bs a27 := congrArg bs aw27_s
theorem bs_e27 : bs (orgS (ByteArray.mk #[]).data.toList (ByteArray.mk #[]).data.toList (ByteArray.mk #[]).data.toList ⟨#[120]⟩) = ⟨#[]⟩ := by
  unfold orgS
  rw [if_neg (by rw [show orgE (ByteArray.mk #[]).data.toList (ByteArray.mk #[]).data.toList = 2 from aw27_e]; decide)]
  rfl
end Go.Proofs.YthcomjhpjlcpdaaGreatDoor
namespace Go.Proofs.YthcomjhpjlcpdaaGreatDoor
open Go.RowKit
theorem overO_false (h p f : ByteArray) (m : Int) (hh : overO h.data.toList p.data.toList f.data.toList m = false) : h.size ≤ 300 ∧ p.size ≤ 300 ∧ (f.size : Int) ≤ m := by
  unfold overO at hh
  rw [Bool.or_eq_false_iff, Bool.or_eq_false_iff, decide_eq_false_iff_not, decide_eq_false_iff_not, decide_eq_false_iff_not, size_len, size_len, size_len] at hh
  omega
/-- an origin that lies in a block of its type -/
structure OAt (w : World) (b : Nat) (T : TypeId) (h p f : ByteArray) : Prop where
  blk : w.heap[b]? = some (.cells #[.string h, .string p, .string f] T (0, 0))
theorem OAt.lt {w : World} {b : Nat} {T : TypeId} {h p f : ByteArray} (k : OAt w b T h p f) : b < w.heap.size := (Array.getElem?_eq_some_iff.1 k.blk).1
theorem OAt.below {w w' : World} {b : Nat} {T : TypeId} {h p f : ByteArray} (k : OAt w b T h p f) (hb : Below w.heap.size w w') : OAt w' b T h p f := ⟨(hb.block b k.lt).trans k.blk⟩
theorem OAt.new (w : World) (T : TypeId) (h p f : ByteArray) : OAt (w.alloc (.cells #[.string h, .string p, .string f] T)) w.heap.size T h p f := ⟨heap_alloc_new w _⟩
theorem OAt.cells {w : World} {b : Nat} {T : TypeId} {h p f : ByteArray} (k : OAt w b T h p f) : w.cell? ⟨b, 0, none⟩ = some (.string h) ∧ w.cell? ⟨b, 1, none⟩ = some (.string p) ∧ w.cell? ⟨b, 2, none⟩ = some (.string f) :=
  let ⟨h0, h1, h2, _⟩ := three_facts k.blk; ⟨h0, h1, h2⟩
end Go.Proofs.YthcomjhpjlcpdaaGreatDoor
namespace Go.Proofs.YthcomjhpjlcpdaaGreatDoor
open Go.RowKit
theorem six_facts {w : World} {b : Nat} {x0 x1 x2 x3 x4 x5 : Value} {t : TypeId} (k : w.heap[b]? = some (.cells #[x0, x1, x2, x3, x4, x5] t (0, 0))) :
    (w.cell? ⟨b, 0, none⟩ = some x0 ∧ w.cell? ⟨b, 1, none⟩ = some x1 ∧ w.cell? ⟨b, 2, none⟩ = some x2 ∧ w.cell? ⟨b, 3, none⟩ = some x3 ∧ w.cell? ⟨b, 4, none⟩ = some x4 ∧ w.cell? ⟨b, 5, none⟩ = some x5) ∧ w.frozen? ⟨b, 3, none⟩ = false ∧ w.frozen? ⟨b, 4, none⟩ = false ∧ w.frozen? ⟨b, 5, none⟩ = false := by
  refine ⟨⟨?_, ?_, ?_, ?_, ?_, ?_⟩, ?_, ?_, ?_⟩ <;> first | (unfold World.cell?; rw [k]; rfl) | (unfold World.frozen?; rw [k]; rfl)
theorem six_set3 {w : World} {b : Nat} {x0 x1 x2 x3 x4 x5 : Value} {t : TypeId} (k : w.heap[b]? = some (.cells #[x0, x1, x2, x3, x4, x5] t (0, 0))) (y : Value) : (w.setCell ⟨b, 3, none⟩ y).heap[b]? = some (.cells #[x0, x1, x2, y, x4, x5] t (0, 0)) := by
  simp [World.setCell, Array.getElem?_modify, k]
theorem six_set4 {w : World} {b : Nat} {x0 x1 x2 x3 x4 x5 : Value} {t : TypeId} (k : w.heap[b]? = some (.cells #[x0, x1, x2, x3, x4, x5] t (0, 0))) (y : Value) : (w.setCell ⟨b, 4, none⟩ y).heap[b]? = some (.cells #[x0, x1, x2, x3, y, x5] t (0, 0)) := by
  simp [World.setCell, Array.getElem?_modify, k]
theorem six_set5 {w : World} {b : Nat} {x0 x1 x2 x3 x4 x5 : Value} {t : TypeId} (k : w.heap[b]? = some (.cells #[x0, x1, x2, x3, x4, x5] t (0, 0))) (y : Value) : (w.setCell ⟨b, 5, none⟩ y).heap[b]? = some (.cells #[x0, x1, x2, x3, x4, y] t (0, 0)) := by
  simp [World.setCell, Array.getElem?_modify, k]
/-- a builder in block b holds the text l -/
abbrev BIs (b : Nat) (l : List UInt8) (w : World) : Prop := Lib.IsBuilderF 187 5 b b (Lib.byteCells l) w
theorem BIs.below {b : Nat} {l : List UInt8} {w w' : World} (h : BIs b l w) (hb : Below w.heap.size w w') : BIs b l w' := Lib.IsBuilderF.below h hb
theorem BIs.fresh (w : World) : BIs w.heap.size [] (w.alloc (.cells #[.pointer none, .slice none 0 0] 187 (0, 0))) := Lib.IsBuilderF.of (Lib.fresh_isBuilder _ _ w)
theorem bat_keep {T e : TypeId} {b : Nat} {p : Value} {xs : List Value} {w w' : World} (h : Lib.BuilderAtF T e b b p xs w) (hk : ∀ g, b ≤ g → g < w.heap.size → w'.heap[g]? = w.heap[g]?) : Lib.BuilderAtF T e b b p xs w' := by
  obtain ⟨hB, v, hv, hown, hne⟩ := h
  refine ⟨hB, v, (hk b (Nat.le_refl _) (Array.getElem?_eq_some_iff.1 hv).1).trans hv, ⟨hown.1, ?_⟩, hne⟩
  rcases hown.2 with h0 | ⟨g, cap, cur, fz, h1, h2, h3, h4⟩
  · exact .inl h0
  · exact .inr ⟨g, cap, cur, fz, h1, h2, (hk g h2 (Array.getElem?_eq_some_iff.1 h3).1).trans h3, h4⟩
/-- what is written below the builder does not touch it -/
theorem BIs.keep {b : Nat} {l : List UInt8} {w w' : World} (h : BIs b l w) (hk : ∀ g, b ≤ g → g < w.heap.size → w'.heap[g]? = w.heap[g]?) : BIs b l w' :=
  h.elim (fun x => .inl (bat_keep x hk)) (fun x => .inr (bat_keep x hk))
theorem c_wstr (b : Nat) (l : List UInt8) (s : ByteArray) (w : World) (h : BIs b l w) (hl : l.length + s.size ≤ 1000000000) (hb : b ≤ w.heap.size) :
    Calls Tryz.prog 139 #[.pointer (some ⟨b, 0, none⟩), .string s] w fun e w' => e = .returned (.tuple #[.int .i64 s.size, .nilIface]) ∧ BIs b (l ++ s.data.toList) w' ∧ Below b w w' := by
  refine (c_writeString b (Lib.byteCells l) s w h (by rw [Lib.byteCells_length]; omega) hb).mono ?_
  rintro e w' ⟨rfl, ⟨h1, h2, -⟩, -⟩
  refine ⟨rfl, Or.inr ?_, h2⟩
  rw [Lib.byteCells_append, ← Lib.strCells_eq]; exact h1
end Go.Proofs.YthcomjhpjlcpdaaGreatDoor
