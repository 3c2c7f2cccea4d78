/- fault.Apply and fault.Harms. What a fault makes of a printed reply: one line is another one, or it is cut (no program in sight). The ends of lines in a text of lines, counted and cut at; how many lines are unlike (no program in sight). fault.Apply and fault.Harms at any kind. The document's Apply. The document's Apply: another range, another second line, no fault. Plain words on what is told of a range (no program in sight). The small example of the laws of layer 26. -/
import Derived.Test.YtbdmmgmcbecolaaGreatDoorPu10
import Derived.Laws.EntriesVeiled
import Derived.Deep.WholeRow
import Derived.Lib.SplitLaws
set_option linter.unusedVariables false
set_option linter.unusedSimpArgs false
namespace Go.Proofs.YtbdmmgmcbecolaaGreatDoor
open Go.RowKit
def tableC : Array Value := #[.func (.func 127) #[] #[], .bool true, .func (.func 128) #[] #[], .bool true, .func (.func 129) #[] #[], .bool true, .func (.func 130) #[] #[], .bool false, .func (.func 131) #[] #[], .bool false, .func (.func 132) #[] #[], .bool false]
set_option maxRecDepth 100000 in
set_option maxHeartbeats 2000000 in
theorem fault_table (w : World) : Calls Tryz.prog 94 #[] w fun e w' => e = .returned (.agg tableC) ∧ Below w.heap.size w w' := by
  go_enter Tryz.func94, Tryz.ntmps94
  go_wp2_with fail
  refine ret_cell (A := ⟨w.heap.size, 0, none⟩) rfl (run_loadVar_new w 205 tableC 6 204 Tryz.underlying205 (by kernel_rfl)) rfl rfl ?_
  exact ⟨rfl, (Below.refl _ _).alloc (Nat.le_refl _) _⟩
theorem twoc_facts {w : World} {b : Nat} {x y : Value} {t : TypeId} (h : w.heap[b]? = some (.cells #[x, y] t (0, 0))) :
    w.cell? ⟨b, 0, none⟩ = some x ∧ w.cell? ⟨b, 1, none⟩ = some y ∧ w.frozen? ⟨b, 0, none⟩ = false ∧ w.frozen? ⟨b, 1, none⟩ = false := by
  refine ⟨?_, ?_, ?_, ?_⟩
  · unfold World.cell?; rw [h]; rfl
  · unfold World.cell?; rw [h]; rfl
  · unfold World.frozen?; rw [h]; simp
  · unfold World.frozen?; rw [h]; simp
structure TD (W0 W1 : World) (X D : Nat) (k n : Int) (t : ByteArray) (x y : Value) : Prop where
  blk : W1.heap[D]? = some (.cells #[x, y] 204 (0, 0))
  bel : Below W0.heap.size W0 W1
  arg : W1.heap[X]? = some (.cells #[.int .u8 k, .int .i64 n, .string t] 65 (0, 0))
theorem TD.new {W0 wa : World} {X : Nat} {k n : Int} {t : ByteArray} (hb : Below W0.heap.size W0 wa) (hX : X < W0.heap.size) (ha : W0.heap[X]? = some (.cells #[.int .u8 k, .int .i64 n, .string t] 65 (0, 0))) (x y : Value) : TD W0 (wa.alloc (.cells #[x, y] 204)) X wa.heap.size k n t x y where
  blk := heap_alloc_new wa _
  bel := hb.alloc hb.size _
  arg := ((hb.alloc hb.size _).block X hX).trans ha
theorem TD.set {W0 wa : World} {X : Nat} {k n : Int} {t : ByteArray} (hb : Below W0.heap.size W0 wa) (hX : X < W0.heap.size) (ha : W0.heap[X]? = some (.cells #[.int .u8 k, .int .i64 n, .string t] 65 (0, 0))) {x0 y0 : Value} (hz : wa.heap[W0.heap.size]? = some (.cells #[x0, y0] 204 (0, 0))) (x y : Value) : TD W0 ((wa.setCell ⟨W0.heap.size, 0, none⟩ x).setCell ⟨W0.heap.size, 1, none⟩ y) X W0.heap.size k n t x y where
  blk := two_set hz x y
  bel := two_below hb _ (Nat.le_refl _) x y
  arg := ((two_below hb _ (Nat.le_refl _) x y).block X hX).trans ha
theorem TD.below {W0 W1 W2 : World} {X D : Nat} {k n : Int} {t : ByteArray} {x y : Value} (h : TD W0 W1 X D k n t x y) (hX : X < W0.heap.size) (hb : Below W1.heap.size W1 W2) : TD W0 W2 X D k n t x y where
  blk := (hb.block D (Array.getElem?_eq_some_iff.1 h.blk).1).trans h.blk
  bel := bstep h.bel hb
  arg := (hb.block X (Nat.lt_of_lt_of_le hX h.bel.size)).trans h.arg
theorem head_some (s : ByteArray) (w : World) (hs : s.size ≤ 1000000) : Calls Tryz.prog 73 #[.string s] w fun e w' => ∃ a c, e = .returned (.tuple #[.slice a (headOf s).1.length c, .int .i64 (headOf s).2.1, .int .i64 (headOf s).2.2]) ∧ HoldsS w' (.slice a (headOf s).1.length c) (headOf s).1 ∧ Below w.heap.size w w' := by
  refine (lines_head s w (by omega)).mono ?_
  rintro e w' ⟨v, rfl, ho, hb⟩
  obtain ⟨a, c, rfl⟩ := slice_of_own ho
  exact ⟨a, c, rfl, HoldsS.of_own ho, hb⟩
theorem table_at0 (w : World) : (Instr.index 205 (.agg tableC) (.int .u8 0)).run Tryz.prog w = .ok (.agg #[.func (.func 127) #[] #[], .bool true]) w := by kernel_rfl
theorem table_at1 (w : World) : (Instr.index 205 (.agg tableC) (.int .u8 1)).run Tryz.prog w = .ok (.agg #[.func (.func 128) #[] #[], .bool true]) w := by kernel_rfl
theorem table_at2 (w : World) : (Instr.index 205 (.agg tableC) (.int .u8 2)).run Tryz.prog w = .ok (.agg #[.func (.func 129) #[] #[], .bool true]) w := by kernel_rfl
theorem table_at3 (w : World) : (Instr.index 205 (.agg tableC) (.int .u8 3)).run Tryz.prog w = .ok (.agg #[.func (.func 130) #[] #[], .bool false]) w := by kernel_rfl
theorem table_at4 (w : World) : (Instr.index 205 (.agg tableC) (.int .u8 4)).run Tryz.prog w = .ok (.agg #[.func (.func 131) #[] #[], .bool false]) w := by kernel_rfl
theorem table_at5 (w : World) : (Instr.index 205 (.agg tableC) (.int .u8 5)).run Tryz.prog w = .ok (.agg #[.func (.func 132) #[] #[], .bool false]) w := by kernel_rfl
set_option maxRecDepth 100000 in
set_option maxHeartbeats 4000000 in
theorem apply_keep (n : Int) (t s : ByteArray) (w : World) (hE : EnvW w) (h0 : -9223372036854775808 ≤ n) (h1 : n ≤ 9223372036854775807) (ht : t.size ≤ 10000) (hs : s.size ≤ 1000000) :
    Calls Tryz.prog 63 #[.agg #[.int .u8 0, .int .i64 n, .string t], .string s] w fun e w' => e = .returned (.string s) ∧ Below w.heap.size w w' := by
  have HF := Lib.hid (fun v W => fault_keep 0 n t s v W)
  have B0 := below_agg3 w (.int .u8 0) (.int .i64 n) (.string t) 65
  have HT := Lib.hid fault_table
  have HH := Lib.hid (fun W => head_some s W hs)
  have hix := table_at0
  have HE0 := Lib.hid (hE.below B0)
  have HS : Hid (∀ W, Below (w.alloc (.cells #[.int .u8 0, .int .i64 n, .string t] 65)).heap.size (w.alloc (.cells #[.int .u8 0, .int .i64 n, .string t] 65)) W → W.cell? ⟨w.heap.size, 0, none⟩ = some (.int .u8 0) ∧ W.cell? ⟨w.heap.size, 1, none⟩ = some (.int .i64 n) ∧ W.cell? ⟨w.heap.size, 2, none⟩ = some (.string t)) := Lib.hid (fun W hW => by
    obtain ⟨x0, x1, x2, -, -, -⟩ := three_facts ((hW.block w.heap.size (by simp)).trans (heap_alloc_new w _))
    exact ⟨x0, x1, x2⟩)
  have HB0 := Lib.hid B0
  have HXB : Hid ((w.alloc (.cells #[.int .u8 0, .int .i64 n, .string t] 65)).heap[w.heap.size]? = some (.cells #[.int .u8 0, .int .i64 n, .string t] 65 (0, 0))) := Lib.hid (heap_alloc_new w _)
  have hX0 : w.heap.size < (w.alloc (.cells #[.int .u8 0, .int .i64 n, .string t] 65)).heap.size := by simp
  have HX0 := Lib.hid hX0
  clear B0 hE hX0
  go_enter Tryz.func63, Tryz.ntmps63
  go_wp2_with fail
  generalize w.alloc (.cells #[.int .u8 0, .int .i64 n, .string t] 65) = W0 at HE0 HS HB0 HX0 HXB ⊢
  generalize w.heap.size = X at HS HX0 HXB ⊢
  have HDr : Hid (Below W0.heap.size W0 W0.drew) := Lib.hid (Below.refl _ _).drew
  have HA0 : Hid (Below W0.heap.size W0 (W0.alloc (.cells #[.nilFunc, .bool false] 204)).drew) := Lib.hid ((Below.refl _ _).alloc (Nat.le_refl _) _).drew
  go_region_held3 (fun w' => w'.cell? ⟨X, 0, none⟩ = some (.int .u8 0)) (first | exact (HS.out _ HDr.out).1 | exact (HS.out _ HA0.out).1 | exact (HS.out _ HA1.out).1 | exact (HS.out _ (HA1.out.alloc HA1.out.size _)).1 | exact (HS.out _ (two_below HA1.out _ (Nat.le_refl _) _ _)).1 | exact (HS.out _ (two_below (HA1.out.alloc HA1.out.size _) _ HA1.out.size _ _)).1)
    (first
      | (go_at_call 94; (refine (HT.out _).mono ?_); rintro e wa ⟨rfl, hba⟩; (first | (have HA1 : Hid (Below W0.heap.size W0 wa) := Lib.hid (bstep HDr.out hba)) | (have HA1 : Hid (Below W0.heap.size W0 wa) := Lib.hid (bstep HA0.out hba); have HZ := Lib.hid ((hba.block W0.heap.size (by simp)).trans (heap_alloc_new W0 _)); obtain ⟨z0, z1, f0, f1⟩ := twoc_facts HZ.out)); clear hba))
  all_goals
    first
      | (have HD := Lib.hid (TD.set HA1.out HX0.out HXB.out HZ.out (.func (.func 127) #[] #[]) (.bool true)); clear z0 z1 f0 f1; generalize (wa.setCell ⟨W0.heap.size, 0, none⟩ (.func (.func 127) #[] #[])).setCell ⟨W0.heap.size, 1, none⟩ (.bool true) = W1 at HD ⊢; generalize W0.heap.size = D at HD ⊢)
      | (have HD := Lib.hid (TD.new HA1.out HX0.out HXB.out (.func (.func 127) #[] #[]) (.bool true)); generalize wa.alloc (.cells #[.func (.func 127) #[] #[], .bool true] 204) = W1 at HD ⊢; generalize wa.heap.size = D at HD ⊢)
  all_goals
    clear HS HA1 HDr HA0 hix HT
    obtain ⟨d0, d1, -, -⟩ := twoc_facts HD.out.blk
    obtain ⟨x0, x1, x2, -, -, -⟩ := three_facts HD.out.arg
    go_wp2_with fail
    refine (HH.out _).mono ?_
    rintro e W2 ⟨al, cl, rfl, hhs, hb2⟩
    have HD2 := Lib.hid (HD.out.below HX0.out hb2)
    have HHS := Lib.hid hhs
    have HW2 := Lib.hid (bstep HB0.out HD2.out.bel)
    have HE2 := Lib.hid (HE0.out.below HD2.out.bel)
    clear d0 d1 x0 x1 x2 hb2 hhs HH
    obtain ⟨d0, d1, -, -⟩ := twoc_facts HD2.out.blk
    obtain ⟨x0, x1, x2, -, -, -⟩ := three_facts HD2.out.arg
    go_wp2_with fail
    refine (HF.out _ _).mono ?_
    rintro e W3 ⟨rfl, hb3⟩
    have HB3 := Lib.hid hb3
    clear hb3
    go_wp2_with fail
    go_ret
    exact ⟨rfl, bstep HW2.out HB3.out⟩
set_option maxRecDepth 100000 in
set_option maxHeartbeats 4000000 in
theorem apply_shut (n : Int) (t s : ByteArray) (w : World) (hE : EnvW w) (h0 : -9223372036854775808 ≤ n) (h1 : n ≤ 9223372036854775807) (ht : t.size ≤ 10000) (hs : s.size ≤ 1000000) :
    Calls Tryz.prog 63 #[.agg #[.int .u8 1, .int .i64 n, .string t], .string s] w fun e w' => e = .returned (.string ⟨#[]⟩) ∧ Below w.heap.size w w' := by
  have HF := Lib.hid (fun v W => fault_shut 1 n t s v W)
  have B0 := below_agg3 w (.int .u8 1) (.int .i64 n) (.string t) 65
  have HT := Lib.hid fault_table
  have HH := Lib.hid (fun W => head_some s W hs)
  have hix := table_at1
  have HE0 := Lib.hid (hE.below B0)
  have HS : Hid (∀ W, Below (w.alloc (.cells #[.int .u8 1, .int .i64 n, .string t] 65)).heap.size (w.alloc (.cells #[.int .u8 1, .int .i64 n, .string t] 65)) W → W.cell? ⟨w.heap.size, 0, none⟩ = some (.int .u8 1) ∧ W.cell? ⟨w.heap.size, 1, none⟩ = some (.int .i64 n) ∧ W.cell? ⟨w.heap.size, 2, none⟩ = some (.string t)) := Lib.hid (fun W hW => by
    obtain ⟨x0, x1, x2, -, -, -⟩ := three_facts ((hW.block w.heap.size (by simp)).trans (heap_alloc_new w _))
    exact ⟨x0, x1, x2⟩)
  have HB0 := Lib.hid B0
  have HXB : Hid ((w.alloc (.cells #[.int .u8 1, .int .i64 n, .string t] 65)).heap[w.heap.size]? = some (.cells #[.int .u8 1, .int .i64 n, .string t] 65 (0, 0))) := Lib.hid (heap_alloc_new w _)
  have hX0 : w.heap.size < (w.alloc (.cells #[.int .u8 1, .int .i64 n, .string t] 65)).heap.size := by simp
  have HX0 := Lib.hid hX0
  clear B0 hE hX0
  go_enter Tryz.func63, Tryz.ntmps63
  go_wp2_with fail
  generalize w.alloc (.cells #[.int .u8 1, .int .i64 n, .string t] 65) = W0 at HE0 HS HB0 HX0 HXB ⊢
  generalize w.heap.size = X at HS HX0 HXB ⊢
  have HDr : Hid (Below W0.heap.size W0 W0.drew) := Lib.hid (Below.refl _ _).drew
  have HA0 : Hid (Below W0.heap.size W0 (W0.alloc (.cells #[.nilFunc, .bool false] 204)).drew) := Lib.hid ((Below.refl _ _).alloc (Nat.le_refl _) _).drew
  go_region_held3 (fun w' => w'.cell? ⟨X, 0, none⟩ = some (.int .u8 1)) (first | exact (HS.out _ HDr.out).1 | exact (HS.out _ HA0.out).1 | exact (HS.out _ HA1.out).1 | exact (HS.out _ (HA1.out.alloc HA1.out.size _)).1 | exact (HS.out _ (two_below HA1.out _ (Nat.le_refl _) _ _)).1 | exact (HS.out _ (two_below (HA1.out.alloc HA1.out.size _) _ HA1.out.size _ _)).1)
    (first
      | (go_at_call 94; (refine (HT.out _).mono ?_); rintro e wa ⟨rfl, hba⟩; (first | (have HA1 : Hid (Below W0.heap.size W0 wa) := Lib.hid (bstep HDr.out hba)) | (have HA1 : Hid (Below W0.heap.size W0 wa) := Lib.hid (bstep HA0.out hba); have HZ := Lib.hid ((hba.block W0.heap.size (by simp)).trans (heap_alloc_new W0 _)); obtain ⟨z0, z1, f0, f1⟩ := twoc_facts HZ.out)); clear hba))
  all_goals
    first
      | (have HD := Lib.hid (TD.set HA1.out HX0.out HXB.out HZ.out (.func (.func 128) #[] #[]) (.bool true)); clear z0 z1 f0 f1; generalize (wa.setCell ⟨W0.heap.size, 0, none⟩ (.func (.func 128) #[] #[])).setCell ⟨W0.heap.size, 1, none⟩ (.bool true) = W1 at HD ⊢; generalize W0.heap.size = D at HD ⊢)
      | (have HD := Lib.hid (TD.new HA1.out HX0.out HXB.out (.func (.func 128) #[] #[]) (.bool true)); generalize wa.alloc (.cells #[.func (.func 128) #[] #[], .bool true] 204) = W1 at HD ⊢; generalize wa.heap.size = D at HD ⊢)
  all_goals
    clear HS HA1 HDr HA0 hix HT
    obtain ⟨d0, d1, -, -⟩ := twoc_facts HD.out.blk
    obtain ⟨x0, x1, x2, -, -, -⟩ := three_facts HD.out.arg
    go_wp2_with fail
    refine (HH.out _).mono ?_
    rintro e W2 ⟨al, cl, rfl, hhs, hb2⟩
    have HD2 := Lib.hid (HD.out.below HX0.out hb2)
    have HHS := Lib.hid hhs
    have HW2 := Lib.hid (bstep HB0.out HD2.out.bel)
    have HE2 := Lib.hid (HE0.out.below HD2.out.bel)
    clear d0 d1 x0 x1 x2 hb2 hhs HH
    obtain ⟨d0, d1, -, -⟩ := twoc_facts HD2.out.blk
    obtain ⟨x0, x1, x2, -, -, -⟩ := three_facts HD2.out.arg
    go_wp2_with fail
    refine (HF.out _ _).mono ?_
    rintro e W3 ⟨rfl, hb3⟩
    have HB3 := Lib.hid hb3
    clear hb3
    go_wp2_with fail
    go_ret
    exact ⟨rfl, bstep HW2.out HB3.out⟩
set_option maxRecDepth 100000 in
set_option maxHeartbeats 4000000 in
theorem apply_cut (n : Int) (t s : ByteArray) (w : World) (hE : EnvW w) (h0 : -9223372036854775808 ≤ n) (h1 : n ≤ 9223372036854775807) (ht : t.size ≤ 10000) (hs : s.size ≤ 1000000) :
    Calls Tryz.prog 63 #[.agg #[.int .u8 2, .int .i64 n, .string t], .string s] w fun e w' => e = .returned (.string (bs ((s.data.toList.take (max 0 (min n (s.size : Int))).toNat)))) ∧ Below w.heap.size w w' := by
  have HF := Lib.hid (fun v W => fault_cut 2 n t s v W)
  have B0 := below_agg3 w (.int .u8 2) (.int .i64 n) (.string t) 65
  have HT := Lib.hid fault_table
  have HH := Lib.hid (fun W => head_some s W hs)
  have hix := table_at2
  have HE0 := Lib.hid (hE.below B0)
  have HS : Hid (∀ W, Below (w.alloc (.cells #[.int .u8 2, .int .i64 n, .string t] 65)).heap.size (w.alloc (.cells #[.int .u8 2, .int .i64 n, .string t] 65)) W → W.cell? ⟨w.heap.size, 0, none⟩ = some (.int .u8 2) ∧ W.cell? ⟨w.heap.size, 1, none⟩ = some (.int .i64 n) ∧ W.cell? ⟨w.heap.size, 2, none⟩ = some (.string t)) := Lib.hid (fun W hW => by
    obtain ⟨x0, x1, x2, -, -, -⟩ := three_facts ((hW.block w.heap.size (by simp)).trans (heap_alloc_new w _))
    exact ⟨x0, x1, x2⟩)
  have HB0 := Lib.hid B0
  have HXB : Hid ((w.alloc (.cells #[.int .u8 2, .int .i64 n, .string t] 65)).heap[w.heap.size]? = some (.cells #[.int .u8 2, .int .i64 n, .string t] 65 (0, 0))) := Lib.hid (heap_alloc_new w _)
  have hX0 : w.heap.size < (w.alloc (.cells #[.int .u8 2, .int .i64 n, .string t] 65)).heap.size := by simp
  have HX0 := Lib.hid hX0
  clear B0 hE hX0
  go_enter Tryz.func63, Tryz.ntmps63
  go_wp2_with fail
  generalize w.alloc (.cells #[.int .u8 2, .int .i64 n, .string t] 65) = W0 at HE0 HS HB0 HX0 HXB ⊢
  generalize w.heap.size = X at HS HX0 HXB ⊢
  have HDr : Hid (Below W0.heap.size W0 W0.drew) := Lib.hid (Below.refl _ _).drew
  have HA0 : Hid (Below W0.heap.size W0 (W0.alloc (.cells #[.nilFunc, .bool false] 204)).drew) := Lib.hid ((Below.refl _ _).alloc (Nat.le_refl _) _).drew
  go_region_held3 (fun w' => w'.cell? ⟨X, 0, none⟩ = some (.int .u8 2)) (first | exact (HS.out _ HDr.out).1 | exact (HS.out _ HA0.out).1 | exact (HS.out _ HA1.out).1 | exact (HS.out _ (HA1.out.alloc HA1.out.size _)).1 | exact (HS.out _ (two_below HA1.out _ (Nat.le_refl _) _ _)).1 | exact (HS.out _ (two_below (HA1.out.alloc HA1.out.size _) _ HA1.out.size _ _)).1)
    (first
      | (go_at_call 94; (refine (HT.out _).mono ?_); rintro e wa ⟨rfl, hba⟩; (first | (have HA1 : Hid (Below W0.heap.size W0 wa) := Lib.hid (bstep HDr.out hba)) | (have HA1 : Hid (Below W0.heap.size W0 wa) := Lib.hid (bstep HA0.out hba); have HZ := Lib.hid ((hba.block W0.heap.size (by simp)).trans (heap_alloc_new W0 _)); obtain ⟨z0, z1, f0, f1⟩ := twoc_facts HZ.out)); clear hba))
  all_goals
    first
      | (have HD := Lib.hid (TD.set HA1.out HX0.out HXB.out HZ.out (.func (.func 129) #[] #[]) (.bool true)); clear z0 z1 f0 f1; generalize (wa.setCell ⟨W0.heap.size, 0, none⟩ (.func (.func 129) #[] #[])).setCell ⟨W0.heap.size, 1, none⟩ (.bool true) = W1 at HD ⊢; generalize W0.heap.size = D at HD ⊢)
      | (have HD := Lib.hid (TD.new HA1.out HX0.out HXB.out (.func (.func 129) #[] #[]) (.bool true)); generalize wa.alloc (.cells #[.func (.func 129) #[] #[], .bool true] 204) = W1 at HD ⊢; generalize wa.heap.size = D at HD ⊢)
  all_goals
    clear HS HA1 HDr HA0 hix HT
    obtain ⟨d0, d1, -, -⟩ := twoc_facts HD.out.blk
    obtain ⟨x0, x1, x2, -, -, -⟩ := three_facts HD.out.arg
    go_wp2_with fail
    refine (HH.out _).mono ?_
    rintro e W2 ⟨al, cl, rfl, hhs, hb2⟩
    have HD2 := Lib.hid (HD.out.below HX0.out hb2)
    have HHS := Lib.hid hhs
    have HW2 := Lib.hid (bstep HB0.out HD2.out.bel)
    have HE2 := Lib.hid (HE0.out.below HD2.out.bel)
    clear d0 d1 x0 x1 x2 hb2 hhs HH
    obtain ⟨d0, d1, -, -⟩ := twoc_facts HD2.out.blk
    obtain ⟨x0, x1, x2, -, -, -⟩ := three_facts HD2.out.arg
    go_wp2_with fail
    refine (HF.out _ _).mono ?_
    rintro e W3 ⟨rfl, hb3⟩
    have HB3 := Lib.hid hb3
    clear hb3
    go_wp2_with fail
    go_ret
    exact ⟨rfl, bstep HW2.out HB3.out⟩
set_option maxRecDepth 100000 in
set_option maxHeartbeats 4000000 in
theorem apply_code (n : Int) (t s : ByteArray) (w : World) (hE : EnvW w) (h0 : -9223372036854775808 ≤ n) (h1 : n ≤ 9223372036854775807) (ht : t.size ≤ 10000) (hs : s.size ≤ 1000000) (hok : (headOf s).2.2 = 0 ∧ (headOf s).1.length ≠ 0) :
    Calls Tryz.prog 63 #[.agg #[.int .u8 3, .int .i64 n, .string t], .string s] w fun e w' => e = .returned (.string (bs (codeF n s))) ∧ Below w.heap.size w w' := by
  have HOK := Lib.hid hok
  clear hok
  have HF := Lib.hid (fun v W hE => fault_code 3 n t s v W hE h0 h1 hs)
  have B0 := below_agg3 w (.int .u8 3) (.int .i64 n) (.string t) 65
  have HT := Lib.hid fault_table
  have HH := Lib.hid (fun W => head_some s W hs)
  have hix := table_at3
  have HE0 := Lib.hid (hE.below B0)
  have HS : Hid (∀ W, Below (w.alloc (.cells #[.int .u8 3, .int .i64 n, .string t] 65)).heap.size (w.alloc (.cells #[.int .u8 3, .int .i64 n, .string t] 65)) W → W.cell? ⟨w.heap.size, 0, none⟩ = some (.int .u8 3) ∧ W.cell? ⟨w.heap.size, 1, none⟩ = some (.int .i64 n) ∧ W.cell? ⟨w.heap.size, 2, none⟩ = some (.string t)) := Lib.hid (fun W hW => by
    obtain ⟨x0, x1, x2, -, -, -⟩ := three_facts ((hW.block w.heap.size (by simp)).trans (heap_alloc_new w _))
    exact ⟨x0, x1, x2⟩)
  have HB0 := Lib.hid B0
  have HXB : Hid ((w.alloc (.cells #[.int .u8 3, .int .i64 n, .string t] 65)).heap[w.heap.size]? = some (.cells #[.int .u8 3, .int .i64 n, .string t] 65 (0, 0))) := Lib.hid (heap_alloc_new w _)
  have hX0 : w.heap.size < (w.alloc (.cells #[.int .u8 3, .int .i64 n, .string t] 65)).heap.size := by simp
  have HX0 := Lib.hid hX0
  clear B0 hE hX0
  go_enter Tryz.func63, Tryz.ntmps63
  go_wp2_with fail
  generalize w.alloc (.cells #[.int .u8 3, .int .i64 n, .string t] 65) = W0 at HE0 HS HB0 HX0 HXB ⊢
  generalize w.heap.size = X at HS HX0 HXB ⊢
  have HDr : Hid (Below W0.heap.size W0 W0.drew) := Lib.hid (Below.refl _ _).drew
  have HA0 : Hid (Below W0.heap.size W0 (W0.alloc (.cells #[.nilFunc, .bool false] 204)).drew) := Lib.hid ((Below.refl _ _).alloc (Nat.le_refl _) _).drew
  go_region_held3 (fun w' => w'.cell? ⟨X, 0, none⟩ = some (.int .u8 3)) (first | exact (HS.out _ HDr.out).1 | exact (HS.out _ HA0.out).1 | exact (HS.out _ HA1.out).1 | exact (HS.out _ (HA1.out.alloc HA1.out.size _)).1 | exact (HS.out _ (two_below HA1.out _ (Nat.le_refl _) _ _)).1 | exact (HS.out _ (two_below (HA1.out.alloc HA1.out.size _) _ HA1.out.size _ _)).1)
    (first
      | (go_at_call 94; (refine (HT.out _).mono ?_); rintro e wa ⟨rfl, hba⟩; (first | (have HA1 : Hid (Below W0.heap.size W0 wa) := Lib.hid (bstep HDr.out hba)) | (have HA1 : Hid (Below W0.heap.size W0 wa) := Lib.hid (bstep HA0.out hba); have HZ := Lib.hid ((hba.block W0.heap.size (by simp)).trans (heap_alloc_new W0 _)); obtain ⟨z0, z1, f0, f1⟩ := twoc_facts HZ.out)); clear hba))
  all_goals
    first
      | (have HD := Lib.hid (TD.set HA1.out HX0.out HXB.out HZ.out (.func (.func 130) #[] #[]) (.bool false)); clear z0 z1 f0 f1; generalize (wa.setCell ⟨W0.heap.size, 0, none⟩ (.func (.func 130) #[] #[])).setCell ⟨W0.heap.size, 1, none⟩ (.bool false) = W1 at HD ⊢; generalize W0.heap.size = D at HD ⊢)
      | (have HD := Lib.hid (TD.new HA1.out HX0.out HXB.out (.func (.func 130) #[] #[]) (.bool false)); generalize wa.alloc (.cells #[.func (.func 130) #[] #[], .bool false] 204) = W1 at HD ⊢; generalize wa.heap.size = D at HD ⊢)
  all_goals
    clear HS HA1 HDr HA0 hix HT
    obtain ⟨d0, d1, -, -⟩ := twoc_facts HD.out.blk
    obtain ⟨x0, x1, x2, -, -, -⟩ := three_facts HD.out.arg
    go_wp2_with fail
    refine (HH.out _).mono ?_
    rintro e W2 ⟨al, cl, rfl, hhs, hb2⟩
    have HD2 := Lib.hid (HD.out.below HX0.out hb2)
    have HHS := Lib.hid hhs
    have HW2 := Lib.hid (bstep HB0.out HD2.out.bel)
    have HE2 := Lib.hid (HE0.out.below HD2.out.bel)
    clear d0 d1 x0 x1 x2 hb2 hhs HH
    obtain ⟨d0, d1, -, -⟩ := twoc_facts HD2.out.blk
    obtain ⟨x0, x1, x2, -, -, -⟩ := three_facts HD2.out.arg
    have g1 := HOK.out.1
    have g2 : ((headOf s).1.length : Int) ≠ 0 := by have := HOK.out.2; omega
    have g3 : (((headOf s).1.length : Int) == 0) = false := beq_eq_false_iff_ne.2 g2
    rw [g1]
    go_wp2_with fail
    refine (HF.out _ _ HE2.out).mono ?_
    rintro e W3 ⟨rfl, hb3⟩
    have HB3 := Lib.hid hb3
    clear hb3
    go_wp2_with fail
    go_ret
    exact ⟨rfl, bstep HW2.out HB3.out⟩
set_option maxRecDepth 100000 in
set_option maxHeartbeats 4000000 in
theorem apply_code_err (n : Int) (t s : ByteArray) (w : World) (hE : EnvW w) (hs : s.size ≤ 1000000) (hok : (headOf s).2.2 ≠ 0) :
    Calls Tryz.prog 63 #[.agg #[.int .u8 3, .int .i64 n, .string t], .string s] w fun e w' => e = .returned (.string s) ∧ Below w.heap.size w w' := by
  have HOK := Lib.hid hok
  clear hok
  have B0 := below_agg3 w (.int .u8 3) (.int .i64 n) (.string t) 65
  have HT := Lib.hid fault_table
  have HH := Lib.hid (fun W => head_some s W hs)
  have hix := table_at3
  have HE0 := Lib.hid (hE.below B0)
  have HS : Hid (∀ W, Below (w.alloc (.cells #[.int .u8 3, .int .i64 n, .string t] 65)).heap.size (w.alloc (.cells #[.int .u8 3, .int .i64 n, .string t] 65)) W → W.cell? ⟨w.heap.size, 0, none⟩ = some (.int .u8 3) ∧ W.cell? ⟨w.heap.size, 1, none⟩ = some (.int .i64 n) ∧ W.cell? ⟨w.heap.size, 2, none⟩ = some (.string t)) := Lib.hid (fun W hW => by
    obtain ⟨x0, x1, x2, -, -, -⟩ := three_facts ((hW.block w.heap.size (by simp)).trans (heap_alloc_new w _))
    exact ⟨x0, x1, x2⟩)
  have HB0 := Lib.hid B0
  have HXB : Hid ((w.alloc (.cells #[.int .u8 3, .int .i64 n, .string t] 65)).heap[w.heap.size]? = some (.cells #[.int .u8 3, .int .i64 n, .string t] 65 (0, 0))) := Lib.hid (heap_alloc_new w _)
  have hX0 : w.heap.size < (w.alloc (.cells #[.int .u8 3, .int .i64 n, .string t] 65)).heap.size := by simp
  have HX0 := Lib.hid hX0
  clear B0 hE hX0
  go_enter Tryz.func63, Tryz.ntmps63
  go_wp2_with fail
  generalize w.alloc (.cells #[.int .u8 3, .int .i64 n, .string t] 65) = W0 at HE0 HS HB0 HX0 HXB ⊢
  generalize w.heap.size = X at HS HX0 HXB ⊢
  have HDr : Hid (Below W0.heap.size W0 W0.drew) := Lib.hid (Below.refl _ _).drew
  have HA0 : Hid (Below W0.heap.size W0 (W0.alloc (.cells #[.nilFunc, .bool false] 204)).drew) := Lib.hid ((Below.refl _ _).alloc (Nat.le_refl _) _).drew
  go_region_held3 (fun w' => w'.cell? ⟨X, 0, none⟩ = some (.int .u8 3)) (first | exact (HS.out _ HDr.out).1 | exact (HS.out _ HA0.out).1 | exact (HS.out _ HA1.out).1 | exact (HS.out _ (HA1.out.alloc HA1.out.size _)).1 | exact (HS.out _ (two_below HA1.out _ (Nat.le_refl _) _ _)).1 | exact (HS.out _ (two_below (HA1.out.alloc HA1.out.size _) _ HA1.out.size _ _)).1)
    (first
      | (go_at_call 94; (refine (HT.out _).mono ?_); rintro e wa ⟨rfl, hba⟩; (first | (have HA1 : Hid (Below W0.heap.size W0 wa) := Lib.hid (bstep HDr.out hba)) | (have HA1 : Hid (Below W0.heap.size W0 wa) := Lib.hid (bstep HA0.out hba); have HZ := Lib.hid ((hba.block W0.heap.size (by simp)).trans (heap_alloc_new W0 _)); obtain ⟨z0, z1, f0, f1⟩ := twoc_facts HZ.out)); clear hba))
  all_goals
    first
      | (have HD := Lib.hid (TD.set HA1.out HX0.out HXB.out HZ.out (.func (.func 130) #[] #[]) (.bool false)); clear z0 z1 f0 f1; generalize (wa.setCell ⟨W0.heap.size, 0, none⟩ (.func (.func 130) #[] #[])).setCell ⟨W0.heap.size, 1, none⟩ (.bool false) = W1 at HD ⊢; generalize W0.heap.size = D at HD ⊢)
      | (have HD := Lib.hid (TD.new HA1.out HX0.out HXB.out (.func (.func 130) #[] #[]) (.bool false)); generalize wa.alloc (.cells #[.func (.func 130) #[] #[], .bool false] 204) = W1 at HD ⊢; generalize wa.heap.size = D at HD ⊢)
  all_goals
    clear HS HA1 HDr HA0 hix HT
    obtain ⟨d0, d1, -, -⟩ := twoc_facts HD.out.blk
    obtain ⟨x0, x1, x2, -, -, -⟩ := three_facts HD.out.arg
    go_wp2_with fail
    refine (HH.out _).mono ?_
    rintro e W2 ⟨al, cl, rfl, hhs, hb2⟩
    have HD2 := Lib.hid (HD.out.below HX0.out hb2)
    have HHS := Lib.hid hhs
    have HW2 := Lib.hid (bstep HB0.out HD2.out.bel)
    have HE2 := Lib.hid (HE0.out.below HD2.out.bel)
    clear d0 d1 x0 x1 x2 hb2 hhs HH
    obtain ⟨d0, d1, -, -⟩ := twoc_facts HD2.out.blk
    obtain ⟨x0, x1, x2, -, -, -⟩ := three_facts HD2.out.arg
    have g1 := HOK.out
    generalize (headOf s).2.2 = ER at g1
    have g2 : ((ER : Int) != 0) = true := by rw [bne_iff_ne]; omega
    go_wp2_with fail
    go_ret
    exact ⟨rfl, HW2.out⟩
set_option maxRecDepth 100000 in
set_option maxHeartbeats 4000000 in
theorem apply_code_none (n : Int) (t s : ByteArray) (w : World) (hE : EnvW w) (hs : s.size ≤ 1000000) (hok : (headOf s).2.2 = 0 ∧ (headOf s).1.length = 0) :
    Calls Tryz.prog 63 #[.agg #[.int .u8 3, .int .i64 n, .string t], .string s] w fun e w' => e = .returned (.string s) ∧ Below w.heap.size w w' := by
  have HOK := Lib.hid hok
  clear hok
  have B0 := below_agg3 w (.int .u8 3) (.int .i64 n) (.string t) 65
  have HT := Lib.hid fault_table
  have HH := Lib.hid (fun W => head_some s W hs)
  have hix := table_at3
  have HE0 := Lib.hid (hE.below B0)
  have HS : Hid (∀ W, Below (w.alloc (.cells #[.int .u8 3, .int .i64 n, .string t] 65)).heap.size (w.alloc (.cells #[.int .u8 3, .int .i64 n, .string t] 65)) W → W.cell? ⟨w.heap.size, 0, none⟩ = some (.int .u8 3) ∧ W.cell? ⟨w.heap.size, 1, none⟩ = some (.int .i64 n) ∧ W.cell? ⟨w.heap.size, 2, none⟩ = some (.string t)) := Lib.hid (fun W hW => by
    obtain ⟨x0, x1, x2, -, -, -⟩ := three_facts ((hW.block w.heap.size (by simp)).trans (heap_alloc_new w _))
    exact ⟨x0, x1, x2⟩)
  have HB0 := Lib.hid B0
  have HXB : Hid ((w.alloc (.cells #[.int .u8 3, .int .i64 n, .string t] 65)).heap[w.heap.size]? = some (.cells #[.int .u8 3, .int .i64 n, .string t] 65 (0, 0))) := Lib.hid (heap_alloc_new w _)
  have hX0 : w.heap.size < (w.alloc (.cells #[.int .u8 3, .int .i64 n, .string t] 65)).heap.size := by simp
  have HX0 := Lib.hid hX0
  clear B0 hE hX0
  go_enter Tryz.func63, Tryz.ntmps63
  go_wp2_with fail
  generalize w.alloc (.cells #[.int .u8 3, .int .i64 n, .string t] 65) = W0 at HE0 HS HB0 HX0 HXB ⊢
  generalize w.heap.size = X at HS HX0 HXB ⊢
  have HDr : Hid (Below W0.heap.size W0 W0.drew) := Lib.hid (Below.refl _ _).drew
  have HA0 : Hid (Below W0.heap.size W0 (W0.alloc (.cells #[.nilFunc, .bool false] 204)).drew) := Lib.hid ((Below.refl _ _).alloc (Nat.le_refl _) _).drew
  go_region_held3 (fun w' => w'.cell? ⟨X, 0, none⟩ = some (.int .u8 3)) (first | exact (HS.out _ HDr.out).1 | exact (HS.out _ HA0.out).1 | exact (HS.out _ HA1.out).1 | exact (HS.out _ (HA1.out.alloc HA1.out.size _)).1 | exact (HS.out _ (two_below HA1.out _ (Nat.le_refl _) _ _)).1 | exact (HS.out _ (two_below (HA1.out.alloc HA1.out.size _) _ HA1.out.size _ _)).1)
    (first
      | (go_at_call 94; (refine (HT.out _).mono ?_); rintro e wa ⟨rfl, hba⟩; (first | (have HA1 : Hid (Below W0.heap.size W0 wa) := Lib.hid (bstep HDr.out hba)) | (have HA1 : Hid (Below W0.heap.size W0 wa) := Lib.hid (bstep HA0.out hba); have HZ := Lib.hid ((hba.block W0.heap.size (by simp)).trans (heap_alloc_new W0 _)); obtain ⟨z0, z1, f0, f1⟩ := twoc_facts HZ.out)); clear hba))
  all_goals
    first
      | (have HD := Lib.hid (TD.set HA1.out HX0.out HXB.out HZ.out (.func (.func 130) #[] #[]) (.bool false)); clear z0 z1 f0 f1; generalize (wa.setCell ⟨W0.heap.size, 0, none⟩ (.func (.func 130) #[] #[])).setCell ⟨W0.heap.size, 1, none⟩ (.bool false) = W1 at HD ⊢; generalize W0.heap.size = D at HD ⊢)
      | (have HD := Lib.hid (TD.new HA1.out HX0.out HXB.out (.func (.func 130) #[] #[]) (.bool false)); generalize wa.alloc (.cells #[.func (.func 130) #[] #[], .bool false] 204) = W1 at HD ⊢; generalize wa.heap.size = D at HD ⊢)
  all_goals
    clear HS HA1 HDr HA0 hix HT
    obtain ⟨d0, d1, -, -⟩ := twoc_facts HD.out.blk
    obtain ⟨x0, x1, x2, -, -, -⟩ := three_facts HD.out.arg
    go_wp2_with fail
    refine (HH.out _).mono ?_
    rintro e W2 ⟨al, cl, rfl, hhs, hb2⟩
    have HD2 := Lib.hid (HD.out.below HX0.out hb2)
    have HHS := Lib.hid hhs
    have HW2 := Lib.hid (bstep HB0.out HD2.out.bel)
    have HE2 := Lib.hid (HE0.out.below HD2.out.bel)
    clear d0 d1 x0 x1 x2 hb2 hhs HH
    obtain ⟨d0, d1, -, -⟩ := twoc_facts HD2.out.blk
    obtain ⟨x0, x1, x2, -, -, -⟩ := three_facts HD2.out.arg
    have g1 := HOK.out.1
    have g2 := HOK.out.2
    rw [g1, g2]
    go_wp2_with fail
    go_ret
    exact ⟨rfl, HW2.out⟩
set_option maxRecDepth 100000 in
set_option maxHeartbeats 4000000 in
theorem apply_place (n : Int) (t s : ByteArray) (w : World) (hE : EnvW w) (h0 : -9223372036854775808 ≤ n) (h1 : n ≤ 9223372036854775807) (ht : t.size ≤ 10000) (hs : s.size ≤ 1000000) (hok : (headOf s).2.2 = 0 ∧ (headOf s).1.length ≠ 0) :
    Calls Tryz.prog 63 #[.agg #[.int .u8 4, .int .i64 n, .string t], .string s] w fun e w' => e = .returned (.string (bs (placeT t.data.toList s (headOf s).1))) ∧ Below w.heap.size w w' := by
  have HOK := Lib.hid hok
  clear hok
  have HF := Lib.hid (fun v W hE hv => fault_place 4 n t s v (headOf s).1 W hE hv hs ht (fun x hx => Nat.le_trans ((headOf_bound s).1 x hx) (by decide)) (Nat.le_trans (headOf_bound s).2 (by decide)))
  have B0 := below_agg3 w (.int .u8 4) (.int .i64 n) (.string t) 65
  have HT := Lib.hid fault_table
  have HH := Lib.hid (fun W => head_some s W hs)
  have hix := table_at4
  have HE0 := Lib.hid (hE.below B0)
  have HS : Hid (∀ W, Below (w.alloc (.cells #[.int .u8 4, .int .i64 n, .string t] 65)).heap.size (w.alloc (.cells #[.int .u8 4, .int .i64 n, .string t] 65)) W → W.cell? ⟨w.heap.size, 0, none⟩ = some (.int .u8 4) ∧ W.cell? ⟨w.heap.size, 1, none⟩ = some (.int .i64 n) ∧ W.cell? ⟨w.heap.size, 2, none⟩ = some (.string t)) := Lib.hid (fun W hW => by
    obtain ⟨x0, x1, x2, -, -, -⟩ := three_facts ((hW.block w.heap.size (by simp)).trans (heap_alloc_new w _))
    exact ⟨x0, x1, x2⟩)
  have HB0 := Lib.hid B0
  have HXB : Hid ((w.alloc (.cells #[.int .u8 4, .int .i64 n, .string t] 65)).heap[w.heap.size]? = some (.cells #[.int .u8 4, .int .i64 n, .string t] 65 (0, 0))) := Lib.hid (heap_alloc_new w _)
  have hX0 : w.heap.size < (w.alloc (.cells #[.int .u8 4, .int .i64 n, .string t] 65)).heap.size := by simp
  have HX0 := Lib.hid hX0
  clear B0 hE hX0
  go_enter Tryz.func63, Tryz.ntmps63
  go_wp2_with fail
  generalize w.alloc (.cells #[.int .u8 4, .int .i64 n, .string t] 65) = W0 at HE0 HS HB0 HX0 HXB ⊢
  generalize w.heap.size = X at HS HX0 HXB ⊢
  have HDr : Hid (Below W0.heap.size W0 W0.drew) := Lib.hid (Below.refl _ _).drew
  have HA0 : Hid (Below W0.heap.size W0 (W0.alloc (.cells #[.nilFunc, .bool false] 204)).drew) := Lib.hid ((Below.refl _ _).alloc (Nat.le_refl _) _).drew
  go_region_held3 (fun w' => w'.cell? ⟨X, 0, none⟩ = some (.int .u8 4)) (first | exact (HS.out _ HDr.out).1 | exact (HS.out _ HA0.out).1 | exact (HS.out _ HA1.out).1 | exact (HS.out _ (HA1.out.alloc HA1.out.size _)).1 | exact (HS.out _ (two_below HA1.out _ (Nat.le_refl _) _ _)).1 | exact (HS.out _ (two_below (HA1.out.alloc HA1.out.size _) _ HA1.out.size _ _)).1)
    (first
      | (go_at_call 94; (refine (HT.out _).mono ?_); rintro e wa ⟨rfl, hba⟩; (first | (have HA1 : Hid (Below W0.heap.size W0 wa) := Lib.hid (bstep HDr.out hba)) | (have HA1 : Hid (Below W0.heap.size W0 wa) := Lib.hid (bstep HA0.out hba); have HZ := Lib.hid ((hba.block W0.heap.size (by simp)).trans (heap_alloc_new W0 _)); obtain ⟨z0, z1, f0, f1⟩ := twoc_facts HZ.out)); clear hba))
  all_goals
    first
      | (have HD := Lib.hid (TD.set HA1.out HX0.out HXB.out HZ.out (.func (.func 131) #[] #[]) (.bool false)); clear z0 z1 f0 f1; generalize (wa.setCell ⟨W0.heap.size, 0, none⟩ (.func (.func 131) #[] #[])).setCell ⟨W0.heap.size, 1, none⟩ (.bool false) = W1 at HD ⊢; generalize W0.heap.size = D at HD ⊢)
      | (have HD := Lib.hid (TD.new HA1.out HX0.out HXB.out (.func (.func 131) #[] #[]) (.bool false)); generalize wa.alloc (.cells #[.func (.func 131) #[] #[], .bool false] 204) = W1 at HD ⊢; generalize wa.heap.size = D at HD ⊢)
  all_goals
    clear HS HA1 HDr HA0 hix HT
    obtain ⟨d0, d1, -, -⟩ := twoc_facts HD.out.blk
    obtain ⟨x0, x1, x2, -, -, -⟩ := three_facts HD.out.arg
    go_wp2_with fail
    refine (HH.out _).mono ?_
    rintro e W2 ⟨al, cl, rfl, hhs, hb2⟩
    have HD2 := Lib.hid (HD.out.below HX0.out hb2)
    have HHS := Lib.hid hhs
    have HW2 := Lib.hid (bstep HB0.out HD2.out.bel)
    have HE2 := Lib.hid (HE0.out.below HD2.out.bel)
    clear d0 d1 x0 x1 x2 hb2 hhs HH
    obtain ⟨d0, d1, -, -⟩ := twoc_facts HD2.out.blk
    obtain ⟨x0, x1, x2, -, -, -⟩ := three_facts HD2.out.arg
    have g1 := HOK.out.1
    have g2 : ((headOf s).1.length : Int) ≠ 0 := by have := HOK.out.2; omega
    have g3 : (((headOf s).1.length : Int) == 0) = false := beq_eq_false_iff_ne.2 g2
    rw [g1]
    go_wp2_with fail
    refine (HF.out _ _ HE2.out HHS.out).mono ?_
    rintro e W3 ⟨rfl, hb3⟩
    have HB3 := Lib.hid hb3
    clear hb3
    go_wp2_with fail
    go_ret
    exact ⟨rfl, bstep HW2.out HB3.out⟩
set_option maxRecDepth 100000 in
set_option maxHeartbeats 4000000 in
theorem apply_place_err (n : Int) (t s : ByteArray) (w : World) (hE : EnvW w) (hs : s.size ≤ 1000000) (hok : (headOf s).2.2 ≠ 0) :
    Calls Tryz.prog 63 #[.agg #[.int .u8 4, .int .i64 n, .string t], .string s] w fun e w' => e = .returned (.string s) ∧ Below w.heap.size w w' := by
  have HOK := Lib.hid hok
  clear hok
  have B0 := below_agg3 w (.int .u8 4) (.int .i64 n) (.string t) 65
  have HT := Lib.hid fault_table
  have HH := Lib.hid (fun W => head_some s W hs)
  have hix := table_at4
  have HE0 := Lib.hid (hE.below B0)
  have HS : Hid (∀ W, Below (w.alloc (.cells #[.int .u8 4, .int .i64 n, .string t] 65)).heap.size (w.alloc (.cells #[.int .u8 4, .int .i64 n, .string t] 65)) W → W.cell? ⟨w.heap.size, 0, none⟩ = some (.int .u8 4) ∧ W.cell? ⟨w.heap.size, 1, none⟩ = some (.int .i64 n) ∧ W.cell? ⟨w.heap.size, 2, none⟩ = some (.string t)) := Lib.hid (fun W hW => by
    obtain ⟨x0, x1, x2, -, -, -⟩ := three_facts ((hW.block w.heap.size (by simp)).trans (heap_alloc_new w _))
    exact ⟨x0, x1, x2⟩)
  have HB0 := Lib.hid B0
  have HXB : Hid ((w.alloc (.cells #[.int .u8 4, .int .i64 n, .string t] 65)).heap[w.heap.size]? = some (.cells #[.int .u8 4, .int .i64 n, .string t] 65 (0, 0))) := Lib.hid (heap_alloc_new w _)
  have hX0 : w.heap.size < (w.alloc (.cells #[.int .u8 4, .int .i64 n, .string t] 65)).heap.size := by simp
  have HX0 := Lib.hid hX0
  clear B0 hE hX0
  go_enter Tryz.func63, Tryz.ntmps63
  go_wp2_with fail
  generalize w.alloc (.cells #[.int .u8 4, .int .i64 n, .string t] 65) = W0 at HE0 HS HB0 HX0 HXB ⊢
  generalize w.heap.size = X at HS HX0 HXB ⊢
  have HDr : Hid (Below W0.heap.size W0 W0.drew) := Lib.hid (Below.refl _ _).drew
  have HA0 : Hid (Below W0.heap.size W0 (W0.alloc (.cells #[.nilFunc, .bool false] 204)).drew) := Lib.hid ((Below.refl _ _).alloc (Nat.le_refl _) _).drew
  go_region_held3 (fun w' => w'.cell? ⟨X, 0, none⟩ = some (.int .u8 4)) (first | exact (HS.out _ HDr.out).1 | exact (HS.out _ HA0.out).1 | exact (HS.out _ HA1.out).1 | exact (HS.out _ (HA1.out.alloc HA1.out.size _)).1 | exact (HS.out _ (two_below HA1.out _ (Nat.le_refl _) _ _)).1 | exact (HS.out _ (two_below (HA1.out.alloc HA1.out.size _) _ HA1.out.size _ _)).1)
    (first
      | (go_at_call 94; (refine (HT.out _).mono ?_); rintro e wa ⟨rfl, hba⟩; (first | (have HA1 : Hid (Below W0.heap.size W0 wa) := Lib.hid (bstep HDr.out hba)) | (have HA1 : Hid (Below W0.heap.size W0 wa) := Lib.hid (bstep HA0.out hba); have HZ := Lib.hid ((hba.block W0.heap.size (by simp)).trans (heap_alloc_new W0 _)); obtain ⟨z0, z1, f0, f1⟩ := twoc_facts HZ.out)); clear hba))
  all_goals
    first
      | (have HD := Lib.hid (TD.set HA1.out HX0.out HXB.out HZ.out (.func (.func 131) #[] #[]) (.bool false)); clear z0 z1 f0 f1; generalize (wa.setCell ⟨W0.heap.size, 0, none⟩ (.func (.func 131) #[] #[])).setCell ⟨W0.heap.size, 1, none⟩ (.bool false) = W1 at HD ⊢; generalize W0.heap.size = D at HD ⊢)
      | (have HD := Lib.hid (TD.new HA1.out HX0.out HXB.out (.func (.func 131) #[] #[]) (.bool false)); generalize wa.alloc (.cells #[.func (.func 131) #[] #[], .bool false] 204) = W1 at HD ⊢; generalize wa.heap.size = D at HD ⊢)
  all_goals
    clear HS HA1 HDr HA0 hix HT
    obtain ⟨d0, d1, -, -⟩ := twoc_facts HD.out.blk
    obtain ⟨x0, x1, x2, -, -, -⟩ := three_facts HD.out.arg
    go_wp2_with fail
    refine (HH.out _).mono ?_
    rintro e W2 ⟨al, cl, rfl, hhs, hb2⟩
    have HD2 := Lib.hid (HD.out.below HX0.out hb2)
    have HHS := Lib.hid hhs
    have HW2 := Lib.hid (bstep HB0.out HD2.out.bel)
    have HE2 := Lib.hid (HE0.out.below HD2.out.bel)
    clear d0 d1 x0 x1 x2 hb2 hhs HH
    obtain ⟨d0, d1, -, -⟩ := twoc_facts HD2.out.blk
    obtain ⟨x0, x1, x2, -, -, -⟩ := three_facts HD2.out.arg
    have g1 := HOK.out
    generalize (headOf s).2.2 = ER at g1
    have g2 : ((ER : Int) != 0) = true := by rw [bne_iff_ne]; omega
    go_wp2_with fail
    go_ret
    exact ⟨rfl, HW2.out⟩
set_option maxRecDepth 100000 in
set_option maxHeartbeats 4000000 in
theorem apply_place_none (n : Int) (t s : ByteArray) (w : World) (hE : EnvW w) (hs : s.size ≤ 1000000) (hok : (headOf s).2.2 = 0 ∧ (headOf s).1.length = 0) :
    Calls Tryz.prog 63 #[.agg #[.int .u8 4, .int .i64 n, .string t], .string s] w fun e w' => e = .returned (.string s) ∧ Below w.heap.size w w' := by
  have HOK := Lib.hid hok
  clear hok
  have B0 := below_agg3 w (.int .u8 4) (.int .i64 n) (.string t) 65
  have HT := Lib.hid fault_table
  have HH := Lib.hid (fun W => head_some s W hs)
  have hix := table_at4
  have HE0 := Lib.hid (hE.below B0)
  have HS : Hid (∀ W, Below (w.alloc (.cells #[.int .u8 4, .int .i64 n, .string t] 65)).heap.size (w.alloc (.cells #[.int .u8 4, .int .i64 n, .string t] 65)) W → W.cell? ⟨w.heap.size, 0, none⟩ = some (.int .u8 4) ∧ W.cell? ⟨w.heap.size, 1, none⟩ = some (.int .i64 n) ∧ W.cell? ⟨w.heap.size, 2, none⟩ = some (.string t)) := Lib.hid (fun W hW => by
    obtain ⟨x0, x1, x2, -, -, -⟩ := three_facts ((hW.block w.heap.size (by simp)).trans (heap_alloc_new w _))
    exact ⟨x0, x1, x2⟩)
  have HB0 := Lib.hid B0
  have HXB : Hid ((w.alloc (.cells #[.int .u8 4, .int .i64 n, .string t] 65)).heap[w.heap.size]? = some (.cells #[.int .u8 4, .int .i64 n, .string t] 65 (0, 0))) := Lib.hid (heap_alloc_new w _)
  have hX0 : w.heap.size < (w.alloc (.cells #[.int .u8 4, .int .i64 n, .string t] 65)).heap.size := by simp
  have HX0 := Lib.hid hX0
  clear B0 hE hX0
  go_enter Tryz.func63, Tryz.ntmps63
  go_wp2_with fail
  generalize w.alloc (.cells #[.int .u8 4, .int .i64 n, .string t] 65) = W0 at HE0 HS HB0 HX0 HXB ⊢
  generalize w.heap.size = X at HS HX0 HXB ⊢
  have HDr : Hid (Below W0.heap.size W0 W0.drew) := Lib.hid (Below.refl _ _).drew
  have HA0 : Hid (Below W0.heap.size W0 (W0.alloc (.cells #[.nilFunc, .bool false] 204)).drew) := Lib.hid ((Below.refl _ _).alloc (Nat.le_refl _) _).drew
  go_region_held3 (fun w' => w'.cell? ⟨X, 0, none⟩ = some (.int .u8 4)) (first | exact (HS.out _ HDr.out).1 | exact (HS.out _ HA0.out).1 | exact (HS.out _ HA1.out).1 | exact (HS.out _ (HA1.out.alloc HA1.out.size _)).1 | exact (HS.out _ (two_below HA1.out _ (Nat.le_refl _) _ _)).1 | exact (HS.out _ (two_below (HA1.out.alloc HA1.out.size _) _ HA1.out.size _ _)).1)
    (first
      | (go_at_call 94; (refine (HT.out _).mono ?_); rintro e wa ⟨rfl, hba⟩; (first | (have HA1 : Hid (Below W0.heap.size W0 wa) := Lib.hid (bstep HDr.out hba)) | (have HA1 : Hid (Below W0.heap.size W0 wa) := Lib.hid (bstep HA0.out hba); have HZ := Lib.hid ((hba.block W0.heap.size (by simp)).trans (heap_alloc_new W0 _)); obtain ⟨z0, z1, f0, f1⟩ := twoc_facts HZ.out)); clear hba))
  all_goals
    first
      | (have HD := Lib.hid (TD.set HA1.out HX0.out HXB.out HZ.out (.func (.func 131) #[] #[]) (.bool false)); clear z0 z1 f0 f1; generalize (wa.setCell ⟨W0.heap.size, 0, none⟩ (.func (.func 131) #[] #[])).setCell ⟨W0.heap.size, 1, none⟩ (.bool false) = W1 at HD ⊢; generalize W0.heap.size = D at HD ⊢)
      | (have HD := Lib.hid (TD.new HA1.out HX0.out HXB.out (.func (.func 131) #[] #[]) (.bool false)); generalize wa.alloc (.cells #[.func (.func 131) #[] #[], .bool false] 204) = W1 at HD ⊢; generalize wa.heap.size = D at HD ⊢)
  all_goals
    clear HS HA1 HDr HA0 hix HT
    obtain ⟨d0, d1, -, -⟩ := twoc_facts HD.out.blk
    obtain ⟨x0, x1, x2, -, -, -⟩ := three_facts HD.out.arg
    go_wp2_with fail
    refine (HH.out _).mono ?_
    rintro e W2 ⟨al, cl, rfl, hhs, hb2⟩
    have HD2 := Lib.hid (HD.out.below HX0.out hb2)
    have HHS := Lib.hid hhs
    have HW2 := Lib.hid (bstep HB0.out HD2.out.bel)
    have HE2 := Lib.hid (HE0.out.below HD2.out.bel)
    clear d0 d1 x0 x1 x2 hb2 hhs HH
    obtain ⟨d0, d1, -, -⟩ := twoc_facts HD2.out.blk
    obtain ⟨x0, x1, x2, -, -, -⟩ := three_facts HD2.out.arg
    have g1 := HOK.out.1
    have g2 := HOK.out.2
    rw [g1, g2]
    go_wp2_with fail
    go_ret
    exact ⟨rfl, HW2.out⟩
set_option maxRecDepth 100000 in
set_option maxHeartbeats 4000000 in
theorem apply_garble (n : Int) (t s : ByteArray) (w : World) (hE : EnvW w) (h0 : -9223372036854775808 ≤ n) (h1 : n ≤ 9223372036854775807) (ht : t.size ≤ 10000) (hs : s.size ≤ 1000000) (hok : (headOf s).2.2 = 0 ∧ (headOf s).1.length ≠ 0) :
    Calls Tryz.prog 63 #[.agg #[.int .u8 5, .int .i64 n, .string t], .string s] w fun e w' => e = .returned (.string (bs (garbleF t.data.toList s (headOf s).1))) ∧ Below w.heap.size w w' := by
  have HOK := Lib.hid hok
  clear hok
  have HF := Lib.hid (fun a c W => fault_garble 5 n t s a c (headOf s).1 W hs (by omega))
  have B0 := below_agg3 w (.int .u8 5) (.int .i64 n) (.string t) 65
  have HT := Lib.hid fault_table
  have HH := Lib.hid (fun W => head_some s W hs)
  have hix := table_at5
  have HE0 := Lib.hid (hE.below B0)
  have HS : Hid (∀ W, Below (w.alloc (.cells #[.int .u8 5, .int .i64 n, .string t] 65)).heap.size (w.alloc (.cells #[.int .u8 5, .int .i64 n, .string t] 65)) W → W.cell? ⟨w.heap.size, 0, none⟩ = some (.int .u8 5) ∧ W.cell? ⟨w.heap.size, 1, none⟩ = some (.int .i64 n) ∧ W.cell? ⟨w.heap.size, 2, none⟩ = some (.string t)) := Lib.hid (fun W hW => by
    obtain ⟨x0, x1, x2, -, -, -⟩ := three_facts ((hW.block w.heap.size (by simp)).trans (heap_alloc_new w _))
    exact ⟨x0, x1, x2⟩)
  have HB0 := Lib.hid B0
  have HXB : Hid ((w.alloc (.cells #[.int .u8 5, .int .i64 n, .string t] 65)).heap[w.heap.size]? = some (.cells #[.int .u8 5, .int .i64 n, .string t] 65 (0, 0))) := Lib.hid (heap_alloc_new w _)
  have hX0 : w.heap.size < (w.alloc (.cells #[.int .u8 5, .int .i64 n, .string t] 65)).heap.size := by simp
  have HX0 := Lib.hid hX0
  clear B0 hE hX0
  go_enter Tryz.func63, Tryz.ntmps63
  go_wp2_with fail
  generalize w.alloc (.cells #[.int .u8 5, .int .i64 n, .string t] 65) = W0 at HE0 HS HB0 HX0 HXB ⊢
  generalize w.heap.size = X at HS HX0 HXB ⊢
  have HDr : Hid (Below W0.heap.size W0 W0.drew) := Lib.hid (Below.refl _ _).drew
  have HA0 : Hid (Below W0.heap.size W0 (W0.alloc (.cells #[.nilFunc, .bool false] 204)).drew) := Lib.hid ((Below.refl _ _).alloc (Nat.le_refl _) _).drew
  go_region_held3 (fun w' => w'.cell? ⟨X, 0, none⟩ = some (.int .u8 5)) (first | exact (HS.out _ HDr.out).1 | exact (HS.out _ HA0.out).1 | exact (HS.out _ HA1.out).1 | exact (HS.out _ (HA1.out.alloc HA1.out.size _)).1 | exact (HS.out _ (two_below HA1.out _ (Nat.le_refl _) _ _)).1 | exact (HS.out _ (two_below (HA1.out.alloc HA1.out.size _) _ HA1.out.size _ _)).1)
    (first
      | (go_at_call 94; (refine (HT.out _).mono ?_); rintro e wa ⟨rfl, hba⟩; (first | (have HA1 : Hid (Below W0.heap.size W0 wa) := Lib.hid (bstep HDr.out hba)) | (have HA1 : Hid (Below W0.heap.size W0 wa) := Lib.hid (bstep HA0.out hba); have HZ := Lib.hid ((hba.block W0.heap.size (by simp)).trans (heap_alloc_new W0 _)); obtain ⟨z0, z1, f0, f1⟩ := twoc_facts HZ.out)); clear hba))
  all_goals
    first
      | (have HD := Lib.hid (TD.set HA1.out HX0.out HXB.out HZ.out (.func (.func 132) #[] #[]) (.bool false)); clear z0 z1 f0 f1; generalize (wa.setCell ⟨W0.heap.size, 0, none⟩ (.func (.func 132) #[] #[])).setCell ⟨W0.heap.size, 1, none⟩ (.bool false) = W1 at HD ⊢; generalize W0.heap.size = D at HD ⊢)
      | (have HD := Lib.hid (TD.new HA1.out HX0.out HXB.out (.func (.func 132) #[] #[]) (.bool false)); generalize wa.alloc (.cells #[.func (.func 132) #[] #[], .bool false] 204) = W1 at HD ⊢; generalize wa.heap.size = D at HD ⊢)
  all_goals
    clear HS HA1 HDr HA0 hix HT
    obtain ⟨d0, d1, -, -⟩ := twoc_facts HD.out.blk
    obtain ⟨x0, x1, x2, -, -, -⟩ := three_facts HD.out.arg
    go_wp2_with fail
    refine (HH.out _).mono ?_
    rintro e W2 ⟨al, cl, rfl, hhs, hb2⟩
    have HD2 := Lib.hid (HD.out.below HX0.out hb2)
    have HHS := Lib.hid hhs
    have HW2 := Lib.hid (bstep HB0.out HD2.out.bel)
    have HE2 := Lib.hid (HE0.out.below HD2.out.bel)
    clear d0 d1 x0 x1 x2 hb2 hhs HH
    obtain ⟨d0, d1, -, -⟩ := twoc_facts HD2.out.blk
    obtain ⟨x0, x1, x2, -, -, -⟩ := three_facts HD2.out.arg
    have g1 := HOK.out.1
    have g2 : ((headOf s).1.length : Int) ≠ 0 := by have := HOK.out.2; omega
    have g3 : (((headOf s).1.length : Int) == 0) = false := beq_eq_false_iff_ne.2 g2
    rw [g1]
    go_wp2_with fail
    refine (HF.out _ _ _).mono ?_
    rintro e W3 ⟨rfl, hb3⟩
    have HB3 := Lib.hid hb3
    clear hb3
    go_wp2_with fail
    go_ret
    exact ⟨rfl, bstep HW2.out HB3.out⟩
set_option maxRecDepth 100000 in
set_option maxHeartbeats 4000000 in
theorem apply_garble_err (n : Int) (t s : ByteArray) (w : World) (hE : EnvW w) (hs : s.size ≤ 1000000) (hok : (headOf s).2.2 ≠ 0) :
    Calls Tryz.prog 63 #[.agg #[.int .u8 5, .int .i64 n, .string t], .string s] w fun e w' => e = .returned (.string s) ∧ Below w.heap.size w w' := by
  have HOK := Lib.hid hok
  clear hok
  have B0 := below_agg3 w (.int .u8 5) (.int .i64 n) (.string t) 65
  have HT := Lib.hid fault_table
  have HH := Lib.hid (fun W => head_some s W hs)
  have hix := table_at5
  have HE0 := Lib.hid (hE.below B0)
  have HS : Hid (∀ W, Below (w.alloc (.cells #[.int .u8 5, .int .i64 n, .string t] 65)).heap.size (w.alloc (.cells #[.int .u8 5, .int .i64 n, .string t] 65)) W → W.cell? ⟨w.heap.size, 0, none⟩ = some (.int .u8 5) ∧ W.cell? ⟨w.heap.size, 1, none⟩ = some (.int .i64 n) ∧ W.cell? ⟨w.heap.size, 2, none⟩ = some (.string t)) := Lib.hid (fun W hW => by
    obtain ⟨x0, x1, x2, -, -, -⟩ := three_facts ((hW.block w.heap.size (by simp)).trans (heap_alloc_new w _))
    exact ⟨x0, x1, x2⟩)
  have HB0 := Lib.hid B0
  have HXB : Hid ((w.alloc (.cells #[.int .u8 5, .int .i64 n, .string t] 65)).heap[w.heap.size]? = some (.cells #[.int .u8 5, .int .i64 n, .string t] 65 (0, 0))) := Lib.hid (heap_alloc_new w _)
  have hX0 : w.heap.size < (w.alloc (.cells #[.int .u8 5, .int .i64 n, .string t] 65)).heap.size := by simp
  have HX0 := Lib.hid hX0
  clear B0 hE hX0
  go_enter Tryz.func63, Tryz.ntmps63
  go_wp2_with fail
  generalize w.alloc (.cells #[.int .u8 5, .int .i64 n, .string t] 65) = W0 at HE0 HS HB0 HX0 HXB ⊢
  generalize w.heap.size = X at HS HX0 HXB ⊢
  have HDr : Hid (Below W0.heap.size W0 W0.drew) := Lib.hid (Below.refl _ _).drew
  have HA0 : Hid (Below W0.heap.size W0 (W0.alloc (.cells #[.nilFunc, .bool false] 204)).drew) := Lib.hid ((Below.refl _ _).alloc (Nat.le_refl _) _).drew
  go_region_held3 (fun w' => w'.cell? ⟨X, 0, none⟩ = some (.int .u8 5)) (first | exact (HS.out _ HDr.out).1 | exact (HS.out _ HA0.out).1 | exact (HS.out _ HA1.out).1 | exact (HS.out _ (HA1.out.alloc HA1.out.size _)).1 | exact (HS.out _ (two_below HA1.out _ (Nat.le_refl _) _ _)).1 | exact (HS.out _ (two_below (HA1.out.alloc HA1.out.size _) _ HA1.out.size _ _)).1)
    (first
      | (go_at_call 94; (refine (HT.out _).mono ?_); rintro e wa ⟨rfl, hba⟩; (first | (have HA1 : Hid (Below W0.heap.size W0 wa) := Lib.hid (bstep HDr.out hba)) | (have HA1 : Hid (Below W0.heap.size W0 wa) := Lib.hid (bstep HA0.out hba); have HZ := Lib.hid ((hba.block W0.heap.size (by simp)).trans (heap_alloc_new W0 _)); obtain ⟨z0, z1, f0, f1⟩ := twoc_facts HZ.out)); clear hba))
  all_goals
    first
      | (have HD := Lib.hid (TD.set HA1.out HX0.out HXB.out HZ.out (.func (.func 132) #[] #[]) (.bool false)); clear z0 z1 f0 f1; generalize (wa.setCell ⟨W0.heap.size, 0, none⟩ (.func (.func 132) #[] #[])).setCell ⟨W0.heap.size, 1, none⟩ (.bool false) = W1 at HD ⊢; generalize W0.heap.size = D at HD ⊢)
      | (have HD := Lib.hid (TD.new HA1.out HX0.out HXB.out (.func (.func 132) #[] #[]) (.bool false)); generalize wa.alloc (.cells #[.func (.func 132) #[] #[], .bool false] 204) = W1 at HD ⊢; generalize wa.heap.size = D at HD ⊢)
  all_goals
    clear HS HA1 HDr HA0 hix HT
    obtain ⟨d0, d1, -, -⟩ := twoc_facts HD.out.blk
    obtain ⟨x0, x1, x2, -, -, -⟩ := three_facts HD.out.arg
    go_wp2_with fail
    refine (HH.out _).mono ?_
    rintro e W2 ⟨al, cl, rfl, hhs, hb2⟩
    have HD2 := Lib.hid (HD.out.below HX0.out hb2)
    have HHS := Lib.hid hhs
    have HW2 := Lib.hid (bstep HB0.out HD2.out.bel)
    have HE2 := Lib.hid (HE0.out.below HD2.out.bel)
    clear d0 d1 x0 x1 x2 hb2 hhs HH
    obtain ⟨d0, d1, -, -⟩ := twoc_facts HD2.out.blk
    obtain ⟨x0, x1, x2, -, -, -⟩ := three_facts HD2.out.arg
    have g1 := HOK.out
    generalize (headOf s).2.2 = ER at g1
    have g2 : ((ER : Int) != 0) = true := by rw [bne_iff_ne]; omega
    go_wp2_with fail
    go_ret
    exact ⟨rfl, HW2.out⟩
set_option maxRecDepth 100000 in
set_option maxHeartbeats 4000000 in
theorem apply_garble_none (n : Int) (t s : ByteArray) (w : World) (hE : EnvW w) (hs : s.size ≤ 1000000) (hok : (headOf s).2.2 = 0 ∧ (headOf s).1.length = 0) :
    Calls Tryz.prog 63 #[.agg #[.int .u8 5, .int .i64 n, .string t], .string s] w fun e w' => e = .returned (.string s) ∧ Below w.heap.size w w' := by
  have HOK := Lib.hid hok
  clear hok
  have B0 := below_agg3 w (.int .u8 5) (.int .i64 n) (.string t) 65
  have HT := Lib.hid fault_table
  have HH := Lib.hid (fun W => head_some s W hs)
  have hix := table_at5
  have HE0 := Lib.hid (hE.below B0)
  have HS : Hid (∀ W, Below (w.alloc (.cells #[.int .u8 5, .int .i64 n, .string t] 65)).heap.size (w.alloc (.cells #[.int .u8 5, .int .i64 n, .string t] 65)) W → W.cell? ⟨w.heap.size, 0, none⟩ = some (.int .u8 5) ∧ W.cell? ⟨w.heap.size, 1, none⟩ = some (.int .i64 n) ∧ W.cell? ⟨w.heap.size, 2, none⟩ = some (.string t)) := Lib.hid (fun W hW => by
    obtain ⟨x0, x1, x2, -, -, -⟩ := three_facts ((hW.block w.heap.size (by simp)).trans (heap_alloc_new w _))
    exact ⟨x0, x1, x2⟩)
  have HB0 := Lib.hid B0
  have HXB : Hid ((w.alloc (.cells #[.int .u8 5, .int .i64 n, .string t] 65)).heap[w.heap.size]? = some (.cells #[.int .u8 5, .int .i64 n, .string t] 65 (0, 0))) := Lib.hid (heap_alloc_new w _)
  have hX0 : w.heap.size < (w.alloc (.cells #[.int .u8 5, .int .i64 n, .string t] 65)).heap.size := by simp
  have HX0 := Lib.hid hX0
  clear B0 hE hX0
  go_enter Tryz.func63, Tryz.ntmps63
  go_wp2_with fail
  generalize w.alloc (.cells #[.int .u8 5, .int .i64 n, .string t] 65) = W0 at HE0 HS HB0 HX0 HXB ⊢
  generalize w.heap.size = X at HS HX0 HXB ⊢
  have HDr : Hid (Below W0.heap.size W0 W0.drew) := Lib.hid (Below.refl _ _).drew
  have HA0 : Hid (Below W0.heap.size W0 (W0.alloc (.cells #[.nilFunc, .bool false] 204)).drew) := Lib.hid ((Below.refl _ _).alloc (Nat.le_refl _) _).drew
  go_region_held3 (fun w' => w'.cell? ⟨X, 0, none⟩ = some (.int .u8 5)) (first | exact (HS.out _ HDr.out).1 | exact (HS.out _ HA0.out).1 | exact (HS.out _ HA1.out).1 | exact (HS.out _ (HA1.out.alloc HA1.out.size _)).1 | exact (HS.out _ (two_below HA1.out _ (Nat.le_refl _) _ _)).1 | exact (HS.out _ (two_below (HA1.out.alloc HA1.out.size _) _ HA1.out.size _ _)).1)
    (first
      | (go_at_call 94; (refine (HT.out _).mono ?_); rintro e wa ⟨rfl, hba⟩; (first | (have HA1 : Hid (Below W0.heap.size W0 wa) := Lib.hid (bstep HDr.out hba)) | (have HA1 : Hid (Below W0.heap.size W0 wa) := Lib.hid (bstep HA0.out hba); have HZ := Lib.hid ((hba.block W0.heap.size (by simp)).trans (heap_alloc_new W0 _)); obtain ⟨z0, z1, f0, f1⟩ := twoc_facts HZ.out)); clear hba))
  all_goals
    first
      | (have HD := Lib.hid (TD.set HA1.out HX0.out HXB.out HZ.out (.func (.func 132) #[] #[]) (.bool false)); clear z0 z1 f0 f1; generalize (wa.setCell ⟨W0.heap.size, 0, none⟩ (.func (.func 132) #[] #[])).setCell ⟨W0.heap.size, 1, none⟩ (.bool false) = W1 at HD ⊢; generalize W0.heap.size = D at HD ⊢)
      | (have HD := Lib.hid (TD.new HA1.out HX0.out HXB.out (.func (.func 132) #[] #[]) (.bool false)); generalize wa.alloc (.cells #[.func (.func 132) #[] #[], .bool false] 204) = W1 at HD ⊢; generalize wa.heap.size = D at HD ⊢)
  all_goals
    clear HS HA1 HDr HA0 hix HT
    obtain ⟨d0, d1, -, -⟩ := twoc_facts HD.out.blk
    obtain ⟨x0, x1, x2, -, -, -⟩ := three_facts HD.out.arg
    go_wp2_with fail
    refine (HH.out _).mono ?_
    rintro e W2 ⟨al, cl, rfl, hhs, hb2⟩
    have HD2 := Lib.hid (HD.out.below HX0.out hb2)
    have HHS := Lib.hid hhs
    have HW2 := Lib.hid (bstep HB0.out HD2.out.bel)
    have HE2 := Lib.hid (HE0.out.below HD2.out.bel)
    clear d0 d1 x0 x1 x2 hb2 hhs HH
    obtain ⟨d0, d1, -, -⟩ := twoc_facts HD2.out.blk
    obtain ⟨x0, x1, x2, -, -, -⟩ := three_facts HD2.out.arg
    have g1 := HOK.out.1
    have g2 := HOK.out.2
    rw [g1, g2]
    go_wp2_with fail
    go_ret
    exact ⟨rfl, HW2.out⟩
end Go.Proofs.YtbdmmgmcbecolaaGreatDoor
namespace Go.Proofs.YtbdmmgmcbecolaaGreatDoor
open Go.RowKit
end Go.Proofs.YtbdmmgmcbecolaaGreatDoor
namespace Go.Proofs.YtbdmmgmcbecolaaGreatDoor
open Go.RowKit
open Go.Lib
end Go.Proofs.YtbdmmgmcbecolaaGreatDoor
namespace Go.Proofs.YtbdmmgmcbecolaaGreatDoor
open Go.RowKit
set_option maxRecDepth 100000 in
set_option maxHeartbeats 4000000 in
theorem apply_any (k n : Int) (t s : ByteArray) (w : World) (hk : 6 ≤ k) : Calls Tryz.prog 63 #[.agg #[.int .u8 k, .int .i64 n, .string t], .string s] w fun e w' => e = .returned (.string s) ∧ Below w.heap.size w w' := by
  have HB := Lib.hid (below_agg3 w (.int .u8 k) (.int .i64 n) (.string t) 65)
  go_enter Tryz.func63, Tryz.ntmps63
  go_wp2_with fail
  go_ret
  exact ⟨rfl, HB.out⟩
theorem apply_off (k n : Int) (t : List UInt8) (s : ByteArray) (h1 : k ≠ 1) (h2 : k ≠ 2) (h3 : k ≠ 3) (h4 : k ≠ 4) (h5 : k ≠ 5) : applyF k n t s = s.data.toList := by
  unfold applyF
  rw [if_neg h1, if_neg h2]
  by_cases hb : (headOf s).2.2 ≠ 0 ∨ (headOf s).1 = []
  · rw [if_pos hb]
  · rw [if_neg hb, if_neg h3, if_neg h5, if_neg h4]
theorem apply_bad (k n : Int) (t : List UInt8) (s : ByteArray) (h1 : k ≠ 1) (h2 : k ≠ 2) (h : (headOf s).2.2 ≠ 0 ∨ (headOf s).1.length = 0) : applyF k n t s = s.data.toList := by
  unfold applyF
  rw [if_neg h1, if_neg h2, if_pos]
  rcases h with h | h
  · exact .inl h
  · exact .inr (List.length_eq_zero_iff.1 h)
theorem fault_apply (k n : Int) (t s : ByteArray) (w : World) (hE : EnvW w) (hk0 : 0 ≤ k) (h0 : -9223372036854775808 ≤ n) (h1 : n ≤ 9223372036854775807) (ht : t.size ≤ 10000) (hs : s.size ≤ 1000000) :
    Calls Tryz.prog 63 #[.agg #[.int .u8 k, .int .i64 n, .string t], .string s] w fun e w' => e = .returned (.string (bs (applyF k n t.data.toList s))) ∧ Below w.heap.size w w' := by
  have same : applyF k n t.data.toList s = s.data.toList → (∀ (R : Ending → World → Prop), (R = fun e w' => e = .returned (.string s) ∧ Below w.heap.size w w') → Calls Tryz.prog 63 #[.agg #[.int .u8 k, .int .i64 n, .string t], .string s] w R) → Calls Tryz.prog 63 #[.agg #[.int .u8 k, .int .i64 n, .string t], .string s] w fun e w' => e = .returned (.string (bs (applyF k n t.data.toList s))) ∧ Below w.heap.size w w' := by
    intro e h
    rw [e, bs_self]
    exact h _ rfl
  rcases Int.lt_or_le k 6 with hk | hk
  case inr => exact same (apply_off k n _ s (by omega) (by omega) (by omega) (by omega) (by omega)) (fun R hR => by rw [hR]; exact apply_any k n t s w hk)
  have hc : k = 0 ∨ k = 1 ∨ k = 2 ∨ k = 3 ∨ k = 4 ∨ k = 5 := by omega
  have hh : (headOf s).2.2 ≠ 0 ∨ ((headOf s).2.2 = 0 ∧ (headOf s).1.length = 0) ∨ ((headOf s).2.2 = 0 ∧ (headOf s).1.length ≠ 0) := by omega
  have good : (headOf s).2.2 = 0 ∧ (headOf s).1.length ≠ 0 → ¬ ((headOf s).2.2 ≠ 0 ∨ (headOf s).1 = []) := by
    rintro ⟨a, b⟩ (c | c)
    · exact c a
    · exact b (by rw [c]; rfl)
  rcases hc with rfl | rfl | rfl | rfl | rfl | rfl
  · exact same (apply_off 0 n _ s (by omega) (by omega) (by omega) (by omega) (by omega)) (fun R hR => by rw [hR]; exact apply_keep n t s w hE h0 h1 ht hs)
  · exact apply_shut n t s w hE h0 h1 ht hs
  · exact apply_cut n t s w hE h0 h1 ht hs
  · rcases hh with hb | hb | hb
    · exact same (apply_bad 3 n _ s (by omega) (by omega) (.inl hb)) (fun R hR => by rw [hR]; exact apply_code_err n t s w hE hs hb)
    · exact same (apply_bad 3 n _ s (by omega) (by omega) (.inr hb.2)) (fun R hR => by rw [hR]; exact apply_code_none n t s w hE hs hb)
    · have e : applyF 3 n t.data.toList s = codeF n s := by
        unfold applyF codeF
        rw [if_neg (by omega), if_neg (by omega), if_neg (good hb), if_pos rfl]
      rw [e]
      exact apply_code n t s w hE h0 h1 ht hs hb
  · rcases hh with hb | hb | hb
    · exact same (apply_bad 4 n _ s (by omega) (by omega) (.inl hb)) (fun R hR => by rw [hR]; exact apply_place_err n t s w hE hs hb)
    · exact same (apply_bad 4 n _ s (by omega) (by omega) (.inr hb.2)) (fun R hR => by rw [hR]; exact apply_place_none n t s w hE hs hb)
    · have e : applyF 4 n t.data.toList s = placeT t.data.toList s (headOf s).1 := by
        unfold applyF placeT
        rw [if_neg (by omega), if_neg (by omega), if_neg (good hb), if_neg (by omega), if_neg (by omega), if_pos rfl]
        cases placeF crangeN (headOf s).1 0 <;> rfl
      rw [e]
      exact apply_place n t s w hE h0 h1 ht hs hb
  · rcases hh with hb | hb | hb
    · exact same (apply_bad 5 n _ s (by omega) (by omega) (.inl hb)) (fun R hR => by rw [hR]; exact apply_garble_err n t s w hE hs hb)
    · exact same (apply_bad 5 n _ s (by omega) (by omega) (.inr hb.2)) (fun R hR => by rw [hR]; exact apply_garble_none n t s w hE hs hb)
    · have e : applyF 5 n t.data.toList s = garbleF t.data.toList s (headOf s).1 := by
        unfold applyF garbleF
        rw [if_neg (by omega), if_neg (by omega), if_neg (good hb), if_neg (by omega), if_pos rfl]
      rw [e]
      exact apply_garble n t s w hE h0 h1 ht hs hb
/-- does a fault make another text of s? -/
def harmF (k n : Int) (t : List UInt8) (s : ByteArray) : Bool := decide (applyF k n t s ≠ s.data.toList)
end Go.Proofs.YtbdmmgmcbecolaaGreatDoor
namespace Go.Proofs.YtbdmmgmcbecolaaGreatDoor
open Go.RowKit
theorem rhead_some (s : ByteArray) (w : World) (hs : s.size ≤ 1000000) : Calls Tryz.prog 53 #[.string s] w fun e w' => ∃ a c, e = .returned (.tuple #[.slice a (headOf s).1.length c, .int .i64 (headOf s).2.1, .int .i64 (headOf s).2.2]) ∧ HoldsS w' (.slice a (headOf s).1.length c) (headOf s).1 ∧ Below w.heap.size w w' := by
  refine (ref_head s w (by omega)).mono ?_
  rintro e w' ⟨v, rfl, ho, hb⟩
  obtain ⟨a, c, rfl⟩ := slice_of_own ho
  exact ⟨a, c, rfl, HoldsS.of_own ho, hb⟩
set_option maxRecDepth 100000 in
set_option maxHeartbeats 2000000 in
theorem rapply_shut (n : Int) (t s : ByteArray) (w : World) :
    Calls Tryz.prog 70 #[.agg #[.int .u8 1, .int .i64 n, .string t], .string s] w fun e w' => e = .returned (.string ⟨#[]⟩) ∧ Below w.heap.size w w' := by
  have HB := Lib.hid (below_agg3 w (.int .u8 1) (.int .i64 n) (.string t) 148)
  go_enter Tryz.func70, Tryz.ntmps70
  go_wp2_with fail
  go_ret
  exact ⟨rfl, HB.out⟩
set_option maxRecDepth 100000 in
set_option maxHeartbeats 2000000 in
theorem rapply_cut (n : Int) (t s : ByteArray) (w : World) :
    Calls Tryz.prog 70 #[.agg #[.int .u8 2, .int .i64 n, .string t], .string s] w fun e w' => e = .returned (.string (bs (s.data.toList.take (max 0 (min n (s.size : Int))).toNat))) ∧ Below w.heap.size w w' := by
  have HB := Lib.hid (below_agg3 w (.int .u8 2) (.int .i64 n) (.string t) 148)
  go_enter Tryz.func70, Tryz.ntmps70
  go_wp2_with fail
  go_ret
  exact ⟨ret_str (bs_take _ _), HB.out⟩
set_option maxRecDepth 100000 in
set_option maxHeartbeats 2000000 in
theorem rapply_bad (k n : Int) (t s : ByteArray) (w : World) (hs : s.size ≤ 1000000) (h1 : k ≠ 1) (h2 : k ≠ 2) (hok : (headOf s).2.2 ≠ 0 ∨ ((headOf s).2.2 = 0 ∧ (headOf s).1.length = 0)) :
    Calls Tryz.prog 70 #[.agg #[.int .u8 k, .int .i64 n, .string t], .string s] w fun e w' => e = .returned (.string s) ∧ Below w.heap.size w w' := by
  have HB := Lib.hid (below_agg3 w (.int .u8 k) (.int .i64 n) (.string t) 148)
  have HH := Lib.hid (fun W => rhead_some s W hs)
  have u1 : (k == 1) = false := beq_eq_false_iff_ne.2 h1
  have u2 : (k == 2) = false := beq_eq_false_iff_ne.2 h2
  rcases hok with hok | hok
  · have g2 : (((headOf s).2.2 : Int) != 0) = true := by rw [bne_iff_ne]; omega
    generalize (headOf s).2.2 = ER at HH g2 hok
    go_enter Tryz.func70, Tryz.ntmps70
    go_wp2_with fail
    refine (HH.out _).mono ?_
    rintro e W2 ⟨al, cl, rfl, hhs, hb2⟩
    have HB2 := Lib.hid hb2
    clear hhs hb2
    go_wp2_with fail
    go_ret
    exact ⟨rfl, bstep HB.out HB2.out⟩
  · obtain ⟨g1, g2⟩ := hok
    rw [g1, g2] at HH
    clear g1 g2
    go_enter Tryz.func70, Tryz.ntmps70
    go_wp2_with fail
    refine (HH.out _).mono ?_
    rintro e W2 ⟨al, cl, rfl, hhs, hb2⟩
    have HB2 := Lib.hid hb2
    clear hhs hb2
    go_wp2_with fail
    go_ret
    exact ⟨rfl, bstep HB.out HB2.out⟩
structure RD (W0 W1 : World) (X : Nat) (k n : Int) (t : ByteArray) : Prop where
  bel : Below W0.heap.size W0 W1
  arg : W1.heap[X]? = some (.cells #[.int .u8 k, .int .i64 n, .string t] 148 (0, 0))
  lt : X < W0.heap.size
theorem RD.start (w : World) (k n : Int) (t : ByteArray) : RD (w.alloc (.cells #[.int .u8 k, .int .i64 n, .string t] 148)) (w.alloc (.cells #[.int .u8 k, .int .i64 n, .string t] 148)) w.heap.size k n t := ⟨Below.refl _ _, heap_alloc_new w _, by simp⟩
theorem RD.step {W0 W1 W2 : World} {X : Nat} {k n : Int} {t : ByteArray} (h : RD W0 W1 X k n t) (hb : Below W1.heap.size W1 W2) : RD W0 W2 X k n t := ⟨bstep h.bel hb, (hb.block X (Nat.lt_of_lt_of_le h.lt h.bel.size)).trans h.arg, h.lt⟩
theorem RD.cells {W0 W1 : World} {X : Nat} {k n : Int} {t : ByteArray} (h : RD W0 W1 X k n t) : W1.cell? ⟨X, 0, none⟩ = some (.int .u8 k) ∧ W1.cell? ⟨X, 1, none⟩ = some (.int .i64 n) ∧ W1.cell? ⟨X, 2, none⟩ = some (.string t) :=
  let ⟨a, b, c, _⟩ := three_facts h.arg
  ⟨a, b, c⟩
set_option maxRecDepth 100000 in
set_option maxHeartbeats 2000000 in
theorem rapply_code (n : Int) (t s : ByteArray) (w : World) (h0 : -9223372036854775808 ≤ n) (h1 : n ≤ 9223372036854775807) (hs : s.size ≤ 1000000) (hok : (headOf s).2.2 = 0 ∧ (headOf s).1.length ≠ 0) :
    Calls Tryz.prog 70 #[.agg #[.int .u8 3, .int .i64 n, .string t], .string s] w fun e w' => e = .returned (.string (bs (codeF n s))) ∧ Below w.heap.size w w' := by
  have HB := Lib.hid (below_agg3 w (.int .u8 3) (.int .i64 n) (.string t) 148)
  have HD := Lib.hid (RD.start w 3 n t)
  have HH := Lib.hid (fun W => rhead_some s W hs)
  have HS := Lib.hid (fun w => ref_print n w h0 h1)
  have HP := Lib.hid (fun W => ref_line s (printOf n) 0 W hs (Nat.le_trans (printOf_size n) (by decide)) (by decide))
  obtain ⟨g1, g2⟩ := hok
  have g3 : (((headOf s).1.length : Int) == 0) = false := by rw [beq_eq_false_iff_ne]; omega
  have g4 : ¬ (((headOf s).1.length : Int) = 0) := by omega
  rw [g1] at HH
  generalize (headOf s).1.length = LN at HH g3 g4
  clear g1 g2
  by_cases he : printErr n = 0
  · have HR : Hid (codeF n s = putF s 0 (printOf n).data.toList) := Lib.hid (if_neg (fun h => h he))
    rw [he] at HS
    clear he
    go_enter Tryz.func70, Tryz.ntmps70
    go_wp2_with fail
    generalize w.alloc (.cells #[.int .u8 3, .int .i64 n, .string t] 148) = W0 at HB HD ⊢
    generalize w.heap.size = X at HD ⊢
    refine (HH.out _).mono ?_
    rintro e W2 ⟨al, cl, rfl, hhs, hb2⟩
    have HD2 := Lib.hid (HD.out.step hb2)
    obtain ⟨x0, x1, x2⟩ := HD2.out.cells
    clear hhs hb2 HH
    go_wp2_with fail
    refine (HS.out _).mono ?_
    rintro e W3 ⟨rfl, hb3⟩
    have HD3 := Lib.hid (HD2.out.step hb3)
    clear hb3 x0 x1 x2
    go_wp2_with fail
    refine (HP.out _).mono ?_
    rintro e W4 ⟨rfl, hb4⟩
    have HD4 := Lib.hid (HD3.out.step hb4)
    clear hb4
    go_wp2_with fail
    go_ret
    exact ⟨ret_str (by rw [HR.out]), bstep HB.out HD4.out.bel⟩
  · have HR : Hid (s = bs (codeF n s)) := Lib.hid (by unfold codeF; rw [if_pos he, bs_self])
    have tz : ((printErr n : Int) != 0) = true := by rw [bne_iff_ne]; omega
    generalize printErr n = E at HS tz
    clear he
    go_enter Tryz.func70, Tryz.ntmps70
    go_wp2_with fail
    generalize w.alloc (.cells #[.int .u8 3, .int .i64 n, .string t] 148) = W0 at HB HD ⊢
    generalize w.heap.size = X at HD ⊢
    refine (HH.out _).mono ?_
    rintro e W2 ⟨al, cl, rfl, hhs, hb2⟩
    have HD2 := Lib.hid (HD.out.step hb2)
    obtain ⟨x0, x1, x2⟩ := HD2.out.cells
    clear hhs hb2 HH
    go_wp2_with fail
    refine (HS.out _).mono ?_
    rintro e W3 ⟨rfl, hb3⟩
    have HD3 := Lib.hid (HD2.out.step hb3)
    clear hb3 x0 x1 x2
    go_wp2_with fail
    go_ret
    exact ⟨ret_str HR.out, bstep HB.out HD3.out.bel⟩
end Go.Proofs.YtbdmmgmcbecolaaGreatDoor
namespace Go.Proofs.YtbdmmgmcbecolaaGreatDoor
open Go.RowKit
set_option maxRecDepth 100000 in
set_option maxHeartbeats 4000000 in
theorem rapply_garble (n : Int) (t s : ByteArray) (w : World) (hs : s.size ≤ 1000000) (ht : t.size ≤ 1000000) (hok : (headOf s).2.2 = 0 ∧ (headOf s).1.length ≠ 0) :
    Calls Tryz.prog 70 #[.agg #[.int .u8 5, .int .i64 n, .string t], .string s] w fun e w' => e = .returned (.string (bs (garbleF t.data.toList s (headOf s).1))) ∧ Below w.heap.size w w' := by
  have HB := Lib.hid (below_agg3 w (.int .u8 5) (.int .i64 n) (.string t) 148)
  have HD := Lib.hid (RD.start w 5 n t)
  have HH := Lib.hid (fun W => rhead_some s W hs)
  have HC := Lib.hid (fun W => ref_clean t W ht)
  have HP := Lib.hid (fun W => ref_line s (bs (cleanL t.data.toList)) 1 W hs (Nat.le_trans (clean_size t) ht) (by decide))
  obtain ⟨g1, g2⟩ := hok
  have g3 : (((headOf s).1.length : Int) == 0) = false := by rw [beq_eq_false_iff_ne]; omega
  have g4 : ¬ (((headOf s).1.length : Int) = 0) := by omega
  rw [g1] at HH
  by_cases hl : (headOf s).1.length < 2
  · have HR : Hid (s = bs (garbleF t.data.toList s (headOf s).1)) := Lib.hid (by unfold garbleF; rw [if_pos hl, bs_self])
    have hl1 : ¬ ((1 : Int) < ((headOf s).1.length : Int)) := by omega
    generalize (headOf s).1.length = LN at HH g3 g4 hl1
    clear g1 g2 hl
    go_enter Tryz.func70, Tryz.ntmps70
    go_wp2_with fail
    generalize w.alloc (.cells #[.int .u8 5, .int .i64 n, .string t] 148) = W0 at HB HD ⊢
    generalize w.heap.size = X at HD ⊢
    refine (HH.out _).mono ?_
    rintro e W2 ⟨al, cl, rfl, hhs, hb2⟩
    have HD2 := Lib.hid (HD.out.step hb2)
    obtain ⟨x0, x1, x2⟩ := HD2.out.cells
    clear hhs hb2 HH
    go_wp2_with fail
    refine wp_loop_rounds 1 ?_
    rw [rounds_succ]
    go_wp2_with fail
    go_ret
    exact ⟨ret_str HR.out, bstep HB.out HD2.out.bel⟩
  · have HR : Hid (garbleF t.data.toList s (headOf s).1 = putF s 1 (bs (cleanL t.data.toList)).data.toList) := Lib.hid (by unfold garbleF; rw [if_neg hl, bs_data])
    have hl1 : (1 : Int) < ((headOf s).1.length : Int) := by omega
    generalize bs (cleanL t.data.toList) = Q at HC HP HR
    generalize (headOf s).1.length = LN at HH g3 g4 hl1
    clear g1 g2 hl
    go_enter Tryz.func70, Tryz.ntmps70
    go_wp2_with fail
    generalize w.alloc (.cells #[.int .u8 5, .int .i64 n, .string t] 148) = W0 at HB HD ⊢
    generalize w.heap.size = X at HD ⊢
    refine (HH.out _).mono ?_
    rintro e W2 ⟨al, cl, rfl, hhs, hb2⟩
    have HD2 := Lib.hid (HD.out.step hb2)
    obtain ⟨x0, x1, x2⟩ := HD2.out.cells
    clear hhs hb2 HH
    go_wp2_with fail
    refine (HC.out _).mono ?_
    rintro e W3 ⟨rfl, rfl⟩
    go_wp2_with fail
    refine (HP.out _).mono ?_
    rintro e W4 ⟨rfl, hb4⟩
    have HD4 := Lib.hid (HD2.out.step hb4)
    clear hb4
    go_wp2_with fail
    go_ret
    exact ⟨ret_str (by rw [HR.out]), bstep HB.out HD4.out.bel⟩
set_option maxRecDepth 100000 in
set_option maxHeartbeats 4000000 in
theorem rapply_rest (k n : Int) (t s : ByteArray) (w : World) (hs : s.size ≤ 1000000) (h1 : k ≠ 1) (h2 : k ≠ 2) (h3 : k ≠ 3) (h4 : k ≠ 4) (h5 : k ≠ 5) (hok : (headOf s).2.2 = 0 ∧ (headOf s).1.length ≠ 0) :
    Calls Tryz.prog 70 #[.agg #[.int .u8 k, .int .i64 n, .string t], .string s] w fun e w' => e = .returned (.string s) ∧ Below w.heap.size w w' := by
  have HB := Lib.hid (below_agg3 w (.int .u8 k) (.int .i64 n) (.string t) 148)
  have HD := Lib.hid (RD.start w k n t)
  have HH := Lib.hid (fun W => rhead_some s W hs)
  have u1 : (k == 1) = false := beq_eq_false_iff_ne.2 h1
  have u2 : (k == 2) = false := beq_eq_false_iff_ne.2 h2
  have u3 : (k == 3) = false := beq_eq_false_iff_ne.2 h3
  have u4 : (k == 4) = false := beq_eq_false_iff_ne.2 h4
  have u5 : (k == 5) = false := beq_eq_false_iff_ne.2 h5
  obtain ⟨g1, g2⟩ := hok
  have g3 : (((headOf s).1.length : Int) == 0) = false := by rw [beq_eq_false_iff_ne]; omega
  have g4 : ¬ (((headOf s).1.length : Int) = 0) := by omega
  rw [g1] at HH
  generalize (headOf s).1.length = LN at HH g3 g4
  clear g1 g2
  by_cases hl1 : (1 : Int) < (LN : Int)
  all_goals
    go_enter Tryz.func70, Tryz.ntmps70
    go_wp2_with fail
    generalize w.alloc (.cells #[.int .u8 k, .int .i64 n, .string t] 148) = W0 at HB HD ⊢
    generalize w.heap.size = X at HD ⊢
    refine (HH.out _).mono ?_
    rintro e W2 ⟨al, cl, rfl, hhs, hb2⟩
    have HD2 := Lib.hid (HD.out.step hb2)
    obtain ⟨x0, x1, x2⟩ := HD2.out.cells
    clear hhs hb2 HH
    go_wp2_with fail
    refine wp_loop_rounds 1 ?_
    rw [rounds_succ]
    go_wp2_with fail
    go_ret
    exact ⟨rfl, bstep HB.out HD2.out.bel⟩
set_option maxRecDepth 100000 in
set_option maxHeartbeats 4000000 in
theorem rapply_place (n : Int) (t s : ByteArray) (w : World) (hs : s.size ≤ 1000000) (ht : t.size ≤ 10000) (hok : (headOf s).2.2 = 0 ∧ (headOf s).1.length ≠ 0) :
    Calls Tryz.prog 70 #[.agg #[.int .u8 4, .int .i64 n, .string t], .string s] w fun e w' => e = .returned (.string (bs (placeT t.data.toList s (headOf s).1))) ∧ Below w.heap.size w w' := by
  have HB := Lib.hid (below_agg3 w (.int .u8 4) (.int .i64 n) (.string t) 148)
  have HD := Lib.hid (RD.start w 4 n t)
  have HH := Lib.hid (fun W => rhead_some s W hs)
  have HC := Lib.hid (fun W => ref_clean t W (by omega))
  have hq : (bs (crangeF ++ cleanL t.data.toList)).size ≤ 1000000 := by
    have := clean_size t
    rw [bs_size] at this
    rw [bs_size, List.length_append, show crangeF.length = 15 from rfl]; omega
  have HP := Lib.hid (fun (i : Nat) (hi : i ≤ 1000) W => ref_line s (bs (crangeF ++ cleanL t.data.toList)) i W hs hq (by omega))
  have hbd := headOf_bound s
  have HF := Lib.hid (fun (x : List UInt8) (hx : x.length ≤ 256) w => by have := ref_fparse (bs x) w (by rw [bs_size]; omega); rw [bs_data] at this; exact this)
  obtain ⟨g1, g2⟩ := hok
  have g3 : (((headOf s).1.length : Int) == 0) = false := by rw [beq_eq_false_iff_ne]; omega
  have g4 : ¬ (((headOf s).1.length : Int) = 0) := by omega
  have hl1 : 1 ≤ (headOf s).1.length := by omega
  rw [g1] at HH
  generalize (headOf s).1 = ls at HH g3 g4 hl1 hbd ⊢
  have HBD := Lib.hid hbd
  have HT : Hid (∀ i, placeF crangeN ls 0 = some i → placeT t.data.toList s ls = putF s i (bs (crangeF ++ cleanL t.data.toList)).data.toList) := Lib.hid (fun i hi => by unfold placeT; rw [hi, bs_data])
  have HT0 : Hid (placeF crangeN ls 0 = none → s = bs (placeT t.data.toList s ls)) := Lib.hid (fun hi => by unfold placeT; rw [hi, bs_self])
  have padd := fun w => run_string_add_sum (P := Tryz.prog) w (⟨#[67, 111, 110, 116, 101, 110, 116, 45, 82, 97, 110, 103, 101, 58, 32]⟩ : ByteArray) (bs (cleanL t.data.toList)) (by have h1 := clean_size t; have e : crangeB.size = (⟨#[67, 111, 110, 116, 101, 110, 116, 45, 82, 97, 110, 103, 101, 58, 32]⟩ : ByteArray).size := rfl; have e2 : crangeB.size = 15 := rfl; rw [← e]; omega)
  have HCAT : Hid ((⟨#[67, 111, 110, 116, 101, 110, 116, 45, 82, 97, 110, 103, 101, 58, 32]⟩ : ByteArray) ++ bs (cleanL t.data.toList) = bs (crangeF ++ cleanL t.data.toList)) := Lib.hid (crange_cat (cleanL t.data.toList))
  generalize bs (cleanL t.data.toList) = Q at HC padd HCAT
  generalize bs (crangeF ++ cleanL t.data.toList) = R at HP HT HCAT
  clear g1 g2 hbd hq
  go_enter Tryz.func70, Tryz.ntmps70
  go_wp2_with fail
  generalize w.alloc (.cells #[.int .u8 4, .int .i64 n, .string t] 148) = W0 at HB HD ⊢
  generalize w.heap.size = X at HD ⊢
  refine (HH.out _).mono ?_
  rintro e W2 ⟨al, c, rfl, hhs, hb2⟩
  have HD2 := Lib.hid (HD.out.step hb2)
  obtain ⟨x0, x1, x2⟩ := HD2.out.cells
  obtain ⟨al', c', hv, hc, hcell⟩ := hhs
  obtain ⟨rfl, rfl⟩ : al = al' ∧ c = c' := by
    simp only [Value.slice.injEq] at hv
    exact ⟨hv.1, hv.2.2⟩
  have HCL := Lib.hid hcell
  clear hv hcell hb2 HH HD
  go_wp2_with fail
  clear x0 x1 x2
  go_loopg [10] (ls.length - 1) (fun gk s10 wr => ∃ i : Nat, s10 = .int .i64 (i : Int) ∧ 1 ≤ i ∧ i + gk = ls.length ∧ Below W2.heap.size W2 wr ∧ Hid (∀ j (hj : j < ls.length), j < i → ¬ (0 < 0 + j ∧ parseE ls[j] = 0 ∧ parseN ls[j] = crangeN)))
  case atStart => exact ⟨1, rfl, Nat.le_refl _, by omega, Below.refl _ _, Lib.hid (fun j hj h hh => by omega)⟩
  case round =>
    obtain ⟨i, rfl, hi1, hgk, hb, HK⟩ := hrel
    have HDr := Lib.hid (HD2.out.step hb)
    obtain ⟨x0, x1, x2⟩ := HDr.out.cells
    cases gk with
    | zero =>
      obtain rfl : i = ls.length := by omega
      clear hb padd
      go_wp2_with fail
      go_ret
      exact ⟨ret_str (HT0.out (place_miss crangeN ls 0 (fun j hj => HK.out j hj hj))), bstep HB.out HDr.out.bel⟩
    | succ gm =>
      have hi : i < ls.length := by omega
      have hii : (i : Int) < (ls.length : Int) := by omega
      obtain ⟨b, o, rfl, hbl, hcl⟩ := HCL.out (by intro e; rw [e] at hi; simp at hi)
      have hci := (hb.cell (p := ⟨b, o + i, none⟩) hbl).trans (hcl i hi)
      have hic : (i : Int) < (c : Int) := by omega
      have HFi := Lib.hid (HF.out ls[i] (HBD.out.1 _ (List.getElem_mem hi)) wr)
      have HBw := Lib.hid hb
      have hwk : IntKind.i64.wrap ((i : Int) + 1) = (i : Int) + 1 := by rw [IntKind.wrap_i64]; have := HBD.out.2; omega
      obtain ⟨E, hEq⟩ : ∃ E, parseE ls[i] = E := ⟨_, rfl⟩
      obtain ⟨NM, hNq⟩ : ∃ NM, parseN ls[i] = NM := ⟨_, rfl⟩
      have HEN := Lib.hid (And.intro hEq hNq)
      rw [hEq, hNq] at HFi
      have hnm : ((bs NM).toList == [99, 111, 110, 116, 101, 110, 116, 45, 114, 97, 110, 103, 101]) = decide (NM = crangeN) := bs_lit _ _
      clear hcl hb hEq hNq
      have next : ¬ (E = 0 ∧ NM = crangeN) → Hid (∀ j (hj : j < ls.length), j < i + 1 → ¬ (0 < 0 + j ∧ parseE ls[j] = 0 ∧ parseN ls[j] = crangeN)) := fun hno => Lib.hid (fun j hj hji hh => by
        rcases Nat.lt_or_ge j i with h1 | h1
        · exact HK.out j hj h1 hh
        · obtain rfl : j = i := by omega
          rw [HEN.out.1, HEN.out.2, Nat.zero_add] at hh
          exact hno hh.2)
      by_cases hp : E = 0 ∧ NM = crangeN
      · obtain ⟨rfl, rfl⟩ := hp
        have HHt := Lib.hid (place_hit crangeN ls 0 i hi HK.out ⟨by omega, HEN.out.1, HEN.out.2⟩)
        rw [decide_eq_true rfl] at hnm
        clear next
        generalize bs crangeN = CN at HFi hnm
        have hcat := HCAT.out
        go_wp2_with fail
        refine HFi.out.mono ?_
        rintro e w1 ⟨rfl, hb1⟩
        have HD1 := Lib.hid (HDr.out.step hb1)
        obtain ⟨y0, y1, y2⟩ := HD1.out.cells
        have hX1 : X ≠ w1.heap.size := Nat.ne_of_lt (Nat.lt_of_lt_of_le HD1.out.lt HD1.out.bel.size)
        have hX3 : ∀ A, (w1.alloc A).cell? ⟨X, 2, none⟩ = some (.string t) := fun A => (World.cell?_alloc_old w1 A ⟨X, 2, none⟩ hX1).trans y2
        clear hb1 hci x0 x1 x2
        go_wp2_with fail
        refine (HC.out _).mono ?_
        rintro e w2 ⟨rfl, rfl⟩
        go_wp2_with fail
        refine (HP.out i (by have := HBD.out.2; omega) _).mono ?_
        rintro e w3 ⟨rfl, hb3⟩
        have HB3 := Lib.hid (bstep HD1.out.bel (bstep ((Below.refl _ _).alloc (Nat.le_refl _) _) hb3))
        clear hb3
        go_wp2_with fail
        go_ret
        exact ⟨ret_str (by rw [HT.out i (by have := HHt.out; rwa [Nat.zero_add] at this)]), bstep HB.out HB3.out⟩
      · have HN := next hp
        clear next padd
        by_cases hE0 : E = 0
        · subst hE0
          have hNM : ¬ NM = crangeN := fun e => hp ⟨rfl, e⟩
          rw [decide_eq_false hNM] at hnm
          clear hp hNM
          go_wp2_with fail
          refine HFi.out.mono ?_
          rintro e w1 ⟨rfl, hb1⟩
          have HB1 := Lib.hid (bstep HBw.out (bstep hb1 ((Below.refl _ _).alloc (Nat.le_refl _) (.cells #[.string (bs NM), .string (bs (parseV ls[i]))] 139))))
          clear hb1 hci x0 x1 x2
          generalize bs NM = NB at *
          go_wp2_with fail
          go_roundg gm
          case measure => omega
          case rel => exact ⟨i + 1, rfl, by omega, by omega, HB1.out, HN⟩
        · have tz : ((E : Int) == 0) = false := by rw [beq_eq_false_iff_ne]; omega
          have tz2 : ¬ ((E : Int) = 0) := by omega
          clear hp
          go_wp2_with fail
          refine HFi.out.mono ?_
          rintro e w1 ⟨rfl, hb1⟩
          have HB1 := Lib.hid (bstep HBw.out (bstep hb1 ((Below.refl _ _).alloc (Nat.le_refl _) (.cells #[.string (bs NM), .string (bs (parseV ls[i]))] 139))))
          clear hb1 hci x0 x1 x2
          go_wp2_with fail
          go_roundg gm
          case measure => omega
          case rel => exact ⟨i + 1, rfl, by omega, by omega, HB1.out, HN⟩
theorem ref_apply (k n : Int) (t s : ByteArray) (w : World) (h0 : -9223372036854775808 ≤ n) (h1 : n ≤ 9223372036854775807) (ht : t.size ≤ 10000) (hs : s.size ≤ 1000000) :
    Calls Tryz.prog 70 #[.agg #[.int .u8 k, .int .i64 n, .string t], .string s] w fun e w' => e = .returned (.string (bs (applyF k n t.data.toList s))) ∧ Below w.heap.size w w' := by
  have same : applyF k n t.data.toList s = s.data.toList → (∀ (R : Ending → World → Prop), (R = fun e w' => e = .returned (.string s) ∧ Below w.heap.size w w') → Calls Tryz.prog 70 #[.agg #[.int .u8 k, .int .i64 n, .string t], .string s] w R) → Calls Tryz.prog 70 #[.agg #[.int .u8 k, .int .i64 n, .string t], .string s] w fun e w' => e = .returned (.string (bs (applyF k n t.data.toList s))) ∧ Below w.heap.size w w' := by
    intro e h
    rw [e, bs_self]
    exact h _ rfl
  have hh : ((headOf s).2.2 ≠ 0 ∨ ((headOf s).2.2 = 0 ∧ (headOf s).1.length = 0)) ∨ ((headOf s).2.2 = 0 ∧ (headOf s).1.length ≠ 0) := by omega
  have good : (headOf s).2.2 = 0 ∧ (headOf s).1.length ≠ 0 → ¬ ((headOf s).2.2 ≠ 0 ∨ (headOf s).1 = []) := by
    rintro ⟨a, b⟩ (c | c)
    · exact c a
    · exact b (by rw [c]; rfl)
  by_cases k1 : k = 1
  · subst k1; exact rapply_shut n t s w
  by_cases k2 : k = 2
  · subst k2; exact rapply_cut n t s w
  rcases hh with hb | hb
  · exact same (apply_bad k n _ s k1 k2 (hb.elim .inl (fun h => .inr h.2))) (fun R hR => by rw [hR]; exact rapply_bad k n t s w hs k1 k2 hb)
  by_cases k3 : k = 3
  · subst k3
    have e : applyF 3 n t.data.toList s = codeF n s := by
      unfold applyF codeF
      rw [if_neg (by omega), if_neg (by omega), if_neg (good hb), if_pos rfl]
    rw [e]
    exact rapply_code n t s w h0 h1 hs hb
  by_cases k4 : k = 4
  · subst k4
    have e : applyF 4 n t.data.toList s = placeT t.data.toList s (headOf s).1 := by
      unfold applyF placeT
      rw [if_neg (by omega), if_neg (by omega), if_neg (good hb), if_neg (by omega), if_neg (by omega), if_pos rfl]
      cases placeF crangeN (headOf s).1 0 <;> rfl
    rw [e]
    exact rapply_place n t s w hs ht hb
  by_cases k5 : k = 5
  · subst k5
    have e : applyF 5 n t.data.toList s = garbleF t.data.toList s (headOf s).1 := by
      unfold applyF garbleF
      rw [if_neg (by omega), if_neg (by omega), if_neg (good hb), if_neg (by omega), if_pos rfl]
    rw [e]
    exact rapply_garble n t s w hs (by omega) hb
  exact same (apply_off k n _ s k1 k2 k3 k4 k5) (fun R hR => by rw [hR]; exact rapply_rest k n t s w hs k1 k2 k3 k4 k5 hb)
end Go.Proofs.YtbdmmgmcbecolaaGreatDoor
namespace Go.Proofs.YtbdmmgmcbecolaaGreatDoor
open Go.RowKit
theorem toldE_ok (a b t : Int) (h : toldE a b t = 0) : rErr a b = 0 ∧ b < t ∧ t ≤ 9007199254740991 := by
  unfold toldE at h
  split at h
  · exact absurd h (by assumption)
  · split at h
    · exact absurd h (by decide)
    · exact ⟨by omega, by omega, by omega⟩
theorem toldL_eq (a b t : Int) (h : toldE a b t = 0) : toldL a b t = tellsL ++ (Go.Lib.decDigits a.toNat ++ 45 :: (Go.Lib.decDigits b.toNat ++ 47 :: Go.Lib.decDigits t.toNat)) := by
  obtain ⟨h1, h2, h3⟩ := toldE_ok a b t h
  obtain ⟨g1, g2, g3⟩ := rErr_ok a b h1
  unfold toldL textR digL
  rw [if_pos h, if_neg (by omega), if_neg (by omega), if_neg (by omega)]
  simp
theorem dec_len (n : Nat) (h : n ≤ 9223372036854775807) : (Go.Lib.decDigits n).length ≤ 20 := by
  have := digL_len (n : Int) (by omega)
  rw [digL_nat] at this
  exact this
theorem toldL_len (a b t : Int) : (toldL a b t).length ≤ 80 := by
  by_cases h : toldE a b t = 0
  · obtain ⟨h1, h2, h3⟩ := toldE_ok a b t h
    obtain ⟨g1, g2, g3⟩ := rErr_ok a b h1
    rw [toldL_eq a b t h]
    have e1 := dec_len a.toNat (by omega)
    have e2 := dec_len b.toNat (by omega)
    have e3 := dec_len t.toNat (by omega)
    have e4 : tellsL.length = 6 := rfl
    simp only [List.length_append, List.length_cons]
    omega
  · unfold toldL; rw [if_neg h]; exact Nat.zero_le _
theorem dec_plain (n : Nat) : ∀ c ∈ Go.Lib.decDigits n, plainB c.toNat = true := by
  intro c hc
  have := digN_bd _ (List.all_eq_true.1 (decDigits_all n) c hc)
  unfold plainB
  simp
  omega
/-- the name of the field that tells a range -/
def crangeK : List UInt8 := [99, 111, 110, 116, 101, 110, 116, 45, 114, 97, 110, 103, 101]
theorem told_gap (a b t : Int) (h : toldE a b t = 0) : printOk crangeK (toldL a b t) = true := by
  unfold printOk
  rw [show nameL crangeK = true by decide, Bool.true_and, Bool.and_eq_true, toldL_eq a b t h]
  refine ⟨?_, ?_⟩
  · refine List.all_eq_true.2 fun c hc => ?_
    rcases List.mem_append.1 hc with hc | hc
    · exact List.all_eq_true.1 (show (tellsL.all fun c => plainB c.toNat) = true by decide) c hc
    rcases List.mem_append.1 hc with hc | hc
    · exact dec_plain _ c hc
    rcases List.mem_cons.1 hc with rfl | hc
    · decide
    rcases List.mem_append.1 hc with hc | hc
    · exact dec_plain _ c hc
    rcases List.mem_cons.1 hc with rfl | hc
    · decide
    · exact dec_plain _ c hc
  · unfold noGap
    have e1 : headGap (tellsL ++ (Go.Lib.decDigits a.toNat ++ 45 :: (Go.Lib.decDigits b.toNat ++ 47 :: Go.Lib.decDigits t.toNat))) = false := by
      unfold tellsL; rfl
    have e2 : tellsL ++ (Go.Lib.decDigits a.toNat ++ 45 :: (Go.Lib.decDigits b.toNat ++ 47 :: Go.Lib.decDigits t.toNat)) = (tellsL ++ (Go.Lib.decDigits a.toNat ++ 45 :: (Go.Lib.decDigits b.toNat ++ [47]))) ++ Go.Lib.decDigits t.toNat := by simp
    rw [e1, e2, dig_last]
    rfl
theorem told_field (a b t : Int) (h : toldE a b t = 0) : fieldE crangeK (toldL a b t) = 0 := by
  unfold fieldE
  rw [if_pos (told_gap a b t h), if_neg]
  have := toldL_len a b t
  have e : (titL true crangeK).length = 13 := by decide
  unfold printL tailV
  split <;> simp only [List.length_append, List.length_cons, List.length_nil, e] <;> omega
theorem clip_ok (a b t : Int) (h : clipE a b t = 0) : rErr a b = 0 ∧ a < t ∧ clipA a b t = a ∧ clipB a b t = (if b < t - 1 then b else t - 1) := by
  have hh := h
  unfold clipE at hh
  split at hh
  · exact absurd hh (by assumption)
  · split at hh
    · exact absurd hh (by decide)
    · refine ⟨by omega, by omega, ?_, ?_⟩
      · unfold clipA; rw [if_pos h]
      · unfold clipB; rw [if_pos h]
theorem clip_told (a b t : Int) (h : clipE a b t = 0) (ht : t ≤ 9007199254740991) : toldE (clipA a b t) (clipB a b t) t = 0 := by
  obtain ⟨h1, h2, h3, h4⟩ := clip_ok a b t h
  obtain ⟨g1, g2, g3⟩ := rErr_ok a b h1
  rw [h3, h4]
  have hr : rErr a (if b < t - 1 then b else t - 1) = 0 := by
    unfold rErr
    rw [if_neg]
    split <;> omega
  unfold toldE
  rw [if_neg (by rw [hr]; decide), if_neg (by split <;> omega)]
end Go.Proofs.YtbdmmgmcbecolaaGreatDoor
namespace Go.Proofs.YtbdmmgmcbecolaaGreatDoor
open Go.RowKit
/-- a reply of the program's that lies in a block -/
structure PAt (w : World) (b : Nat) (c : Int) (a : Option Addr) (n cp : Nat) (fs : List (List UInt8 × List UInt8)) (x : ByteArray) : Prop where
  blk : w.heap[b]? = some (.cells #[.int .i64 c, .slice a n cp, .string x] 113 (0, 0))
  own : ∃ B, w.ownsRow B 161 2 (.slice a n cp) n (fcells fs)
theorem PAt.lt {w : World} {b : Nat} {c : Int} {a : Option Addr} {n cp : Nat} {fs : List (List UInt8 × List UInt8)} {x : ByteArray} (h : PAt w b c a n cp fs x) : b < w.heap.size := (Array.getElem?_eq_some_iff.1 h.blk).1
theorem PAt.below {w w' : World} {b : Nat} {c : Int} {a : Option Addr} {n cp : Nat} {fs : List (List UInt8 × List UInt8)} {x : ByteArray} (h : PAt w b c a n cp fs x) (hb : Below w.heap.size w w') : PAt w' b c a n cp fs x :=
  ⟨(hb.block b h.lt).trans h.blk, let ⟨B, hB⟩ := h.own; ⟨B, own_keep hB hb⟩⟩
theorem PAt.alloc {w : World} {b : Nat} {c : Int} {a : Option Addr} {n cp : Nat} {fs : List (List UInt8 × List UInt8)} {x : ByteArray} (h : PAt w b c a n cp fs x) (o : Obj) : PAt (w.alloc o) b c a n cp fs x := h.below ((Below.refl _ _).alloc (Nat.le_refl _) o)
theorem PAt.holds {w : World} {b : Nat} {c : Int} {a : Option Addr} {n cp : Nat} {fs : List (List UInt8 × List UInt8)} {x : ByteArray} (h : PAt w b c a n cp fs x) : HoldsF w (.slice a n cp) fs := let ⟨_, hB⟩ := h.own; HoldsF.of_own hB
theorem PAt.new {w : World} {B : Nat} {c : Int} {a : Option Addr} {n cp : Nat} {fs : List (List UInt8 × List UInt8)} {x : ByteArray} (h : w.ownsRow B 161 2 (.slice a n cp) n (fcells fs)) :
    PAt (w.alloc (.cells #[.int .i64 c, .slice a n cp, .string x] 113)) w.heap.size c a n cp fs x :=
  ⟨heap_alloc_new w _, B, own_keep h ((Below.refl _ _).alloc (Nat.le_refl _) _)⟩
theorem nil_own (w : World) : w.ownsRow 0 161 2 (.slice none 0 0) 0 (fcells []) := World.ownsRow_nil _ _ _ _
end Go.Proofs.YtbdmmgmcbecolaaGreatDoor
