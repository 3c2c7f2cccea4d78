/- The law function FieldsLines. -/
import Derived.Test.YtnfadmdndefanaaGreatDoorFieldsAwake
import Derived.Test.YtnfadmdndefanaaGreatDoorFieldsRefPrint
namespace Go.Proofs.YtnfadmdndefanaaGreatDoor
open Go.RowKit

theorem eq_rfield (a b c d : ByteArray) (w : World) : (binOp .eql 23 (.agg #[.string a, .string b]) (.agg #[.string c, .string d])).run Tryz.prog w = .ok (.bool ((a.toList == c.toList) && (b.toList == d.toList))) w := by
  have u3 := Tryz.underlying9
  have hS : Tryz.prog.underlying 23 = some (.struct (Tryz.prog.fieldsOf 23)) := by kernel_rfl
  have hp : Tryz.prog.stoodInHeld 23 = false := by kernel_rfl
  rw [run_eql_struct, show (10000 : Nat) = 9999 + 1 from rfl, run_equalIn_agg w 9999 23 _ _ hS hp]
  simp only [Program.fieldsOf, Tryz.underlying23]
  go_simp
  by_cases h1 : a.toList = c.toList <;> by_cases h2 : b.toList = d.toList <;> simp [h1, h2]
theorem guard_rfield (op : BinOp) (x y : Operand) (xs ys : Array Value) (w : World) : (eqGuard op 23 x y (.agg xs) (.agg ys)).run Tryz.prog w = .ok () w :=
  run_eqGuard_agg w op 23 x y xs ys (by kernel_rfl)

/-- a block of two values -/
def Two2 (w : World) (b : Nat) (x y : Value) : Prop := b < w.heap.size ∧ w.cell? ⟨b, 0, none⟩ = some x ∧ w.cell? ⟨b, 1, none⟩ = some y
theorem Two2.below {w W : World} {b : Nat} {x y : Value} (h : Two2 w b x y) (hb : Below w.heap.size w W) : Two2 W b x y :=
  ⟨Nat.lt_of_lt_of_le h.1 hb.size, (hb.cell (p := ⟨b, 0, none⟩) h.1).trans h.2.1, (hb.cell (p := ⟨b, 1, none⟩) h.1).trans h.2.2⟩
theorem Two2.alloc {w : World} {b : Nat} {x y : Value} (h : Two2 w b x y) (o : Obj) : Two2 (w.alloc o) b x y := h.below ((Below.refl _ _).alloc (Nat.le_refl _) _)
theorem Two2.new (w : World) (x y : Value) (t : TypeId) : Two2 (w.alloc (.cells #[x, y] t)) w.heap.size x y := by
  have hh := heap_alloc_new w (.cells #[x, y] t)
  exact ⟨by simp, by unfold World.cell?; rw [hh]; rfl, by unfold World.cell?; rw [hh]; rfl⟩
theorem below_new (w : World) (o : Obj) : Below w.heap.size w (w.alloc o) := (Below.refl _ _).alloc (Nat.le_refl _) _

theorem over_one (n v : ByteArray) (w : World) (b : Nat) (t : TypeId) (h : w.heap[b]? = some (.cells #[.string n, .string v] t (0, 0))) (B : Bool) (hB : longF (n.data.toList, v.data.toList) = B) :
    Calls Tryz.prog 6 #[.slice (some ⟨b, 0, none⟩) 1 1, .int .i64 1] w fun e w' => e = .returned (.bool B) ∧ w' = w := by
  have hh : HoldsF w (.slice (some ⟨b, 0, none⟩) 1 1) [(n.data.toList, v.data.toList)] := HoldsF.of_cells h (by show _ = [Value.string (bs _), Value.string (bs _)]; rw [bs_self, bs_self]) rfl
  have := ref_over _ _ 1 w hh (by show 1 ≤ _; decide)
  have e : overF [(n.data.toList, v.data.toList)] 1 = B := by
    unfold overF; rw [← hB]; simp
  rw [e] at this
  exact this
theorem longF_false (n v : ByteArray) (h : longF (n.data.toList, v.data.toList) = false) : n.size ≤ 400 ∧ v.size ≤ 400 := by
  unfold longF at h
  simp only [Bool.or_eq_false_iff, decide_eq_false_iff_not, size_len] at h
  omega

set_option maxRecDepth 100000 in
set_option maxHeartbeats 4000000 in
theorem fieldsLines_walk (s n v : ByteArray) (w : World) (hE : EnvF w) (hs : s.size ≤ 9223372036854775807) :
    Calls Tryz.prog 3 #[.string s, .agg #[.string n, .string v]] w fun e w' => e = .returned (.bool true) ∧ Below w.heap.size w w' := by
  have HE := Lib.hid hE
  clear hE
  have hb0 := below_new w (.cells #[.string n, .string v] 23)
  have HE0 := Lib.hid (HE.out.below hb0)
  by_cases hl : (400 : Int) < (s.size : Int)
  · go_enter Tryz.func3, Tryz.ntmps3
    go_wp2_with fail
    refine (awake22 _ HE0.out).mono ?_
    rintro e w1 ⟨rfl, hb⟩
    go_wp2_with fail
    go_ret
    exact ⟨rfl, bstep hb0 hb⟩
  · obtain ⟨l0, k0, k1⟩ := Two2.new w (.string n) (.string v) 23
    cases hlong : longF (n.data.toList, v.data.toList) with
    | true =>
      have hov := Lib.hid (fun w b t h => over_one n v w b t h true hlong)
      clear hlong
      go_enter Tryz.func3, Tryz.ntmps3
      go_wp2_with fail
      refine (hov.out _ _ _ (heap_alloc2 _ _ _)).mono ?_
      rintro e w' ⟨rfl, rfl⟩
      go_wp2_with fail
      refine (awake22 _ (HE0.out.below (below_new _ _))).mono ?_
      rintro e w1 ⟨rfl, hb⟩
      go_wp2_with fail
      go_ret
      exact ⟨rfl, bstep hb0 (bstep (below_new _ _) hb)⟩
    | false =>
      have hsz := longF_false n v hlong
      have hov := Lib.hid (fun w b t h => over_one n v w b t h false hlong)
      have hP := Lib.hid (fun w hE => fields_parse s w (by omega) hE)
      have hQ := Lib.hid (fun w => ref_fparse s w (by omega))
      have hA := Lib.hid (fun w => fields_print n v w (by omega) (by omega))
      have hB := Lib.hid (fun w => ref_fprint n v w (by omega) (by omega))
      generalize bs (parseN s.data.toList) = N at hP hQ
      generalize bs (parseV s.data.toList) = V at hP hQ
      generalize parseE s.data.toList = E at hP hQ
      generalize bs (fieldS n.data.toList v.data.toList) = S at hA hB
      generalize fieldE n.data.toList v.data.toList = F at hA hB
      have heq := eq_rfield N V N V
      have hgd := guard_rfield
      clear hlong hsz
      go_enter Tryz.func3, Tryz.ntmps3
      go_wp2_with fail
      refine (hov.out _ _ _ (heap_alloc2 _ _ _)).mono ?_
      rintro e w' ⟨rfl, rfl⟩
      have HE1 := Lib.hid (HE0.out.below (below_new _ (.cells #[.string n, .string v] 23)))
      have hb1 := bstep hb0 (below_new _ (.cells #[.string n, .string v] 23))
      have T3 := (Two2.new w (.string n) (.string v) 23).alloc (.cells #[.string n, .string v] 23)
      go_wp2_with fail
      refine (hP.out _ HE1.out).mono ?_
      rintro e w1 ⟨rfl, g1⟩
      have T3 := T3.below g1
      have HE2 := Lib.hid (HE1.out.below g1)
      have hb2 := bstep hb1 g1
      clear g1 HE1 hb1 k0 k1 hov
      go_wp2_with fail
      refine (hQ.out _).mono ?_
      rintro e w2 ⟨rfl, g2⟩
      have T3 := (T3.alloc _).below g2
      have T5 := (Two2.new w1 _ _ _).below g2
      have HE3 := Lib.hid ((HE2.out.below (below_new _ _)).below g2)
      have hb3 := bstep hb2 (bstep (below_new _ _) g2)
      clear g2 HE2 hb2
      have T3 := T3.alloc (.cells #[.string N, .string V] 23)
      obtain ⟨l3, k0, k1⟩ := T3
      go_wp2_with fail
      refine (hA.out _).mono ?_
      rintro e w3 ⟨rfl, g3⟩
      have T3 := Two2.below ⟨l3, k0, k1⟩ g3
      have T5 := (T5.alloc _).below g3
      have T7 := (Two2.new w2 _ _ _).below g3
      have HE4 := Lib.hid ((HE3.out.below (below_new _ _)).below g3)
      have hb4 := bstep hb3 (bstep (below_new _ _) g3)
      clear g3 HE3 hb3 k0 k1 l3
      obtain ⟨l3, k0, k1⟩ := T3
      go_wp2_with fail
      refine (hB.out _).mono ?_
      rintro e w4 ⟨rfl, g4⟩
      obtain ⟨l5, p0, p1⟩ := T5.below g4
      obtain ⟨l7, q0, q1⟩ := T7.below g4
      have HE5 := Lib.hid (HE4.out.below g4)
      have hb5 := bstep hb4 g4
      clear g4 HE4 hb4 k0 k1 l3 T5 T7
      go_wp2_with fail
      refine (awake22 _ HE5.out).mono ?_
      rintro e w5 ⟨rfl, g5⟩
      go_wp2_with fail
      go_ret
      exact ⟨rfl, bstep hb5 g5⟩
end Go.Proofs.YtnfadmdndefanaaGreatDoor
