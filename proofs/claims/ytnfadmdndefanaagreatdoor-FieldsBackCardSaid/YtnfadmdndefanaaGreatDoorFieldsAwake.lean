/- The small example of the laws of layer 22. -/
import Derived.Test.YtnfadmdndefanaaGreatDoorFieldsPrint
import Derived.Test.YtnfadmdndefanaaGreatDoorNumWalk
import Derived.Test.YtnfadmdndefanaaGreatDoorFieldsOver
import Derived.Laws.StructEq
namespace Go.Proofs.YtnfadmdndefanaaGreatDoor
open Go.RowKit

theorem eq_field (a b c d : ByteArray) (w : World) : (binOp .eql 27 (.agg #[.string a, .string b]) (.agg #[.string c, .string d])).run Tryz.prog w = .ok (.bool ((a.toList == c.toList) && (b.toList == d.toList))) w := by
  have u3 := Tryz.underlying9
  have hS : Tryz.prog.underlying 27 = some (.struct (Tryz.prog.fieldsOf 27)) := by kernel_rfl
  have hp : Tryz.prog.stoodInHeld 27 = false := by kernel_rfl
  rw [run_eql_struct, show (10000 : Nat) = 9999 + 1 from rfl, run_equalIn_agg w 9999 27 _ _ hS hp]
  simp only [Program.fieldsOf, Tryz.underlying27]
  go_simp
  by_cases h1 : a.toList = c.toList <;> by_cases h2 : b.toList = d.toList <;> simp [h1, h2]
theorem guard_field (op : BinOp) (x y : Operand) (xs ys : Array Value) (w : World) : (eqGuard op 27 x y (.agg xs) (.agg ys)).run Tryz.prog w = .ok () w :=
  run_eqGuard_agg w op 27 x y xs ys (by kernel_rfl)

theorem parse_at (s : ByteArray) (n v : ByteArray) (e : Nat) (h : parseN s.data.toList = n.data.toList ∧ parseV s.data.toList = v.data.toList ∧ parseE s.data.toList = e) (w : World) (hs : s.size ≤ 1000000) (hE : EnvF w) :
    Calls Tryz.prog 8 #[.string s] w fun r w' => r = .returned (.tuple #[.agg #[.string n, .string v], .int .i64 e]) ∧ Below w.heap.size w w' := by
  have := fields_parse s w hs hE
  rw [h.1, h.2.1, h.2.2, bs_self, bs_self] at this
  exact this
theorem print_at (n v s : ByteArray) (e : Nat) (h : fieldS n.data.toList v.data.toList = s.data.toList ∧ fieldE n.data.toList v.data.toList = e) (w : World) (hn : n.size ≤ 1000000) (hv : v.size ≤ 1000000) :
    Calls Tryz.prog 10 #[.agg #[.string n, .string v]] w fun r w' => r = .returned (.tuple #[.string s, .int .i64 e]) ∧ Below w.heap.size w w' := by
  have := fields_print n v w hn hv
  rw [h.1, h.2, bs_self] at this
  exact this
theorem get_at (v : Value) (fs : List (List UInt8 × List UInt8)) (n s : ByteArray) (e : Nat) (h : getS fs n.data.toList = s.data.toList ∧ getE fs n.data.toList = e) (w : World) (hv : HoldsF w v fs) (hlen : fs.length ≤ 1000000) :
    Calls Tryz.prog 18 #[v, .string n] w fun r w' => r = .returned (.tuple #[.string s, .int .i64 e]) ∧ Below w.heap.size w w' := by
  have := fields_get v fs n w hv hlen
  rw [h.1, h.2, bs_self] at this
  exact this
theorem number_at (s : ByteArray) (v e : Nat) (h : numV s.data.toList = v ∧ numE s.data.toList = e) (w : World) (hs : s.size ≤ 1000000) (hE : EnvF w) :
    Calls Tryz.prog 19 #[.string s] w fun r w' => r = .returned (.tuple #[.int .i64 v, .int .i64 e]) ∧ Below w.heap.size w w' := by
  have := fields_number s w hs hE
  rw [h.1, h.2] at this
  exact this
theorem digits_at (n : Int) (s : ByteArray) (h : digL n = s.data.toList) (h0 : -9223372036854775808 ≤ n) (h1 : n ≤ 9223372036854775807) (w : World) (hE : EnvF w) :
    Calls Tryz.prog 20 #[.int .i64 n] w fun r w' => r = .returned (.string s) ∧ Below w.heap.size w w' := by
  have := fields_digits n h0 h1 w hE
  rw [h, bs_self] at this
  exact this

theorem heap_alloc2 (w : World) (o o2 : Obj) : ((w.alloc o).alloc o2).heap[w.heap.size + 1]? = some o2 := by
  have := heap_alloc_new (w.alloc o) o2
  rwa [show (w.alloc o).heap.size = w.heap.size + 1 by simp] at this
theorem cell_alloc2 (w : World) (o o2 : Obj) {a : Addr} (h : a.block < w.heap.size) : ((w.alloc o).alloc o2).cell? a = w.cell? a := by
  have hb : Below w.heap.size w ((w.alloc o).alloc o2) := ((Below.refl _ _).alloc (Nat.le_refl _) _).alloc (by simp) _
  exact hb.cell h
theorem aw1 : parseN (ByteArray.mk #[67, 111, 110, 116, 101, 110, 116, 45, 76, 69, 78, 71, 84, 72, 58, 32, 32, 53, 32]).data.toList = (ByteArray.mk #[99, 111, 110, 116, 101, 110, 116, 45, 108, 101, 110, 103, 116, 104]).data.toList ∧ parseV (ByteArray.mk #[67, 111, 110, 116, 101, 110, 116, 45, 76, 69, 78, 71, 84, 72, 58, 32, 32, 53, 32]).data.toList = (ByteArray.mk #[53]).data.toList ∧ parseE (ByteArray.mk #[67, 111, 110, 116, 101, 110, 116, 45, 76, 69, 78, 71, 84, 72, 58, 32, 32, 53, 32]).data.toList = 0 := by decide +kernel
theorem aw2 : fieldS (ByteArray.mk #[99, 111, 110, 116, 101, 110, 116, 45, 108, 101, 110, 103, 116, 104]).data.toList (ByteArray.mk #[53]).data.toList = (ByteArray.mk #[67, 111, 110, 116, 101, 110, 116, 45, 76, 101, 110, 103, 116, 104, 58, 32, 53]).data.toList ∧ fieldE (ByteArray.mk #[99, 111, 110, 116, 101, 110, 116, 45, 108, 101, 110, 103, 116, 104]).data.toList (ByteArray.mk #[53]).data.toList = 0 := by decide +kernel
theorem aw3 : parseN (ByteArray.mk #[97, 32, 98, 58, 32, 99]).data.toList = (ByteArray.mk #[]).data.toList ∧ parseV (ByteArray.mk #[97, 32, 98, 58, 32, 99]).data.toList = (ByteArray.mk #[]).data.toList ∧ parseE (ByteArray.mk #[97, 32, 98, 58, 32, 99]).data.toList = 4 := by decide +kernel
def awF : List (List UInt8 × List UInt8) := [([99, 111, 110, 116, 101, 110, 116, 45, 108, 101, 110, 103, 116, 104], [53]), ([97], []), ([97], [])]
theorem aw4 : getS awF (ByteArray.mk #[99, 111, 110, 116, 101, 110, 116, 45, 108, 101, 110, 103, 116, 104]).data.toList = (ByteArray.mk #[53]).data.toList ∧ getE awF (ByteArray.mk #[99, 111, 110, 116, 101, 110, 116, 45, 108, 101, 110, 103, 116, 104]).data.toList = 0 := by decide +kernel
theorem aw5 : getS awF (ByteArray.mk #[97]).data.toList = (ByteArray.mk #[]).data.toList ∧ getE awF (ByteArray.mk #[97]).data.toList = 22 := by decide +kernel
theorem aw6 : getS awF (ByteArray.mk #[98]).data.toList = (ByteArray.mk #[]).data.toList ∧ getE awF (ByteArray.mk #[98]).data.toList = 6 := by decide +kernel
theorem aw7 : numV (ByteArray.mk #[49, 50, 48]).data.toList = 120 ∧ numE (ByteArray.mk #[49, 50, 48]).data.toList = 0 := by decide +kernel
theorem aw8 : numV (ByteArray.mk #[48, 49, 50]).data.toList = 0 ∧ numE (ByteArray.mk #[48, 49, 50]).data.toList = 4 := by decide +kernel
theorem aw9 : digL 305 = (ByteArray.mk #[51, 48, 53]).data.toList := by
  show Go.Lib.decDigits 305 = [51, 48, 53]
  rw [Go.Lib.decDigits, dif_neg (by decide), Go.Lib.decDigits, dif_neg (by decide), Go.Lib.decDigits, dif_pos (by decide)]; rfl
theorem aw10 : digL (-1) = (ByteArray.mk #[]).data.toList := if_pos (by decide)

set_option maxRecDepth 100000 in
set_option maxHeartbeats 2000000 in
theorem awake22 (w : World) (hE : EnvF w) :
    Calls Tryz.prog 7 #[] w fun e w' => e = .returned (.bool true) ∧ Below w.heap.size w w' := by
  have HE := Lib.hid hE
  clear hE
  have heq := eq_field
  have hgd := guard_field
  go_enter Tryz.func7, Tryz.ntmps7
  go_wp2_with fail
  refine (parse_at _ _ _ _ aw1 _ (by decide) HE.out).mono ?_
  rintro e w1 ⟨rfl, hb1⟩
  have HE1 := Lib.hid (HE.out.below hb1)
  go_wp2_with fail
  refine (print_at _ _ _ _ aw2 _ (by decide) (by decide)).mono ?_
  rintro e w2 ⟨rfl, hb2⟩
  have c0 := (hb2.cell (p := ⟨w1.heap.size, 0, none⟩) (by simp)).trans (box_cells w1 _ _ _).1
  have c1 := (hb2.cell (p := ⟨w1.heap.size, 1, none⟩) (by simp)).trans (box_cells w1 _ _ _).2
  have hlt : w1.heap.size < w2.heap.size := by have := hb2.size; simp at this; omega
  have hb12 := bstep (below_box2 w1 _ _ _) hb2
  have HE2 := Lib.hid (HE1.out.below hb12)
  clear hb2
  go_wp2_with fail
  refine (parse_at _ _ _ _ aw3 _ (by decide) HE2.out).mono ?_
  rintro e w3 ⟨rfl, hb3⟩
  have c0 := (hb3.cell (p := ⟨w1.heap.size, 0, none⟩) hlt).trans c0
  have c1 := (hb3.cell (p := ⟨w1.heap.size, 1, none⟩) hlt).trans c1
  have hlt := Nat.lt_of_lt_of_le hlt hb3.size
  have hb13 := bstep hb12 hb3
  have HE3 := Lib.hid (HE2.out.below hb3)
  clear hb3 hb12 HE2 HE
  go_wp2_with fail
  refine (get_at _ awF _ _ _ aw4 _ (HoldsF.of_cells (heap_alloc2 _ _ _) rfl rfl) (by decide)).mono ?_
  rintro e w4 ⟨rfl, hb4⟩
  have H4 : HoldsF w4 (.slice (some ⟨w3.heap.size + 1, 0, none⟩) 3 3) awF := by
    refine HoldsF.below ?_ hb4
    exact HoldsF.of_cells (heap_alloc2 _ _ _) rfl rfl
  have c0 := (hb4.cell (p := ⟨w1.heap.size, 0, none⟩) (by simp; omega)).trans ((cell_alloc2 _ _ _ hlt).trans c0)
  have c1 := (hb4.cell (p := ⟨w1.heap.size, 1, none⟩) (by simp; omega)).trans ((cell_alloc2 _ _ _ hlt).trans c1)
  have hlt : w1.heap.size < w4.heap.size := by have := hb4.size; simp at this; omega
  have hb14 := bstep hb13 (bstep (((Below.refl _ _).alloc (Nat.le_refl _) _).alloc (by simp) _) hb4)
  have HE4 := Lib.hid ((HE3.out.below (((Below.refl _ _).alloc (Nat.le_refl _) _).alloc (by simp) _)).below hb4)
  clear hb4 hb13 HE3
  go_wp2_with fail
  refine (get_at _ awF _ _ _ aw5 _ H4 (by decide)).mono ?_
  rintro e w5 ⟨rfl, hb5⟩
  have H5 := H4.below hb5
  have c0 := (hb5.cell (p := ⟨w1.heap.size, 0, none⟩) hlt).trans c0
  have c1 := (hb5.cell (p := ⟨w1.heap.size, 1, none⟩) hlt).trans c1
  have hlt := Nat.lt_of_lt_of_le hlt hb5.size
  have hb15 := bstep hb14 hb5
  have HE5 := Lib.hid (HE4.out.below hb5)
  clear hb5 hb14 HE4 H4
  go_wp2_with fail
  refine (get_at _ awF _ _ _ aw6 _ H5 (by decide)).mono ?_
  rintro e w6 ⟨rfl, hb6⟩
  have c0 := (hb6.cell (p := ⟨w1.heap.size, 0, none⟩) hlt).trans c0
  have c1 := (hb6.cell (p := ⟨w1.heap.size, 1, none⟩) hlt).trans c1
  have hlt := Nat.lt_of_lt_of_le hlt hb6.size
  have hb16 := bstep hb15 hb6
  have HE6 := Lib.hid (HE5.out.below hb6)
  clear hb6 hb15 HE5 H5
  go_wp2_with fail
  refine (number_at _ _ _ aw7 _ (by decide) HE6.out).mono ?_
  rintro e w7 ⟨rfl, hb7⟩
  have c0 := (hb7.cell (p := ⟨w1.heap.size, 0, none⟩) hlt).trans c0
  have c1 := (hb7.cell (p := ⟨w1.heap.size, 1, none⟩) hlt).trans c1
  have hlt := Nat.lt_of_lt_of_le hlt hb7.size
  have hb17 := bstep hb16 hb7
  have HE7 := Lib.hid (HE6.out.below hb7)
  clear hb7 hb16 HE6
  go_wp2_with fail
  refine (number_at _ _ _ aw8 _ (by decide) HE7.out).mono ?_
  rintro e w8 ⟨rfl, hb8⟩
  have c0 := (hb8.cell (p := ⟨w1.heap.size, 0, none⟩) hlt).trans c0
  have c1 := (hb8.cell (p := ⟨w1.heap.size, 1, none⟩) hlt).trans c1
  have hb18 := bstep hb17 hb8
  have HE8 := Lib.hid (HE7.out.below hb8)
  clear hb8 hb17 HE7
  go_wp2_with fail
  refine (digits_at _ _ aw9 (by decide) (by decide) _ HE8.out).mono ?_
  rintro e w9 ⟨rfl, hb9⟩
  have HE9 := Lib.hid (HE8.out.below hb9)
  have hb19 := bstep hb18 hb9
  clear hb9 hb18 HE8 c0 c1
  go_wp2_with fail
  refine (digits_at _ _ aw10 (by decide) (by decide) _ HE9.out).mono ?_
  rintro e w10 ⟨rfl, hb10⟩
  have hb := Lib.hid (bstep hb1 (bstep hb19 hb10))
  clear hb10 hb19 hb1
  go_wp2_with fail
  go_ret
  exact ⟨rfl, hb.out⟩
end Go.Proofs.YtnfadmdndefanaaGreatDoor
