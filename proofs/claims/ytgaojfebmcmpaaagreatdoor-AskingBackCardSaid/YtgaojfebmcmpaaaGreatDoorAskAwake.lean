/- The small example of the laws of layer 25. -/
import Derived.Test.YtgaojfebmcmpaaaGreatDoorAskRefParse2
import Derived.Laws.StructEq
namespace Go.Proofs.YtgaojfebmcmpaaaGreatDoor
open Go.RowKit

theorem eq_range_in (d : Nat) (x y : Int) (w : World) : (Op.equalIn (d + 2) 30 (.agg #[.int .i64 x, .int .i64 y]) (.agg #[.int .i64 x, .int .i64 y])).run Tryz.prog w = .ok true w := by
  have u4 := Tryz.underlying3
  have hS : Tryz.prog.underlying 30 = some (.struct (Tryz.prog.fieldsOf 30)) := by kernel_rfl
  have hp : Tryz.prog.stoodInHeld 30 = false := by kernel_rfl
  rw [run_equalIn_agg w (d + 1) 30 _ _ hS hp]
  simp only [Program.fieldsOf, Tryz.underlying30]
  go_simp
theorem eq_req_in (d : Nat) (a b : ByteArray) (x y : Int) (w : World) : (Op.equalIn (d + 3) 32 (.agg #[.string a, .string b, .int .i64 x, .int .i64 y]) (.agg #[.string a, .string b, .int .i64 x, .int .i64 y])).run Tryz.prog w = .ok true w := by
  have u3 := Tryz.underlying9
  have hS : Tryz.prog.underlying 32 = some (.struct (Tryz.prog.fieldsOf 32)) := by kernel_rfl
  have hp : Tryz.prog.stoodInHeld 32 = false := by kernel_rfl
  have hi := Tryz.sizeOf30
  have ha := Tryz.isAgg30
  have hin := eq_range_in d x y
  rw [run_equalIn_agg w (d + 2) 32 _ _ hS hp]
  simp only [Program.fieldsOf, Tryz.underlying32]
  go_simp
theorem eq_req (a b : ByteArray) (x y : Int) (w : World) : (binOp .eql 32 (.agg #[.string a, .string b, .int .i64 x, .int .i64 y]) (.agg #[.string a, .string b, .int .i64 x, .int .i64 y])).run Tryz.prog w = .ok (.bool true) w := by
  rw [run_eql_struct, show (10000 : Nat) = 9997 + 3 from rfl, eq_req_in]; rfl
theorem guard_req (op : BinOp) (x y : Operand) (xs ys : Array Value) (w : World) : (eqGuard op 32 x y (.agg xs) (.agg ys)).run Tryz.prog w = .ok () w :=
  run_eqGuard_agg w op 32 x y xs ys (by kernel_rfl)
theorem aparse_at (s P H : ByteArray) (a b n : Int) (e : Nat) (h : askPath s = P.data.toList ∧ askHost s = H.data.toList ∧ askA s = a ∧ askB s = b ∧ askN s = n ∧ askE s = e) (w : World) (hs : s.size ≤ 1000000) (hE : EnvF w) :
    Calls Tryz.prog 19 #[.string s] w fun r w' => r = .returned (.tuple #[.agg #[.string P, .string H, .int .i64 a, .int .i64 b], .int .i64 n, .int .i64 (e : Nat)]) ∧ Below w.heap.size w w' := by
  have := asking_parse s w hs hE
  unfold askV at this
  obtain ⟨h1, h2, h3, h4, h5, h6⟩ := h
  rw [h1, h2, h3, h4, h5, h6, bs_self, bs_self] at this
  exact this
theorem aprint_at (p h S : ByteArray) (a b : Int) (e : Nat) (hh : aPrint p.data.toList h.data.toList a b = S.data.toList ∧ aErr p.data.toList h.data.toList a b = e) (w : World) (hE : EnvF w) (ha0 : -9223372036854775808 ≤ a) (ha : a ≤ 9223372036854775807) (hb0 : -9223372036854775808 ≤ b) (hb : b ≤ 9223372036854775807) :
    Calls Tryz.prog 16 #[.agg #[.string p, .string h, .int .i64 a, .int .i64 b]] w fun r w' => r = .returned (.tuple #[.string S, .int .i64 (e : Nat)]) ∧ Below w.heap.size w w' := by
  have := asking_print p h a b w hE ha0 ha hb0 hb
  rw [hh.1, hh.2, bs_self] at this
  exact this
theorem acheck_at (p h : ByteArray) (a b : Int) (e : Nat) (hh : aErr p.data.toList h.data.toList a b = e) (w : World) :
    Calls Tryz.prog 21 #[.agg #[.string p, .string h, .int .i64 a, .int .i64 b]] w fun r w' => r = .returned (.int .i64 (e : Nat)) ∧ Below w.heap.size w w' := by
  have := asking_check p h a b w
  rw [hh] at this
  exact this
theorem dig0 : digL 0 = [48] := by
  unfold digL; rw [if_neg (by decide)]; exact Go.Lib.decDigits_one (by decide)
theorem dig9 : digL 9 = [57] := by
  unfold digL; rw [if_neg (by decide)]; exact Go.Lib.decDigits_one (by decide)
theorem ask09 : askL 0 9 = [98, 121, 116, 101, 115, 61, 48, 45, 57] := by
  unfold askL textR; rw [dig0, dig9]; rfl
theorem qw1 : aPrint (ByteArray.mk #[47, 97]).data.toList (ByteArray.mk #[104]).data.toList 0 9 = (ByteArray.mk #[71, 69, 84, 32, 47, 97, 32, 72, 84, 84, 80, 47, 49, 46, 49, 13, 10, 72, 111, 115, 116, 58, 32, 104, 13, 10, 82, 97, 110, 103, 101, 58, 32, 98, 121, 116, 101, 115, 61, 48, 45, 57, 13, 10, 13, 10]).data.toList ∧ aErr (ByteArray.mk #[47, 97]).data.toList (ByteArray.mk #[104]).data.toList 0 9 = 0 := by
  have h : aErr (ByteArray.mk #[47, 97]).data.toList (ByteArray.mk #[104]).data.toList 0 9 = 0 := by decide +kernel
  refine ⟨?_, h⟩
  unfold aPrint
  rw [if_pos h]
  unfold reqL line3
  rw [ask09]
  decide +kernel
theorem qw2 : askPath ((ByteArray.mk #[71, 69, 84, 32, 47, 97, 32, 72, 84, 84, 80, 47, 49, 46, 49, 13, 10, 72, 111, 115, 116, 58, 32, 104, 13, 10, 82, 97, 110, 103, 101, 58, 32, 98, 121, 116, 101, 115, 61, 48, 45, 57, 13, 10, 13, 10]) ++ ⟨#[120]⟩) = (ByteArray.mk #[47, 97]).data.toList ∧ askHost ((ByteArray.mk #[71, 69, 84, 32, 47, 97, 32, 72, 84, 84, 80, 47, 49, 46, 49, 13, 10, 72, 111, 115, 116, 58, 32, 104, 13, 10, 82, 97, 110, 103, 101, 58, 32, 98, 121, 116, 101, 115, 61, 48, 45, 57, 13, 10, 13, 10]) ++ ⟨#[120]⟩) = (ByteArray.mk #[104]).data.toList ∧ askA ((ByteArray.mk #[71, 69, 84, 32, 47, 97, 32, 72, 84, 84, 80, 47, 49, 46, 49, 13, 10, 72, 111, 115, 116, 58, 32, 104, 13, 10, 82, 97, 110, 103, 101, 58, 32, 98, 121, 116, 101, 115, 61, 48, 45, 57, 13, 10, 13, 10]) ++ ⟨#[120]⟩) = 0 ∧ askB ((ByteArray.mk #[71, 69, 84, 32, 47, 97, 32, 72, 84, 84, 80, 47, 49, 46, 49, 13, 10, 72, 111, 115, 116, 58, 32, 104, 13, 10, 82, 97, 110, 103, 101, 58, 32, 98, 121, 116, 101, 115, 61, 48, 45, 57, 13, 10, 13, 10]) ++ ⟨#[120]⟩) = 9 ∧ askN ((ByteArray.mk #[71, 69, 84, 32, 47, 97, 32, 72, 84, 84, 80, 47, 49, 46, 49, 13, 10, 72, 111, 115, 116, 58, 32, 104, 13, 10, 82, 97, 110, 103, 101, 58, 32, 98, 121, 116, 101, 115, 61, 48, 45, 57, 13, 10, 13, 10]) ++ ⟨#[120]⟩) = 46 ∧ askE ((ByteArray.mk #[71, 69, 84, 32, 47, 97, 32, 72, 84, 84, 80, 47, 49, 46, 49, 13, 10, 72, 111, 115, 116, 58, 32, 104, 13, 10, 82, 97, 110, 103, 101, 58, 32, 98, 121, 116, 101, 115, 61, 48, 45, 57, 13, 10, 13, 10]) ++ ⟨#[120]⟩) = 0 := by decide +kernel
theorem qw3 : askPath (ByteArray.mk #[80, 85, 84, 32, 47, 97, 32, 72, 84, 84, 80, 47, 49, 46, 49, 13, 10, 13, 10]) = (ByteArray.mk #[]).data.toList ∧ askHost (ByteArray.mk #[80, 85, 84, 32, 47, 97, 32, 72, 84, 84, 80, 47, 49, 46, 49, 13, 10, 13, 10]) = (ByteArray.mk #[]).data.toList ∧ askA (ByteArray.mk #[80, 85, 84, 32, 47, 97, 32, 72, 84, 84, 80, 47, 49, 46, 49, 13, 10, 13, 10]) = 0 ∧ askB (ByteArray.mk #[80, 85, 84, 32, 47, 97, 32, 72, 84, 84, 80, 47, 49, 46, 49, 13, 10, 13, 10]) = 0 ∧ askN (ByteArray.mk #[80, 85, 84, 32, 47, 97, 32, 72, 84, 84, 80, 47, 49, 46, 49, 13, 10, 13, 10]) = 0 ∧ askE (ByteArray.mk #[80, 85, 84, 32, 47, 97, 32, 72, 84, 84, 80, 47, 49, 46, 49, 13, 10, 13, 10]) = 14 := by decide +kernel
theorem qw4 : askPath (ByteArray.mk #[71, 69, 84, 32, 47, 97, 32, 72, 84, 84, 80, 47, 49, 46, 49, 13, 10, 13, 10]) = (ByteArray.mk #[]).data.toList ∧ askHost (ByteArray.mk #[71, 69, 84, 32, 47, 97, 32, 72, 84, 84, 80, 47, 49, 46, 49, 13, 10, 13, 10]) = (ByteArray.mk #[]).data.toList ∧ askA (ByteArray.mk #[71, 69, 84, 32, 47, 97, 32, 72, 84, 84, 80, 47, 49, 46, 49, 13, 10, 13, 10]) = 0 ∧ askB (ByteArray.mk #[71, 69, 84, 32, 47, 97, 32, 72, 84, 84, 80, 47, 49, 46, 49, 13, 10, 13, 10]) = 0 ∧ askN (ByteArray.mk #[71, 69, 84, 32, 47, 97, 32, 72, 84, 84, 80, 47, 49, 46, 49, 13, 10, 13, 10]) = 0 ∧ askE (ByteArray.mk #[71, 69, 84, 32, 47, 97, 32, 72, 84, 84, 80, 47, 49, 46, 49, 13, 10, 13, 10]) = 6 := by decide +kernel
theorem qw5 : aErr (ByteArray.mk #[97]).data.toList (ByteArray.mk #[104]).data.toList 0 0 = 2 := by decide +kernel
def Four (w : World) (b : Nat) (x y z u : Value) : Prop := b < w.heap.size ∧ w.cell? ⟨b, 0, none⟩ = some x ∧ w.cell? ⟨b, 1, none⟩ = some y ∧ w.cell? ⟨b, 2, none⟩ = some z ∧ w.cell? ⟨b, 3, none⟩ = some u
theorem Four.below {w w' : World} {b : Nat} {x y z u : Value} (h : Four w b x y z u) (hb : Below w.heap.size w w') : Four w' b x y z u :=
  ⟨Nat.lt_of_lt_of_le h.1 hb.size, (hb.cell (p := ⟨b, 0, none⟩) h.1).trans h.2.1, (hb.cell (p := ⟨b, 1, none⟩) h.1).trans h.2.2.1, (hb.cell (p := ⟨b, 2, none⟩) h.1).trans h.2.2.2.1, (hb.cell (p := ⟨b, 3, none⟩) h.1).trans h.2.2.2.2⟩
theorem Four.alloc {w : World} {b : Nat} {x y z u : Value} (h : Four w b x y z u) (o : Obj) : Four (w.alloc o) b x y z u := h.below ((Below.refl _ _).alloc (Nat.le_refl _) o)
theorem Four.new (w : World) (x y z u : Value) (t : TypeId) : Four (w.alloc (.cells #[x, y, z, u] t)) w.heap.size x y z u := ⟨by simp, box4 w x y z u t⟩
set_option maxRecDepth 100000 in
set_option maxHeartbeats 2000000 in
theorem awake25 (w : World) (hE : EnvF w) :
    Calls Tryz.prog 15 #[] w fun e w' => e = .returned (.bool true) ∧ Below w.heap.size w w' := by
  have HE0 := Lib.hid (hE.below (below_agg4 w (.string ⟨#[47, 97]⟩) (.string ⟨#[104]⟩) (.int .i64 0) (.int .i64 9) 32))
  have hb0 := below_agg4 w (.string ⟨#[47, 97]⟩) (.string ⟨#[104]⟩) (.int .i64 0) (.int .i64 9) 32
  have Q0 := Lib.hid (Four.new w (.string ⟨#[47, 97]⟩) (.string ⟨#[104]⟩) (.int .i64 0) (.int .i64 9) 32)
  have heq := eq_req
  have hgd := guard_req
  clear hE
  go_enter Tryz.func15, Tryz.ntmps15
  go_wp2_with fail
  refine (aprint_at _ _ _ _ _ _ qw1 _ HE0.out (by decide) (by decide) (by decide) (by decide)).mono ?_
  rintro e w1 ⟨rfl, hb1⟩
  have HE1 := Lib.hid (HE0.out.below hb1)
  have Q1 := Lib.hid (Q0.out.below hb1)
  have hb1' := bstep hb0 hb1
  clear hb0 hb1 HE0 Q0
  go_wp2_with fail
  refine (aparse_at _ _ _ _ _ _ _ qw2 _ (by decide) HE1.out).mono ?_
  rintro e w2 ⟨rfl, hb2⟩
  have HE2 := Lib.hid ((HE1.out.below hb2).below (below_agg4 w2 (.string ⟨#[47, 97]⟩) (.string ⟨#[104]⟩) (.int .i64 0) (.int .i64 9) 32))
  have Q2 := Lib.hid ((Q1.out.below hb2).alloc (.cells #[.string ⟨#[47, 97]⟩, .string ⟨#[104]⟩, .int .i64 0, .int .i64 9] 32))
  have P2 := Lib.hid (Four.new w2 (.string ⟨#[47, 97]⟩) (.string ⟨#[104]⟩) (.int .i64 0) (.int .i64 9) 32)
  have hb2' := bstep hb1' (bstep hb2 (below_agg4 w2 (.string ⟨#[47, 97]⟩) (.string ⟨#[104]⟩) (.int .i64 0) (.int .i64 9) 32))
  clear hb1' hb2 HE1 Q1
  go_wp2_with fail
  refine (aparse_at _ _ _ _ _ _ _ qw3 _ (by decide) HE2.out).mono ?_
  rintro e w3 ⟨rfl, hb3⟩
  have HE3 := Lib.hid ((HE2.out.below hb3).below (below_agg4 w3 (.string ⟨#[]⟩) (.string ⟨#[]⟩) (.int .i64 0) (.int .i64 0) 32))
  have Q3 := Lib.hid ((Q2.out.below hb3).alloc (.cells #[.string ⟨#[]⟩, .string ⟨#[]⟩, .int .i64 0, .int .i64 0] 32))
  have P3 := Lib.hid ((P2.out.below hb3).alloc (.cells #[.string ⟨#[]⟩, .string ⟨#[]⟩, .int .i64 0, .int .i64 0] 32))
  have hb3' := bstep hb2' (bstep hb3 (below_agg4 w3 (.string ⟨#[]⟩) (.string ⟨#[]⟩) (.int .i64 0) (.int .i64 0) 32))
  clear hb2' hb3 HE2 Q2 P2
  go_wp2_with fail
  refine (aparse_at _ _ _ _ _ _ _ qw4 _ (by decide) HE3.out).mono ?_
  rintro e w4 ⟨rfl, hb4⟩
  have HE4 := Lib.hid ((HE3.out.below hb4).below (below_agg4 w4 (.string ⟨#[]⟩) (.string ⟨#[]⟩) (.int .i64 0) (.int .i64 0) 32))
  obtain ⟨lq, q0, q1, q2, q3⟩ := (Q3.out.below hb4).alloc (.cells #[.string ⟨#[]⟩, .string ⟨#[]⟩, .int .i64 0, .int .i64 0] 32)
  obtain ⟨lp, p0, p1, p2, p3⟩ := (P3.out.below hb4).alloc (.cells #[.string ⟨#[]⟩, .string ⟨#[]⟩, .int .i64 0, .int .i64 0] 32)
  have hb4' := Lib.hid (bstep hb3' (bstep hb4 (below_agg4 w4 (.string ⟨#[]⟩) (.string ⟨#[]⟩) (.int .i64 0) (.int .i64 0) 32)))
  have hw2l : w2.heap.size < w4.heap.size := (P3.out.below hb4).1
  have hwl : w.heap.size < w4.heap.size := (Q3.out.below hb4).1
  have q0' := (Q3.out.below hb4).2.1
  have q1' := (Q3.out.below hb4).2.2.1
  have q2' := (Q3.out.below hb4).2.2.2.1
  have q3' := (Q3.out.below hb4).2.2.2.2
  have p0' := (P3.out.below hb4).2.1
  have p1' := (P3.out.below hb4).2.2.1
  have p2' := (P3.out.below hb4).2.2.2.1
  have p3' := (P3.out.below hb4).2.2.2.2
  clear hb3' hb4 HE3 Q3 P3
  go_wp2_with fail
  refine (acheck_at _ _ _ _ _ qw5 _).mono ?_
  rintro e w5 ⟨rfl, hb5⟩
  go_wp2_with fail
  go_ret
  exact ⟨rfl, bstep hb4'.out hb5⟩
end Go.Proofs.YtgaojfebmcmpaaaGreatDoor
