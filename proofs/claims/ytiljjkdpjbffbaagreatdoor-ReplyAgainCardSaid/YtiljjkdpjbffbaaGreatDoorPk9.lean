/- The small example of the laws of layer 26. The law function ReplyLays. The law function ReplyTakes. The law function ReplyBack. The law function ReplyAgain. What an argument that is a slice of the reference's fields reads as. What the listed variables give. An argument of type gazetteerref26.Reply, opened; the law functions of layer 26, as the rows' proofs take them. -/
import Derived.Test.YtiljjkdpjbffbaaGreatDoorPk8
import Derived.BigQuiet
import Derived.Deep.Slices
import Derived.Deep.Fields
import Derived.ChangeSame
import Derived.Test.YtiljjkdpjbffbaaGreatDoorRows
import Derived.OpenShut
import Derived.MakeChecks
import Derived.Stop.LaidErr
import Derived.PinnedBridge
import Derived.Lib.LaidU8T
import Derived.Lib.SmallJoins
import Derived.Deep.Strs
import Derived.ChangeArms
import Derived.WideShapes
set_option linter.unusedVariables false
namespace Go.Proofs.YtiljjkdpjbffbaaGreatDoor
open Go.RowKit
/-- a reply of the program's that lies in a block -/
structure PAt (w : World) (b : Nat) (c : Int) (a : Option Addr) (n cp : Nat) (fs : List (List UInt8 × List UInt8)) (x : ByteArray) : Prop where
  blk : w.heap[b]? = some (.cells #[.int .i64 c, .slice a n cp, .string x] 32 (0, 0))
  own : ∃ B, w.ownsRow B 51 2 (.slice a n cp) n (fcells fs)
theorem PAt.lt {w : World} {b : Nat} {c : Int} {a : Option Addr} {n cp : Nat} {fs : List (List UInt8 × List UInt8)} {x : ByteArray} (h : PAt w b c a n cp fs x) : b < w.heap.size := (Array.getElem?_eq_some_iff.1 h.blk).1
theorem PAt.below {w w' : World} {b : Nat} {c : Int} {a : Option Addr} {n cp : Nat} {fs : List (List UInt8 × List UInt8)} {x : ByteArray} (h : PAt w b c a n cp fs x) (hb : Below w.heap.size w w') : PAt w' b c a n cp fs x :=
  ⟨(hb.block b h.lt).trans h.blk, let ⟨B, hB⟩ := h.own; ⟨B, own_keep hB hb⟩⟩
theorem PAt.alloc {w : World} {b : Nat} {c : Int} {a : Option Addr} {n cp : Nat} {fs : List (List UInt8 × List UInt8)} {x : ByteArray} (h : PAt w b c a n cp fs x) (o : Obj) : PAt (w.alloc o) b c a n cp fs x := h.below ((Below.refl _ _).alloc (Nat.le_refl _) o)
theorem PAt.holds {w : World} {b : Nat} {c : Int} {a : Option Addr} {n cp : Nat} {fs : List (List UInt8 × List UInt8)} {x : ByteArray} (h : PAt w b c a n cp fs x) : HoldsF w (.slice a n cp) fs := let ⟨_, hB⟩ := h.own; HoldsF.of_own hB
theorem PAt.new {w : World} {B : Nat} {c : Int} {a : Option Addr} {n cp : Nat} {fs : List (List UInt8 × List UInt8)} {x : ByteArray} (h : w.ownsRow B 51 2 (.slice a n cp) n (fcells fs)) :
    PAt (w.alloc (.cells #[.int .i64 c, .slice a n cp, .string x] 32)) w.heap.size c a n cp fs x :=
  ⟨heap_alloc_new w _, B, own_keep h ((Below.refl _ _).alloc (Nat.le_refl _) _)⟩
def ParseAt (C n : Int) (F : List (List UInt8 × List UInt8)) (B : ByteArray) (E : Nat) (w : World) (e : Ending) (w' : World) : Prop :=
  ∃ a cp, e = .returned (.tuple #[.agg #[.int .i64 C, .slice a F.length cp, .string B], .int .i64 n, .int .i64 (E : Nat)]) ∧ w'.ownsRow w.heap.size 51 2 (.slice a F.length cp) F.length (fcells F) ∧ Below w.heap.size w w'
theorem parse_is (s : ByteArray) (most : Int) (C n : Int) (F : List (List UInt8 × List UInt8)) (B : ByteArray) (E : Nat) (h : takE s most = E ∧ takC s most = C ∧ takF s most = F ∧ bs (takB s most) = B ∧ takN s most = n) (w : World) (hs : s.size ≤ 1000000) (hE : EnvF w) :
    Calls Tryz.prog 14 #[.string s, .int .i64 most] w (ParseAt C n F B E w) := by
  obtain ⟨rfl, rfl, rfl, rfl, rfl⟩ := h
  refine (reply_parse s most w hs hE).mono ?_
  rintro e w' ⟨fv, rfl, h1, h2⟩
  obtain ⟨a, cp, rfl⟩ := own_fslice h1
  exact ⟨a, cp, rfl, h1, h2⟩
theorem parse_err (s : ByteArray) (most : Int) (E : Nat) (h : takE s most = E) (h0 : E ≠ 0) (w : World) (hs : s.size ≤ 1000000) (hE : EnvF w) :
    Calls Tryz.prog 14 #[.string s, .int .i64 most] w (ParseAt 0 0 [] ⟨#[]⟩ E w) := by
  obtain ⟨h1, h2, h3, h4⟩ := tak_bad s most (by rw [h]; exact h0)
  exact parse_is s most 0 0 [] ⟨#[]⟩ E ⟨h, h1, h2, by rw [h3]; rfl, h4⟩ w hs hE
def PrintAt (S : ByteArray) (E : Nat) (w : World) (e : Ending) (w' : World) : Prop := e = .returned (.tuple #[.string S, .int .i64 (E : Nat)]) ∧ Below w.heap.size w w'
theorem print_is (c : Int) (fv : Value) (fs : List (List UInt8 × List UInt8)) (b : ByteArray) (S : ByteArray) (E : Nat) (h : bs (repS c fs b.data.toList) = S ∧ repE c fs = E) (B : Nat) (w : World) (hE : EnvF w) (hc0 : -9223372036854775808 ≤ c) (hc1 : c ≤ 9223372036854775807)
    (hown : w.ownsRow B 51 2 fv fs.length (fcells fs)) (hl : fs.length ≤ 1000000) (hf : ∀ f ∈ fs, f.1.length ≤ 1000000 ∧ f.2.length ≤ 1000000) (hb : b.size ≤ 1000000) :
    Calls Tryz.prog 9 #[.agg #[.int .i64 c, fv, .string b]] w (PrintAt S E w) := by
  obtain ⟨rfl, rfl⟩ := h
  exact reply_print c fv fs b B w hE hc0 hc1 hown hl hf hb
def aw26 : List UInt8 := [72, 84, 84, 80, 47, 49, 46, 49, 32, 52, 48, 52, 32, 78, 111, 116, 32, 70, 111, 117, 110, 100, 13, 10, 67, 111, 110, 116, 101, 110, 116, 45, 76, 101, 110, 103, 116, 104, 58, 32, 49, 13, 10, 13, 10, 120]
theorem aw_e : repE 404 [] = 0 := by decide +kernel
theorem aw_st : (printOf 404).data.toList = [72, 84, 84, 80, 47, 49, 46, 49, 32, 52, 48, 52, 32, 78, 111, 116, 32, 70, 111, 117, 110, 100] := by
  rw [printOf_line 404 (by decide) (by decide)]
  exact (statusLine_data 404 (by decide) (by decide)).trans (by decide +kernel)
theorem aw_ln : printL clen (digL 1) = [67, 111, 110, 116, 101, 110, 116, 45, 76, 101, 110, 103, 116, 104, 58, 32, 49] := by
  rw [show (1 : Int) = ((1 : Nat) : Int) from rfl, digL_nat, Go.Lib.decDigits_one (by decide)]
  decide +kernel
theorem aw_s : repL 404 [] [120] = aw26 := by
  unfold repL repLines
  rw [aw_st, show (([120] : List UInt8).length : Int) = 1 from rfl, aw_ln]
  decide +kernel
theorem aw_p : bs (repS 404 [] (ByteArray.mk #[120]).data.toList) = bs aw26 ∧ repE 404 [] = 0 := by
  refine ⟨?_, aw_e⟩
  unfold repS
  rw [if_pos aw_e]
  exact congrArg bs aw_s
theorem aw_t : takE (bs aw26 ++ ⟨#[121]⟩) 1 = 0 ∧ takC (bs aw26 ++ ⟨#[121]⟩) 1 = 404 ∧ takF (bs aw26 ++ ⟨#[121]⟩) 1 = [] ∧ bs (takB (bs aw26 ++ ⟨#[121]⟩) 1) = ⟨#[120]⟩ ∧ takN (bs aw26 ++ ⟨#[121]⟩) 1 = 46 := by
  obtain ⟨h1, h2, h3, h4, h5⟩ := rep_take 404 [] [120] [121] (bs aw26 ++ ⟨#[121]⟩) 1 aw_e (by decide) (by rw [aw_s, ByteArray.data_append, Array.toList_append, bs_data]) (by decide)
  refine ⟨h1, h2, h3, by rw [h4]; rfl, ?_⟩
  rw [h5, aw_s]; rfl
theorem aw_l : takE (bs aw26) 0 = 5 := rep_long 404 [] [120] [] (bs aw26) 0 aw_e (by decide) (by rw [aw_s, bs_data, List.append_nil]) (by decide)
theorem aw_h : takE ⟨#[72, 84, 84, 80, 47, 49, 46, 49, 32, 50, 48, 48, 32, 79, 75, 13, 10, 13, 10]⟩ 9 = 6 := by decide +kernel
theorem aw_i : bs (repS 99 [] (ByteArray.mk #[]).data.toList) = ⟨#[]⟩ ∧ repE 99 [] = 8 := ⟨rfl, rfl⟩
theorem aw_same : sameR 404 404 [120] [120] [] [] = true ∧ sameR 404 0 [120] [] [] [] = false := by decide +kernel
theorem aw_sz : (bs aw26).size = 46 := rfl
theorem aw_T (w : World) (hE : EnvF w) : Calls Tryz.prog 14 #[.string (bs aw26 ++ ⟨#[121]⟩), .int .i64 1] w (ParseAt 404 46 [] ⟨#[120]⟩ 0 w) := by
  obtain ⟨h1, h2, h3, h4, h5⟩ := aw_t
  exact parse_is _ _ _ _ _ _ _ ⟨h1, h2, h3, h4, h5⟩ w (by rw [ByteArray.size_append, aw_sz]; decide) hE
theorem nil_own (w : World) : w.ownsRow 0 51 2 (.slice none 0 0) 0 (fcells []) := World.ownsRow_nil _ _ _ _
set_option maxRecDepth 100000 in
set_option maxHeartbeats 4000000 in
theorem awake26 (w : World) (hE : EnvF w) : Calls Tryz.prog 8 #[] w fun e w' => e = .returned (.bool true) ∧ Below w.heap.size w w' := by
  have HP := Lib.hid (fun w hE => print_is 404 (.slice none 0 0) [] ⟨#[120]⟩ _ 0 aw_p 0 w hE (by decide) (by decide) (nil_own w) (by decide) (fun f hf => by simp at hf) (by decide))
  have HT := Lib.hid (fun w hE => aw_T w hE)
  have HL := Lib.hid (fun w hE => parse_err (bs aw26) 0 5 aw_l (by decide) w (by rw [aw_sz]; decide) hE)
  have HH := Lib.hid (fun w hE => parse_err ⟨#[72, 84, 84, 80, 47, 49, 46, 49, 32, 50, 48, 48, 32, 79, 75, 13, 10, 13, 10]⟩ 9 6 aw_h (by decide) w (by decide) hE)
  have HI := Lib.hid (fun w hE => print_is 99 (.slice none 0 0) [] ⟨#[]⟩ _ 8 aw_i 0 w hE (by decide) (by decide) (nil_own w) (by decide) (fun f hf => by simp at hf) (by decide))
  have HE := Lib.hid (hE.below (below_agg3 w (.int .i64 404) (.slice none 0 0) (.string ⟨#[120]⟩) 32))
  have HB := Lib.hid (below_agg3 w (.int .i64 404) (.slice none 0 0) (.string ⟨#[120]⟩) 32)
  have HR := Lib.hid (PAt.new (c := 404) (x := ⟨#[120]⟩) (nil_own w))
  have hsz := aw_sz
  have hlit : ((bs aw26).toList == [72, 84, 84, 80, 47, 49, 46, 49, 32, 52, 48, 52, 32, 78, 111, 116, 32, 70, 111, 117, 110, 100, 13, 10, 67, 111, 110, 116, 101, 110, 116, 45, 76, 101, 110, 103, 116, 104, 58, 32, 49, 13, 10, 13, 10, 120]) = true := (bs_lit aw26 aw26).trans (decide_eq_true rfl)
  have padd := fun w => run_string_add_sum (P := Tryz.prog) w (bs aw26) ⟨#[121]⟩ (by rw [aw_sz]; decide)
  clear hE
  generalize bs aw26 = S at HP HT HL hsz hlit padd
  go_enter Tryz.func8, Tryz.ntmps8
  go_wp2_with fail
  refine (HP.out _ HE.out).mono ?_
  rintro e w1 ⟨rfl, hb1⟩
  have HE1 := Lib.hid (HE.out.below hb1)
  have HB1 := Lib.hid (bstep HB.out hb1)
  have HR1 := Lib.hid (HR.out.below hb1)
  clear hb1 HE HB HR HP
  go_wp2_with fail
  refine (HT.out _ HE1.out).mono ?_
  rintro e w2 ⟨a2, c2, rfl, ho2, hb2⟩
  have HX2 := Lib.hid (PAt.new (c := 404) (x := ⟨#[120]⟩) ho2)
  have hb2' := bstep hb2 (below_agg3 w2 (.int .i64 404) (.slice a2 0 c2) (.string ⟨#[120]⟩) 32)
  have HE2 := Lib.hid (HE1.out.below hb2')
  have HB2 := Lib.hid (bstep HB1.out hb2')
  have HR2 := Lib.hid (HR1.out.below hb2')
  clear hb2 hb2' ho2 HE1 HB1 HR1 HT padd
  go_wp2_with fail
  refine (HL.out _ HE2.out).mono ?_
  rintro e w3 ⟨a3, c3, rfl, ho3, hb3⟩
  have hb3' := bstep hb3 (below_agg3 w3 (.int .i64 0) (.slice a3 0 c3) (.string ⟨#[]⟩) 32)
  have HE3 := Lib.hid (HE2.out.below hb3')
  have HB3 := Lib.hid (bstep HB2.out hb3')
  have HR3 := Lib.hid (HR2.out.below hb3')
  have HX3 := Lib.hid (HX2.out.below hb3')
  clear hb3 hb3' ho3 HE2 HB2 HR2 HX2 HL
  go_wp2_with fail
  refine (HH.out _ HE3.out).mono ?_
  rintro e w4 ⟨a4, c4, rfl, ho4, hb4⟩
  have hb4' := bstep hb4 (below_agg3 w4 (.int .i64 0) (.slice a4 0 c4) (.string ⟨#[]⟩) 32)
  have HE4 := Lib.hid (HE3.out.below hb4')
  have HB4 := Lib.hid (bstep HB3.out hb4')
  have HR4 := Lib.hid (HR3.out.below hb4')
  have HX4 := Lib.hid (HX3.out.below hb4')
  clear hb4 hb4' ho4 HE3 HB3 HR3 HX3 HH
  go_wp2_with fail
  refine (HI.out _ HE4.out).mono ?_
  rintro e w5 ⟨rfl, hb5⟩
  have HB5 := Lib.hid (bstep HB4.out hb5)
  have HR5 := Lib.hid (HR4.out.below hb5)
  have HX5 := Lib.hid (HX4.out.below hb5)
  clear hb5 HE4 HB4 HR4 HX4 HI
  obtain ⟨r0, r1, r2, -, -, -⟩ := three_facts HR5.out.blk
  obtain ⟨x0, x1, x2, -, -, -⟩ := three_facts HX5.out.blk
  have HS1 := Lib.hid (reply_same 404 404 ⟨#[120]⟩ ⟨#[120]⟩ _ _ [] [] w5 HX5.out.holds HR5.out.holds (by decide) (by decide))
  rw [show sameR 404 404 (ByteArray.mk #[120]).data.toList (ByteArray.mk #[120]).data.toList [] [] = true from aw_same.1] at HS1
  go_wp2_with fail
  refine HS1.out.mono ?_
  rintro e w6 ⟨rfl, hb6⟩
  have HB6 := Lib.hid (bstep HB5.out hb6)
  have HX6 := Lib.hid (HX5.out.below hb6)
  clear hb6 r0 r1 r2 x0 x1 x2 HS1 HB5 HR5 HX5
  obtain ⟨x0, x1, x2, -, -, -⟩ := three_facts HX6.out.blk
  have HS2 := Lib.hid (reply_same 404 0 ⟨#[120]⟩ ⟨#[]⟩ _ (.slice none 0 0) [] [] w6 HX6.out.holds (HoldsF.nil _ _ _) (by decide) (by decide))
  rw [show sameR 404 0 (ByteArray.mk #[120]).data.toList (ByteArray.mk #[]).data.toList [] [] = false from aw_same.2] at HS2
  go_wp2_with fail
  refine HS2.out.mono ?_
  rintro e w7 ⟨rfl, hb7⟩
  go_wp2_with fail
  go_ret
  exact ⟨rfl, bstep HB6.out hb7⟩
end Go.Proofs.YtiljjkdpjbffbaaGreatDoor
namespace Go.Proofs.YtiljjkdpjbffbaaGreatDoor
open Go.RowKit
theorem overR_false (fs : List (List UInt8 × List UInt8)) (b : ByteArray) (h : overR fs b = false) : fs.length ≤ 20 ∧ (∀ f ∈ fs, f.1.length ≤ 400 ∧ f.2.length ≤ 400) ∧ b.size ≤ 500 := by
  unfold overR overF at h
  simp only [Bool.or_eq_false_iff, decide_eq_false_iff_not, List.any_eq_false] at h
  obtain ⟨⟨h1, h2⟩, h3⟩ := h
  refine ⟨by omega, fun f hf => ?_, by omega⟩
  have := h1 f hf
  unfold longF at this
  simp only [Bool.or_eq_true, decide_eq_true_eq, not_or] at this
  omega
/-- a reply of the document's that lies in a block -/
structure QAt (w : World) (b : Nat) (c : Int) (v : Value) (fs : List (List UInt8 × List UInt8)) (x : ByteArray) : Prop where
  blk : w.heap[b]? = some (.cells #[.int .i64 c, v, .string x] 24 (0, 0))
  hold : HoldsF w v fs
theorem QAt.lt {w : World} {b : Nat} {c : Int} {v : Value} {fs : List (List UInt8 × List UInt8)} {x : ByteArray} (h : QAt w b c v fs x) : b < w.heap.size := (Array.getElem?_eq_some_iff.1 h.blk).1
theorem QAt.below {w w' : World} {b : Nat} {c : Int} {v : Value} {fs : List (List UInt8 × List UInt8)} {x : ByteArray} (h : QAt w b c v fs x) (hb : Below w.heap.size w w') : QAt w' b c v fs x :=
  ⟨(hb.block b h.lt).trans h.blk, h.hold.below hb⟩
theorem QAt.new {w : World} {c : Int} {v : Value} {fs : List (List UInt8 × List UInt8)} {x : ByteArray} (h : HoldsF w v fs) :
    QAt (w.alloc (.cells #[.int .i64 c, v, .string x] 24)) w.heap.size c v fs x :=
  ⟨heap_alloc_new w _, h.below ((Below.refl _ _).alloc (Nat.le_refl _) _)⟩
theorem QAt.alloc {w : World} {b : Nat} {c : Int} {v : Value} {fs : List (List UInt8 × List UInt8)} {x : ByteArray} (h : QAt w b c v fs x) (o : Obj) : QAt (w.alloc o) b c v fs x := h.below ((Below.refl _ _).alloc (Nat.le_refl _) o)
theorem QAt.cells {w : World} {b : Nat} {c : Int} {v : Value} {fs : List (List UInt8 × List UInt8)} {x : ByteArray} (h : QAt w b c v fs x) : w.cell? ⟨b, 0, none⟩ = some (.int .i64 c) ∧ w.cell? ⟨b, 1, none⟩ = some v ∧ w.cell? ⟨b, 2, none⟩ = some (.string x) :=
  let ⟨h0, h1, h2, _⟩ := three_facts h.blk; ⟨h0, h1, h2⟩
set_option maxRecDepth 100000 in
set_option maxHeartbeats 4000000 in
theorem replyLays_walk (c d : Int) (v u : Value) (fs gs : List (List UInt8 × List UInt8)) (x y : ByteArray) (w : World) (hE : EnvF w) (hv : HoldsF w v fs) (hu : HoldsF w u gs) (hc0 : -9223372036854775808 ≤ c) (hc1 : c ≤ 9223372036854775807)
    (hfl : fs.length ≤ 9223372036854775807) (hgl : gs.length ≤ 9223372036854775807) :
    Calls Tryz.prog 3 #[.agg #[.int .i64 c, v, .string x], .agg #[.int .i64 d, u, .string y]] w fun e w' => e = .returned (.bool true) ∧ Below w.heap.size w w' := by
  have B1 := below_r3 w (.int .i64 c) v (.string x)
  have B2 := below_r3 (w.alloc (.cells #[.int .i64 c, v, .string x] 24)) (.int .i64 d) u (.string y)
  have HB := Lib.hid (bstep B1 B2)
  have HE := Lib.hid (hE.below (bstep B1 B2))
  have HQ := Lib.hid ((QAt.new (c := c) (x := x) hv).alloc (.cells #[.int .i64 d, u, .string y] 24))
  have HP := Lib.hid (QAt.new (c := d) (x := y) (hu.below B1))
  rw [show (w.alloc (.cells #[.int .i64 c, v, .string x] 24)).heap.size = w.heap.size + 1 by simp] at HP
  have HOv := Lib.hid (fun W hW => ref_rover c v fs x W hW hfl)
  have HOw := Lib.hid (fun W hW => ref_rover d u gs y W hW hgl)
  clear B1 B2 hv hu hE
  cases h1 : overR fs x with
  | true =>
    rw [h1] at HOv
    obtain ⟨q0, q1, q2⟩ := HQ.out.cells
    go_enter Tryz.func3, Tryz.ntmps3
    go_wp2_with fail
    refine (HOv.out _ HQ.out.hold).mono ?_
    rintro e w1 ⟨rfl, hb1⟩
    have HB1 := Lib.hid (bstep HB.out hb1)
    have HE1 := Lib.hid (HE.out.below hb1)
    clear hb1
    go_wp2_with fail
    refine (awake26 _ HE1.out).mono ?_
    rintro e w2 ⟨rfl, hb2⟩
    go_wp2_with fail
    go_ret
    exact ⟨rfl, bstep HB1.out hb2⟩
  | false =>
  rw [h1] at HOv
  cases h2 : overR gs y with
  | true =>
    rw [h2] at HOw
    obtain ⟨q0, q1, q2⟩ := HQ.out.cells
    go_enter Tryz.func3, Tryz.ntmps3
    go_wp2_with fail
    refine (HOv.out _ HQ.out.hold).mono ?_
    rintro e w1 ⟨rfl, hb1⟩
    have HB1 := Lib.hid (bstep HB.out hb1)
    have HE1 := Lib.hid (HE.out.below hb1)
    have HP1 := Lib.hid (HP.out.below hb1)
    obtain ⟨p0, p1, p2⟩ := HP1.out.cells
    clear hb1 q0 q1 q2
    go_wp2_with fail
    refine (HOw.out _ HP1.out.hold).mono ?_
    rintro e w2 ⟨rfl, hb2⟩
    have HB2 := Lib.hid (bstep HB1.out hb2)
    have HE2 := Lib.hid (HE1.out.below hb2)
    clear hb2 p0 p1 p2
    go_wp2_with fail
    refine (awake26 _ HE2.out).mono ?_
    rintro e w3 ⟨rfl, hb3⟩
    go_wp2_with fail
    go_ret
    exact ⟨rfl, bstep HB2.out hb3⟩
  | false =>
  rw [h2] at HOw
  obtain ⟨f1, f2, f3⟩ := overR_false fs x h1
  obtain ⟨g1, g2, g3⟩ := overR_false gs y h2
  have HOr := Lib.hid (fun W hW => law26_own c v fs x W hW (by omega))
  have HOo := Lib.hid (fun W hW => law26_own d u gs y W hW (by omega))
  have HPr : Hid (∀ (W : World) (fv : Value) (B : Nat), EnvF W → W.ownsRow B 51 2 fv fs.length (fcells fs) → Calls Tryz.prog 9 #[.agg #[.int .i64 c, fv, .string x]] W (RPost c fs x.data.toList W)) := Lib.hid (fun W fv B hW hO => reply_print c fv fs x B W hW hc0 hc1 hO (by omega) (fun f hf => by have := f2 f hf; omega) (by omega))
  have HRp : Hid (∀ W, HoldsF W v fs → Calls Tryz.prog 11 #[.agg #[.int .i64 c, v, .string x]] W (RPost c fs x.data.toList W)) := Lib.hid (fun W hW => ref_rprint c v fs x W hc0 hc1 hW (by omega) (fun f hf => by have := f2 f hf; omega) (by omega))
  unfold RPost at HPr HRp
  generalize bs (repS c fs x.data.toList) = S at HPr HRp
  generalize repE c fs = E at HPr HRp
  have HSm : Hid (∀ (W : World) (a b : Value), HoldsF W a fs → HoldsF W b gs → Calls Tryz.prog 12 #[.agg #[.int .i64 c, a, .string x], .agg #[.int .i64 d, b, .string y]] W fun e w' => e = .returned (.bool (sameR c d x.data.toList y.data.toList fs gs)) ∧ Below W.heap.size W w') := Lib.hid (fun W a b ha hb => reply_same c d x y a b fs gs W ha hb (by omega) (by omega))
  have HRm : Hid (∀ W, HoldsF W v fs → HoldsF W u gs → Calls Tryz.prog 13 #[.agg #[.int .i64 c, v, .string x], .agg #[.int .i64 d, u, .string y]] W fun e w' => e = .returned (.bool (sameR c d x.data.toList y.data.toList fs gs)) ∧ Below W.heap.size W w') := Lib.hid (fun W ha hb => ref_sameR c d x y v u fs gs W ha hb (by omega) (by omega))
  generalize sameR c d x.data.toList y.data.toList fs gs = q at HSm HRm
  clear h1 h2 f2 g2
  obtain ⟨q0, q1, q2⟩ := HQ.out.cells
  go_enter Tryz.func3, Tryz.ntmps3
  go_wp2_with fail
  refine (HOv.out _ HQ.out.hold).mono ?_
  rintro e w1 ⟨rfl, hb1⟩
  have HB1 := Lib.hid (bstep HB.out hb1)
  have HE1 := Lib.hid (HE.out.below hb1)
  have HP1 := Lib.hid (HP.out.below hb1)
  have HQ1 := Lib.hid (HQ.out.below hb1)
  obtain ⟨p0, p1, p2⟩ := HP1.out.cells
  clear hb1 q0 q1 q2 HB HE HP HQ HOv
  go_wp2_with fail
  refine (HOw.out _ HP1.out.hold).mono ?_
  rintro e w2 ⟨rfl, hb2⟩
  have HB2 := Lib.hid (bstep HB1.out hb2)
  have HE2 := Lib.hid (HE1.out.below hb2)
  have HP2 := Lib.hid (HP1.out.below hb2)
  have HQ2 := Lib.hid (HQ1.out.below hb2)
  obtain ⟨q0, q1, q2⟩ := HQ2.out.cells
  clear hb2 p0 p1 p2 HB1 HE1 HP1 HQ1 HOw
  go_wp2_with fail
  refine (HOr.out _ HQ2.out.hold).mono ?_
  rintro e w3 ⟨a3, c3, rfl, ho3, hb3⟩
  have HB3 := Lib.hid (bstep HB2.out hb3)
  have HE3 := Lib.hid (HE2.out.below hb3)
  have HP3 := Lib.hid (HP2.out.below hb3)
  have HQ3 := Lib.hid (HQ2.out.below hb3)
  have HO3 := Lib.hid ho3
  clear hb3 q0 q1 q2 HB2 HE2 HP2 HQ2 ho3
  go_wp2_with fail
  refine (HPr.out _ _ _ HE3.out HO3.out).mono ?_
  rintro e w4 ⟨rfl, hb4⟩
  have HB4 := Lib.hid (bstep HB3.out hb4)
  have HE4 := Lib.hid (HE3.out.below hb4)
  have HP4 := Lib.hid (HP3.out.below hb4)
  have HQ4 := Lib.hid (HQ3.out.below hb4)
  obtain ⟨q0, q1, q2⟩ := HQ4.out.cells
  clear hb4 HB3 HE3 HP3 HQ3 HO3 HPr
  go_wp2_with fail
  refine (HRp.out _ HQ4.out.hold).mono ?_
  rintro e W5 ⟨rfl, hb5⟩
  have HB5 := Lib.hid (bstep HB4.out hb5)
  have HE5 := Lib.hid (HE4.out.below hb5)
  have HP5 := Lib.hid (HP4.out.below hb5)
  have HQ5 := Lib.hid (HQ4.out.below hb5)
  clear hb5 HB4 HE4 HP4 HQ4 HRp q0 q1 q2
  have HS : Hid (∀ W, Below W5.heap.size W5 W → W.cell? ⟨w.heap.size, 0, none⟩ = some (.int .i64 c) ∧ W.cell? ⟨w.heap.size, 1, none⟩ = some v ∧ W.cell? ⟨w.heap.size, 2, none⟩ = some (.string x) ∧ W.cell? ⟨w.heap.size + 1, 0, none⟩ = some (.int .i64 d) ∧ W.cell? ⟨w.heap.size + 1, 1, none⟩ = some u ∧ W.cell? ⟨w.heap.size + 1, 2, none⟩ = some (.string y)) := Lib.hid (fun W hW =>
    let ⟨x0, x1, x2⟩ := (HQ5.out.below hW).cells
    let ⟨y0, y1, y2⟩ := (HP5.out.below hW).cells
    ⟨x0, x1, x2, y0, y1, y2⟩)
  have HhQ : Hid (∀ W, Below W5.heap.size W5 W → HoldsF W v fs ∧ HoldsF W u gs ∧ EnvF W) := Lib.hid (fun W hW => ⟨(HQ5.out.below hW).hold, (HP5.out.below hW).hold, HE5.out.below hW⟩)
  have HOr1 := Lib.hid (HOr.out W5.drew (HhQ.out _ (Below.refl _ _).drew).1)
  have HOo1 := Lib.hid (fun W hW => HOo.out W (HhQ.out W hW).2.1)
  have HRm1 := Lib.hid (fun W hW => HRm.out W (HhQ.out W hW).1 (HhQ.out W hW).2.1)
  have HAw1 := Lib.hid (fun W hW => awake26 W (HhQ.out W hW).2.2)
  have HDr : Hid (Below W5.heap.size W5 W5.drew) := Lib.hid (Below.refl _ _).drew
  go_wp2_with fail
  go_region_held3 (fun w' => w'.cell? ⟨w.heap.size, 0, none⟩ = some (.int .i64 c) ∧ w'.cell? ⟨w.heap.size, 1, none⟩ = some v ∧ w'.cell? ⟨w.heap.size, 2, none⟩ = some (.string x) ∧ w'.cell? ⟨w.heap.size + 1, 0, none⟩ = some (.int .i64 d) ∧ w'.cell? ⟨w.heap.size + 1, 1, none⟩ = some u ∧ w'.cell? ⟨w.heap.size + 1, 2, none⟩ = some (.string y)) (first | exact HS.out _ (Below.refl _ _).drew | exact HS.out _ HA1.out | exact HS.out _ HA2.out | exact HS.out _ HA3.out | exact HS.out _ HA4.out | exact HS.out _ HA5.out)
    (first
      | (go_at_call 10; (with_reducible refine HOr1.out.mono ?_); rintro e wx ⟨ax, cx, rfl, hox, hbx⟩; have HA1 : Hid (Below W5.heap.size W5 wx) := Lib.hid (bstep HDr.out hbx); have HOX := Lib.hid (HoldsF.of_own hox); clear hox hbx)
      | (go_at_call 10; (with_reducible refine (HOo1.out _ HA1.out).mono ?_); rintro e wy ⟨ay, cy, rfl, hoy, hby⟩; have HA2 : Hid (Below W5.heap.size W5 wy) := Lib.hid (bstep HA1.out hby); have HOX2 := Lib.hid (HOX.out.below hby); have HOY := Lib.hid (HoldsF.of_own hoy); clear hoy hby)
      | (go_at_call 12; refine (HSm.out _ _ _ HOX2.out HOY.out).mono ?_; rintro e wz ⟨rfl, hbz⟩; have HA3 : Hid (Below W5.heap.size W5 wz) := Lib.hid (bstep HA2.out hbz); clear hbz)
      | (go_at_call 13; refine (HRm1.out _ HA3.out).mono ?_; rintro e wa ⟨rfl, hba⟩; have HA4 : Hid (Below W5.heap.size W5 wa) := Lib.hid (bstep HA3.out hba); clear hba)
      | (go_at_call 8; refine (HAw1.out _ HA4.out).mono ?_; rintro e wb ⟨rfl, hbb⟩; have HA5 : Hid (Below W5.heap.size W5 wb) := Lib.hid (bstep HA4.out hbb); clear hbb))
  go_wp2_with fail
  go_ret
  exact ⟨rfl, bstep HB5.out HA5.out⟩
end Go.Proofs.YtiljjkdpjbffbaaGreatDoor
namespace Go.Proofs.YtiljjkdpjbffbaaGreatDoor
open Go.RowKit
def RParseAt (C n : Int) (F : List (List UInt8 × List UInt8)) (B : ByteArray) (E : Nat) (w : World) (e : Ending) (w' : World) : Prop :=
  ∃ a cp, e = .returned (.tuple #[.agg #[.int .i64 C, .slice a F.length cp, .string B], .int .i64 n, .int .i64 (E : Nat)]) ∧ HoldsF w' (.slice a F.length cp) F ∧ Below w.heap.size w w'
theorem rparse_is (s : ByteArray) (most : Int) (C n : Int) (F : List (List UInt8 × List UInt8)) (B : ByteArray) (E : Nat) (h : takE s most = E ∧ takC s most = C ∧ takF s most = F ∧ bs (takB s most) = B ∧ takN s most = n) (w : World) (hs : s.size ≤ 1000000) :
    Calls Tryz.prog 15 #[.string s, .int .i64 most] w (RParseAt C n F B E w) := by
  obtain ⟨rfl, rfl, rfl, rfl, rfl⟩ := h
  refine (ref_rparse s most w hs).mono ?_
  rintro e w' ⟨fv, rfl, ⟨B1, h1⟩, h2⟩
  obtain ⟨a, cp, rfl⟩ := own_fslice h1
  exact ⟨a, cp, rfl, HoldsF.of_own h1, h2⟩
theorem takF_len (s : ByteArray) (most : Int) : (takF s most).length ≤ 17 := by
  unfold takF
  split
  · refine Nat.le_trans (restF_len _) ?_
    unfold fldL
    rw [List.length_map, List.length_tail]
    have := (headOf_bound s).2
    omega
  · exact Nat.zero_le _
theorem PAt.cells {w : World} {b : Nat} {c : Int} {a : Option Addr} {n cp : Nat} {fs : List (List UInt8 × List UInt8)} {x : ByteArray} (h : PAt w b c a n cp fs x) : w.cell? ⟨b, 0, none⟩ = some (.int .i64 c) ∧ w.cell? ⟨b, 1, none⟩ = some (.slice a n cp) ∧ w.cell? ⟨b, 2, none⟩ = some (.string x) :=
  let ⟨h0, h1, h2, _⟩ := three_facts h.blk; ⟨h0, h1, h2⟩
theorem sameR_refl (c : Int) (x : List UInt8) (fs : List (List UInt8 × List UInt8)) : sameR c c x x fs fs = true := by unfold sameR; simp
set_option maxRecDepth 100000 in
set_option maxHeartbeats 4000000 in
theorem replyTakes_walk (s : ByteArray) (most : Int) (w : World) (hE : EnvF w) (hs : s.size ≤ 9223372036854775807) :
    Calls Tryz.prog 4 #[.string s, .int .i64 most] w fun e w' => e = .returned (.bool true) ∧ Below w.heap.size w w' := by
  by_cases hlong : (1500 : Int) < (s.size : Int)
  · have tl : decide ((s.size : Int) > 1500) = true := decide_eq_true hlong
    have HA := Lib.hid (awake26 w hE)
    go_enter Tryz.func4, Tryz.ntmps4
    go_wp2_with fail
    refine HA.out.mono ?_
    rintro e w1 ⟨rfl, hb⟩
    go_wp2_with fail
    go_ret
    exact ⟨rfl, hb⟩
  have tl : decide ((s.size : Int) > 1500) = false := decide_eq_false hlong
  obtain ⟨C, hC⟩ : ∃ C, takC s most = C := ⟨_, rfl⟩
  obtain ⟨N, hN⟩ : ∃ N, takN s most = N := ⟨_, rfl⟩
  obtain ⟨F, hF⟩ : ∃ F, takF s most = F := ⟨_, rfl⟩
  obtain ⟨B, hB⟩ : ∃ B, bs (takB s most) = B := ⟨_, rfl⟩
  obtain ⟨E, hEE⟩ : ∃ E, takE s most = E := ⟨_, rfl⟩
  have HP := Lib.hid (fun w hE => parse_is s most C N F B E ⟨hEE, hC, hF, hB, hN⟩ w (by omega) hE)
  have HQ := Lib.hid (fun w => rparse_is s most C N F B E ⟨hEE, hC, hF, hB, hN⟩ w (by omega))
  have hfl : F.length ≤ 17 := by rw [← hF]; exact takF_len s most
  have HEE := Lib.hid hE
  clear hC hN hF hB hEE hE hlong
  obtain ⟨fl, hfe⟩ : ∃ fl, F.length = fl := ⟨_, rfl⟩
  have HFL := Lib.hid hfe
  unfold ParseAt at HP
  unfold RParseAt at HQ
  rw [hfe] at HP HQ hfl
  clear hfe
  go_enter Tryz.func4, Tryz.ntmps4
  go_wp2_with fail
  refine (HP.out _ HEE.out).mono ?_
  rintro e w1 ⟨a1, c1, rfl, ho1, hb1⟩
  have HX1 := Lib.hid (PAt.new (c := C) (x := B) ho1)
  have hb1' := bstep hb1 (below_agg3 w1 (.int .i64 C) (.slice a1 fl c1) (.string B) 32)
  have HE1 := Lib.hid (HEE.out.below hb1')
  have HB1 := Lib.hid hb1'
  clear hb1 hb1' ho1 HP HEE
  go_wp2_with fail
  refine (HQ.out _).mono ?_
  rintro e w2 ⟨a2, c2, rfl, hh2, hb2⟩
  have HY2 := Lib.hid (QAt.new (c := C) (x := B) hh2)
  have hb2' := bstep hb2 (below_r3 w2 (.int .i64 C) (.slice a2 fl c2) (.string B))
  have HE2 := Lib.hid (HE1.out.below hb2')
  have HB2 := Lib.hid (bstep HB1.out hb2')
  have HX2 := Lib.hid (HX1.out.below hb2')
  have hl2 : w1.heap.size < w2.heap.size := by have := hb2.size; simp at this; omega
  clear hb2 hb2' hh2 HE1 HB1 HX1 HQ
  go_wp2_with fail
  generalize w2.alloc (.cells #[.int .i64 C, (.slice a2 fl c2), .string B] 24) = W5 at HY2 HE2 HB2 HX2 ⊢
  have HS : Hid (∀ W, Below W5.heap.size W5 W → W.cell? ⟨w1.heap.size, 0, none⟩ = some (.int .i64 C) ∧ W.cell? ⟨w1.heap.size, 1, none⟩ = some (.slice a1 fl c1) ∧ W.cell? ⟨w1.heap.size, 2, none⟩ = some (.string B) ∧ W.cell? ⟨w2.heap.size, 0, none⟩ = some (.int .i64 C) ∧ W.cell? ⟨w2.heap.size, 1, none⟩ = some (.slice a2 fl c2) ∧ W.cell? ⟨w2.heap.size, 2, none⟩ = some (.string B)) := Lib.hid (fun W hW =>
    let ⟨x0, x1, x2⟩ := (HX2.out.below hW).cells
    let ⟨y0, y1, y2⟩ := (HY2.out.below hW).cells
    ⟨x0, x1, x2, y0, y1, y2⟩)
  have HBk := Lib.hid (law26_back C (.slice a1 fl c1) F B W5.drew (HX2.out.below (Below.refl _ _).drew).holds (by rw [HFL.out]; omega))
  have HRm : Hid (∀ W va, Below W5.heap.size W5 W → HoldsF W va F → Calls Tryz.prog 13 #[.agg #[.int .i64 C, va, .string B], .agg #[.int .i64 C, (.slice a2 fl c2), .string B]] W fun e w' => e = .returned (.bool true) ∧ Below W.heap.size W w') := Lib.hid (fun W va hW ha => by
    have := ref_sameR C C B B va (.slice a2 fl c2) F F W ha ((HY2.out.below hW).hold) (by rw [HFL.out]; omega) (by rw [HFL.out]; omega)
    rw [sameR_refl] at this
    exact this)
  have HAw : Hid (∀ W, Below W5.heap.size W5 W → Calls Tryz.prog 8 #[] W fun e w' => e = .returned (.bool true) ∧ Below W.heap.size W w') := Lib.hid (fun W hW => awake26 W (HE2.out.below hW))
  have HDr : Hid (Below W5.heap.size W5 W5.drew) := Lib.hid (Below.refl _ _).drew
  go_wp2_with fail
  go_region_held3 (fun w' => w'.cell? ⟨w1.heap.size, 0, none⟩ = some (.int .i64 C) ∧ w'.cell? ⟨w1.heap.size, 1, none⟩ = some (.slice a1 fl c1) ∧ w'.cell? ⟨w1.heap.size, 2, none⟩ = some (.string B) ∧ w'.cell? ⟨w2.heap.size, 0, none⟩ = some (.int .i64 C) ∧ w'.cell? ⟨w2.heap.size, 1, none⟩ = some (.slice a2 fl c2) ∧ w'.cell? ⟨w2.heap.size, 2, none⟩ = some (.string B)) (first | exact HS.out _ (Below.refl _ _).drew | exact HS.out _ HA1.out | exact HS.out _ HA2.out | exact HS.out _ HA3.out)
    (first
      | (go_at_call 16; refine HBk.out.mono ?_; rintro e wx ⟨ax, cx, rfl, hox, hbx⟩; have HA1 : Hid (Below W5.heap.size W5 wx) := Lib.hid (bstep HDr.out hbx); have HOX := Lib.hid (HoldsF.of_own hox); clear hox hbx)
      | (go_at_call 13; refine (HRm.out _ _ HA1.out HOX.out).mono ?_; rintro e wa ⟨rfl, hba⟩; have HA2 : Hid (Below W5.heap.size W5 wa) := Lib.hid (bstep HA1.out hba); clear hba)
      | (go_at_call 8; refine (HAw.out _ HA2.out).mono ?_; rintro e wb ⟨rfl, hbb⟩; have HA3 : Hid (Below W5.heap.size W5 wb) := Lib.hid (bstep HA2.out hbb); clear hbb))
  go_wp2_with fail
  go_ret
  exact ⟨rfl, bstep HB2.out HA3.out⟩
end Go.Proofs.YtiljjkdpjbffbaaGreatDoor
namespace Go.Proofs.YtiljjkdpjbffbaaGreatDoor
open Go.RowKit
theorem body_len (ls : List (List UInt8)) (h : ∀ x ∈ ls, x.length ≤ 256) : (body ls).length ≤ ls.length * 258 := by
  induction ls with
  | nil => exact Nat.le_refl _
  | cons x t ih =>
    have h1 := h x (List.mem_cons_self ..)
    have h2 := ih (fun y hy => h y (List.mem_cons_of_mem _ hy))
    show (x ++ 13 :: 10 :: body t).length ≤ (t.length + 1) * 258
    rw [List.length_append, List.length_cons, List.length_cons]; omega
theorem repL_len (c : Int) (fs : List (List UInt8 × List UInt8)) (b : List UInt8) (h : repE c fs = 0) (hn : b.length ≤ 1000000) : (repL c fs b).length ≤ 4400 + b.length ∧ 2 ≤ (repL c fs b).length := by
  obtain ⟨g1, g2⟩ := good_lines c fs b.length h hn
  have := body_len (repLines c fs b.length) (fun x hx => (g1 x hx).2.2)
  unfold repL
  rw [List.length_append, List.length_cons, List.length_cons]; omega
theorem isEmpty_false (S : ByteArray) (h : 0 < S.size) : (S.toList == []) = false := by
  rw [beq_eq_false_iff_ne]
  intro e
  have : S.toList.length = 0 := by rw [e]; rfl
  rw [ByteArray.toList_eq, size_len] at this
  omega
set_option maxRecDepth 100000 in
set_option maxHeartbeats 4000000 in
theorem replyBack_walk (c : Int) (v : Value) (fs : List (List UInt8 × List UInt8)) (x beh : ByteArray) (ct : Nat) (hct : ct ≤ 65535) (w : World) (hE : EnvF w) (hv : HoldsF w v fs) (hc0 : -9223372036854775808 ≤ c) (hc1 : c ≤ 9223372036854775807)
    (hfl : fs.length ≤ 9223372036854775807) (hbs : beh.size ≤ 9223372036854775807) :
    Calls Tryz.prog 5 #[.agg #[.int .i64 c, v, .string x], .string beh, .int .u16 (ct : Int)] w fun e w' => e = .returned (.bool true) ∧ Below w.heap.size w w' := by
  have B1 := below_r3 w (.int .i64 c) v (.string x)
  have HB := Lib.hid B1
  have HE := Lib.hid (hE.below B1)
  have HQ := Lib.hid (QAt.new (c := c) (x := x) hv)
  have HOv := Lib.hid (fun W hW => ref_rover c v fs x W hW hfl)
  clear B1 hv hE
  cases h1 : overR fs x with
  | true =>
    rw [h1] at HOv
    obtain ⟨q0, q1, q2⟩ := HQ.out.cells
    go_enter Tryz.func5, Tryz.ntmps5
    go_wp2_with fail
    refine (HOv.out _ HQ.out.hold).mono ?_
    rintro e w1 ⟨rfl, hb1⟩
    have HB1 := Lib.hid (bstep HB.out hb1)
    have HE1 := Lib.hid (HE.out.below hb1)
    clear hb1
    go_wp2_with fail
    refine (awake26 _ HE1.out).mono ?_
    rintro e w2 ⟨rfl, hb2⟩
    go_wp2_with fail
    go_ret
    exact ⟨rfl, bstep HB1.out hb2⟩
  | false =>
  rw [h1] at HOv
  by_cases hlong : (300 : Int) < (beh.size : Int)
  · have tl : decide ((beh.size : Int) > 300) = true := decide_eq_true hlong
    obtain ⟨q0, q1, q2⟩ := HQ.out.cells
    go_enter Tryz.func5, Tryz.ntmps5
    go_wp2_with fail
    refine (HOv.out _ HQ.out.hold).mono ?_
    rintro e w1 ⟨rfl, hb1⟩
    have HB1 := Lib.hid (bstep HB.out hb1)
    have HE1 := Lib.hid (HE.out.below hb1)
    clear hb1
    go_wp2_with fail
    refine (awake26 _ HE1.out).mono ?_
    rintro e w2 ⟨rfl, hb2⟩
    go_wp2_with fail
    go_ret
    exact ⟨rfl, bstep HB1.out hb2⟩
  have tl : decide ((beh.size : Int) > 300) = false := decide_eq_false hlong
  have hbl : beh.size ≤ 300 := by omega
  obtain ⟨f1, f2, f3⟩ := overR_false fs x h1
  have HOr := Lib.hid (fun W hW => law26_own c v fs x W hW (by omega))
  have HPr : Hid (∀ (W : World) (fv : Value) (B : Nat), EnvF W → W.ownsRow B 51 2 fv fs.length (fcells fs) → Calls Tryz.prog 9 #[.agg #[.int .i64 c, fv, .string x]] W (RPost c fs x.data.toList W)) := Lib.hid (fun W fv B hW hO => reply_print c fv fs x B W hW hc0 hc1 hO (by omega) (fun f hf => by have := f2 f hf; omega) (by omega))
  unfold RPost at HPr
  by_cases he : repE c fs = 0
  case neg =>
    have hS : repS c fs x.data.toList = [] := by unfold repS; rw [if_neg he]
    rw [hS] at HPr
    have tz : ((repE c fs : Int) != 0) = true := by rw [bne_iff_ne]; omega
    generalize repE c fs = E at HPr tz
    have hem : ((bs []).toList == []) = true := (bs_lit [] []).trans (decide_eq_true rfl)
    generalize bs [] = Z at HPr hem
    clear h1 f2 hS he
    obtain ⟨q0, q1, q2⟩ := HQ.out.cells
    go_enter Tryz.func5, Tryz.ntmps5
    go_wp2_with fail
    refine (HOv.out _ HQ.out.hold).mono ?_
    rintro e w1 ⟨rfl, hb1⟩
    have HB1 := Lib.hid (bstep HB.out hb1)
    have HE1 := Lib.hid (HE.out.below hb1)
    have HQ1 := Lib.hid (HQ.out.below hb1)
    clear hb1 q0 q1 q2 HB HE HQ HOv
    obtain ⟨q0, q1, q2⟩ := HQ1.out.cells
    go_wp2_with fail
    refine (HOr.out _ HQ1.out.hold).mono ?_
    rintro e w3 ⟨a3, c3, rfl, ho3, hb3⟩
    have HB3 := Lib.hid (bstep HB1.out hb3)
    have HE3 := Lib.hid (HE1.out.below hb3)
    have HO3 := Lib.hid ho3
    clear hb3 q0 q1 q2 HB1 HE1 HQ1 ho3
    go_wp2_with fail
    refine (HPr.out _ _ _ HE3.out HO3.out).mono ?_
    rintro e w4 ⟨rfl, hb4⟩
    have HB4 := Lib.hid (bstep HB3.out hb4)
    have HE4 := Lib.hid (HE3.out.below hb4)
    clear hb4 HB3 HE3 HO3 HPr
    go_wp2_with fail
    refine (awake26 _ HE4.out).mono ?_
    rintro e w5 ⟨rfl, hb5⟩
    go_wp2_with fail
    go_ret
    exact ⟨rfl, bstep HB4.out hb5⟩
  have hS : repS c fs x.data.toList = repL c fs x.data.toList := by unfold repS; rw [if_pos he]
  have hxl : x.data.toList.length ≤ 1000000 := by rw [size_len]; omega
  obtain ⟨l1, l2⟩ := repL_len c fs x.data.toList he hxl
  rw [hS, he] at HPr
  have hSd : (bs (repL c fs x.data.toList)).data.toList = repL c fs x.data.toList := bs_data _
  have hSz : (bs (repL c fs x.data.toList)).size = (repL c fs x.data.toList).length := bs_size _
  obtain ⟨S, hSS⟩ : ∃ S, bs (repL c fs x.data.toList) = S := ⟨_, rfl⟩
  rw [hSS] at HPr hSd hSz
  rw [size_len] at l1
  have hsz1 : S.size ≤ 5000 := by omega
  have hsz2 : 2 ≤ S.size := by omega
  have hcat : (S ++ beh).data.toList = repL c fs x.data.toList ++ beh.data.toList := by rw [ByteArray.data_append, Array.toList_append, hSd]
  have hcs : (S ++ beh).size ≤ 1000000 := by rw [ByteArray.size_append]; omega
  obtain ⟨t1, t2, t3, t4, t5⟩ := rep_take c fs x.data.toList beh.data.toList (S ++ beh) (x.size : Int) he hxl hcat (by rw [size_len]; exact Int.le_refl _)
  have HT := Lib.hid (fun w hE => parse_is (S ++ beh) (x.size : Int) c (S.size : Int) fs x 0 ⟨t1, t2, t3, by rw [t4, bs_self], by rw [t5, hSz]⟩ w hcs hE)
  have HL := Lib.hid (fun w hE => parse_err (S ++ beh) ((x.size : Int) - 1) 5 (rep_long c fs x.data.toList beh.data.toList (S ++ beh) _ he hxl hcat (by rw [size_len]; omega)) (by decide) w hcs hE)
  obtain ⟨k, hkk⟩ : ∃ k, ct % S.size = k := ⟨_, rfl⟩
  have hkN : k < S.size := by rw [← hkk]; exact Nat.mod_lt _ (by omega)
  have hm1 : (ct : Int) % (S.size : Int) = (k : Int) := by omega
  have hm2 : (ct : Int).tmod (S.size : Int) = (k : Int) := by rw [Int.tmod_eq_emod_of_nonneg (by omega)]; exact hm1
  have HC := Lib.hid (fun w hE => parse_err (S.extract 0 k) (x.size : Int) 3 (by
    have := rep_cut c fs x.data.toList (S.extract 0 k) k he hxl (by omega) (by rw [extract_bs, bs_data, hSd, List.drop_zero])
    rw [size_len] at this
    exact this) (by decide) w (by rw [ByteArray.size_extract]; omega) hE)
  have HSm : Hid (∀ (W : World) (a b : Value), HoldsF W a fs → HoldsF W b fs → Calls Tryz.prog 12 #[.agg #[.int .i64 c, a, .string x], .agg #[.int .i64 c, b, .string x]] W fun e w' => e = .returned (.bool true) ∧ Below W.heap.size W w') := Lib.hid (fun W a b ha hb => by
    have := reply_same c c x x a b fs fs W ha hb (by omega) (by omega)
    rw [sameR_refl] at this
    exact this)
  have hne := isEmpty_false S (by omega)
  have n0 : ((S.size : Int) == 0) = false := by rw [beq_eq_false_iff_ne]; omega
  have n1 : ¬ (S.size = 0) := by omega
  have n2 : ¬ ((S.size : Int) = 0) := by omega
  have n3 : (S.size == 0) = false := by rw [beq_eq_false_iff_ne]; omega
  have padd := fun w => run_string_add_sum (P := Tryz.prog) w S beh (by omega)
  have tw : IntKind.i64.wrap ((x.size : Int) - 1) = (x.size : Int) - 1 := by rw [IntKind.wrap_i64]; omega
  have hkS : k ≤ S.size := by omega
  have hkI : (k : Int) ≤ (S.size : Int) := by omega
  unfold ParseAt at HT HL HC
  clear h1 f2 hS he hxl l1 l2 hSd hSz hSS hcat hcs t1 t2 t3 t4 t5
  obtain ⟨N, hN⟩ : ∃ N, S.size = N := ⟨_, rfl⟩
  rw [hN] at HT hkN hm2 hm1 hkk n0 n1 n2 n3 hsz1 hsz2 hkS hkI
  have hkz : (0 : Int) ≤ (k : Int) := by omega
  have hwc : IntKind.i64.wrap (ct : Int) = (ct : Int) := by rw [IntKind.wrap_i64]; omega
  have hkw : IntKind.i64.wrap (k : Int) = (k : Int) := by rw [IntKind.wrap_i64]; omega
  obtain ⟨fl, hfe⟩ : ∃ fl, fs.length = fl := ⟨_, rfl⟩
  unfold OwnR at HOr
  rw [hfe] at HOr HT hfl f1
  have HFE := Lib.hid hfe
  obtain ⟨q0, q1, q2⟩ := HQ.out.cells
  go_enter Tryz.func5, Tryz.ntmps5
  go_wp2_with fail
  refine (HOv.out _ HQ.out.hold).mono ?_
  rintro e w1 ⟨rfl, hb1⟩
  have HB1 := Lib.hid (bstep HB.out hb1)
  have HE1 := Lib.hid (HE.out.below hb1)
  have HQ1 := Lib.hid (HQ.out.below hb1)
  clear hb1 q0 q1 q2 HB HE HQ HOv
  obtain ⟨q0, q1, q2⟩ := HQ1.out.cells
  go_wp2_with fail
  refine (HOr.out _ HQ1.out.hold).mono ?_
  rintro e w3 ⟨a3, c3, rfl, ho3, hb3⟩
  have HB3 := Lib.hid (bstep HB1.out hb3)
  have HE3 := Lib.hid (HE1.out.below hb3)
  have HQ3 := Lib.hid (HQ1.out.below hb3)
  have HO3 := Lib.hid ho3
  clear hb3 q0 q1 q2 HB1 HE1 HQ1 ho3
  go_wp2_with fail
  refine (HPr.out _ _ _ HE3.out (by rw [hfe]; exact HO3.out)).mono ?_
  rintro e w4 ⟨rfl, hb4⟩
  have HB4 := Lib.hid (bstep HB3.out hb4)
  have HE4 := Lib.hid (HE3.out.below hb4)
  have HQ4 := Lib.hid (HQ3.out.below hb4)
  clear hb4 HB3 HE3 HQ3 HO3 HPr
  obtain ⟨q0, q1, q2⟩ := HQ4.out.cells
  go_wp2_with fail
  refine (HT.out _ HE4.out).mono ?_
  rintro e w5 ⟨a5, c5, rfl, ho5, hb5⟩
  have hb5' := bstep hb5 (below_agg3 w5 (.int .i64 c) (.slice a5 fl c5) (.string x) 32)
  have HX5 := Lib.hid (PAt.new (c := c) (x := x) ho5)
  have HB5 := Lib.hid (bstep HB4.out hb5')
  have HE5 := Lib.hid (HE4.out.below hb5')
  have HQ5 := Lib.hid (HQ4.out.below hb5')
  clear hb5 hb5' q0 q1 q2 HB4 HE4 HQ4 HT ho5
  obtain ⟨q0, q1, q2⟩ := HQ5.out.cells
  go_wp2_with fail
  refine (HL.out _ HE5.out).mono ?_
  rintro e w6 ⟨a6, c6, rfl, ho6, hb6⟩
  have hb6' := bstep hb6 (below_agg3 w6 (.int .i64 0) (.slice a6 0 c6) (.string ⟨#[]⟩) 32)
  have HB6 := Lib.hid (bstep HB5.out hb6')
  have HE6 := Lib.hid (HE5.out.below hb6')
  have HQ6 := Lib.hid (HQ5.out.below hb6')
  have HX6 := Lib.hid (HX5.out.below hb6')
  clear hb6 hb6' q0 q1 q2 HB5 HE5 HQ5 HX5 HL ho6 padd
  go_wp2_with fail
  generalize w6.alloc (.cells #[.int .i64 0, .slice a6 0 c6, .string ⟨#[]⟩] 32) = W6 at HB6 HE6 HQ6 HX6 ⊢
  have HS : Hid (∀ W, Below W6.heap.size W6 W → W.cell? ⟨w5.heap.size, 0, none⟩ = some (.int .i64 c) ∧ W.cell? ⟨w5.heap.size, 1, none⟩ = some (.slice a5 fl c5) ∧ W.cell? ⟨w5.heap.size, 2, none⟩ = some (.string x) ∧ W.cell? ⟨w.heap.size, 0, none⟩ = some (.int .i64 c) ∧ W.cell? ⟨w.heap.size, 1, none⟩ = some v ∧ W.cell? ⟨w.heap.size, 2, none⟩ = some (.string x)) := Lib.hid (fun W hW =>
    let ⟨x0, x1, x2⟩ := (HX6.out.below hW).cells
    let ⟨y0, y1, y2⟩ := (HQ6.out.below hW).cells
    ⟨x0, x1, x2, y0, y1, y2⟩)
  have HDr : Hid (Below W6.heap.size W6 W6.drew) := Lib.hid (Below.refl _ _).drew
  have HOr1 := Lib.hid (HOr.out W6.drew (HQ6.out.below HDr.out).hold)
  have HSm1 : Hid (∀ W b, Below W6.heap.size W6 W → HoldsF W b fs → Calls Tryz.prog 12 #[.agg #[.int .i64 c, .slice a5 fl c5, .string x], .agg #[.int .i64 c, b, .string x]] W fun e w' => e = .returned (.bool true) ∧ Below W.heap.size W w') := Lib.hid (fun W b hW hb => HSm.out W _ b (HX6.out.below hW).holds hb)
  clear HOr HSm
  go_region_held3 (fun w' => w'.cell? ⟨w5.heap.size, 0, none⟩ = some (.int .i64 c) ∧ w'.cell? ⟨w5.heap.size, 1, none⟩ = some (.slice a5 fl c5) ∧ w'.cell? ⟨w5.heap.size, 2, none⟩ = some (.string x) ∧ w'.cell? ⟨w.heap.size, 0, none⟩ = some (.int .i64 c) ∧ w'.cell? ⟨w.heap.size, 1, none⟩ = some v ∧ w'.cell? ⟨w.heap.size, 2, none⟩ = some (.string x)) (first | exact HS.out _ HDr.out | exact HS.out _ HA1.out | exact HS.out _ HA2.out)
    (first
      | (go_at_call 10; refine HOr1.out.mono ?_; rintro e wx ⟨ax, cx, rfl, hox, hbx⟩; have HA1 : Hid (Below W6.heap.size W6 wx) := Lib.hid (bstep HDr.out hbx); have HOX := Lib.hid (HoldsF.of_own hox); clear hox hbx)
      | (go_at_call 12; refine (HSm1.out _ _ HA1.out HOX.out).mono ?_; rintro e wa ⟨rfl, hba⟩; have HA2 : Hid (Below W6.heap.size W6 wa) := Lib.hid (bstep HA1.out hba); clear hba))
  have HB7 := Lib.hid (bstep HB6.out HA2.out)
  have HE7 := Lib.hid (HE6.out.below HA2.out)
  have HQ7 := Lib.hid (HQ6.out.below HA2.out)
  clear HB6 HE6 HQ6 HX6 HA1 HA2 HOX HS HDr HOr1 HSm1
  go_wp2_with fail
  have HS2 : Hid (∀ W, Below wa.heap.size wa W → W.cell? ⟨w.heap.size, 2, none⟩ = some (.string x)) := Lib.hid (fun W hW => (HQ7.out.below hW).cells.2.2)
  have HDr : Hid (Below wa.heap.size wa wa.drew) := Lib.hid (Below.refl _ _).drew
  have HC1 := Lib.hid (HC.out wa.drew (HE7.out.below HDr.out))
  have HA0 : Hid (Below wa.heap.size wa (wa.alloc (.cells #[.int .i64 0, .slice none 0 0, .string ⟨#[]⟩] 32)).drew) := Lib.hid ((Below.refl _ _).alloc (Nat.le_refl _) _).drew
  have HC2 := Lib.hid (HC.out (wa.alloc (.cells #[.int .i64 0, .slice none 0 0, .string ⟨#[]⟩] 32)).drew (HE7.out.below HA0.out))
  go_region_held3 (fun w' => w'.cell? ⟨w.heap.size, 2, none⟩ = some (.string x)) (first | exact HS2.out _ HDr.out | exact HS2.out _ HA0.out | exact HS2.out _ HA1.out | exact HS2.out _ (HA1.out.alloc HA1.out.size _) | exact HS2.out _ (three_below HA1.out _ (Nat.le_refl _) _ _ _) | exact HS2.out _ (three_below (HA1.out.alloc HA1.out.size _) _ HA1.out.size _ _ _))
    (first
      | (go_at_call 14; (first | (with_reducible refine HC1.out.mono ?_) | (with_reducible refine HC2.out.mono ?_)); rintro e wc ⟨ac, cc, rfl, hoc, hbc⟩; (first | (have HA1 : Hid (Below wa.heap.size wa wc) := Lib.hid (bstep HDr.out hbc)) | (have HA1 : Hid (Below wa.heap.size wa wc) := Lib.hid (bstep HA0.out hbc); obtain ⟨z0, z1, z2, f0, f1, f2⟩ := three_facts ((hbc.block wa.heap.size (by simp)).trans (heap_alloc_new wa _)))); clear hoc hbc))
  · have HA2 := Lib.hid (HA1.out.alloc HA1.out.size (.cells #[.int .i64 0, .slice ac 0 cc, .string ⟨#[]⟩] 32))
    have HB8 := Lib.hid (bstep HB7.out HA2.out)
    have HE8 := Lib.hid (HE7.out.below HA2.out)
    clear HB7 HE7 HQ7 HA1 HA2 HS2 HC HC1 HC2
    go_wp2_with fail
    refine (awake26 _ HE8.out).mono ?_
    rintro e w9 ⟨rfl, hb9⟩
    go_wp2_with fail
    go_ret
    exact ⟨rfl, bstep HB8.out hb9⟩
  · have HA2 := Lib.hid (three_below HA1.out _ (Nat.le_refl _) (.int .i64 0) (.slice ac 0 cc) (.string ⟨#[]⟩))
    have HB8 := Lib.hid (bstep HB7.out HA2.out)
    have HE8 := Lib.hid (HE7.out.below HA2.out)
    clear HB7 HE7 HQ7 HA1 HA2 HS2 HC HC1 HC2 z0 z1 z2 f0 f1 f2
    go_wp2_with fail
    refine (awake26 _ HE8.out).mono ?_
    rintro e w9 ⟨rfl, hb9⟩
    go_wp2_with fail
    go_ret
    exact ⟨rfl, bstep HB8.out hb9⟩
end Go.Proofs.YtiljjkdpjbffbaaGreatDoor
namespace Go.Proofs.YtiljjkdpjbffbaaGreatDoor
open Go.RowKit
theorem tak_code (s : ByteArray) (most : Int) (h : takE s most = 0) : 100 ≤ takC s most ∧ takC s most ≤ 599 := by
  obtain ⟨h1, h2, h3, h4⟩ := tak_zero s most h
  obtain ⟨k1, k2, k3, k4, k5⟩ := hdE_zero _ h2
  have hC : takC s most = hdC (headOf s).1 := if_pos h
  rw [hC]
  exact code_status _ k2
theorem parseN_len (l : List UInt8) : (parseN l).length ≤ l.length := by
  unfold parseN
  split
  · unfold parseName; rw [List.length_map]; exact ahead_le l
  · exact Nat.zero_le _
theorem takF_small (s : ByteArray) (most : Int) : ∀ f ∈ takF s most, f.1.length ≤ 256 ∧ f.2.length ≤ 256 := by
  intro f hf
  unfold takF at hf
  split at hf
  · unfold restF at hf
    have hm := (List.mem_filter.1 hf).1
    unfold fldL at hm
    obtain ⟨x, hx, rfl⟩ := List.mem_map.1 hm
    have := (headOf_bound s).1 x (List.mem_of_mem_tail hx)
    exact ⟨Nat.le_trans (parseN_len x) this, Nat.le_trans (parseV_len x) this⟩
  · simp at hf
theorem same_none : sameR 0 0 [] [] [] [] = true := by decide +kernel
set_option maxRecDepth 100000 in
set_option maxHeartbeats 4000000 in
theorem replyAgain_walk (s : ByteArray) (most : Int) (w : World) (hE : EnvF w) (hs : s.size ≤ 9223372036854775807) (hm1 : most ≤ 9223372036854775807) :
    Calls Tryz.prog 6 #[.string s, .int .i64 most] w fun e w' => e = .returned (.bool true) ∧ Below w.heap.size w w' := by
  by_cases hlong : (1500 : Int) < (s.size : Int)
  · have tl : decide ((s.size : Int) > 1500) = true := decide_eq_true hlong
    have HA := Lib.hid (awake26 w hE)
    go_enter Tryz.func6, Tryz.ntmps6
    go_wp2_with fail
    refine HA.out.mono ?_
    rintro e w1 ⟨rfl, hb⟩
    go_wp2_with fail
    go_ret
    exact ⟨rfl, hb⟩
  have tl : decide ((s.size : Int) > 1500) = false := decide_eq_false hlong
  have hs15 : s.size ≤ 1500 := by omega
  by_cases he : takE s most = 0
  case neg =>
    obtain ⟨E, hEE⟩ : ∃ E, takE s most = E := ⟨_, rfl⟩
    have HP := Lib.hid (fun w hE => parse_err s most E hEE (by rw [← hEE]; exact he) w (by omega) hE)
    rw [hEE] at he
    have tz : ((E : Int) != 0) = true := by rw [bne_iff_ne]; omega
    have HE := Lib.hid hE
    have HSm := Lib.hid (fun W a ha => reply_same 0 0 ⟨#[]⟩ ⟨#[]⟩ a (.slice none 0 0) [] [] W ha (HoldsF.nil _ _ _) (by decide) (by decide))
    rw [show sameR 0 0 (ByteArray.mk #[]).data.toList (ByteArray.mk #[]).data.toList [] [] = true from same_none] at HSm
    clear hEE he hlong hE
    unfold ParseAt at HP
    go_enter Tryz.func6, Tryz.ntmps6
    go_wp2_with fail
    refine (HP.out _ HE.out).mono ?_
    rintro e w1 ⟨a1, c1, rfl, ho1, hb1⟩
    have HX1 := Lib.hid (PAt.new (c := 0) (x := ⟨#[]⟩) ho1)
    have hb1' := bstep hb1 (below_agg3 w1 (.int .i64 0) (.slice a1 0 c1) (.string ⟨#[]⟩) 32)
    have HE1 := Lib.hid (HE.out.below hb1')
    have HB1 := Lib.hid hb1'
    obtain ⟨x0, x1, x2⟩ := HX1.out.cells
    clear hb1 hb1' ho1 HP HE
    go_wp2_with fail
    refine (HSm.out _ _ HX1.out.holds).mono ?_
    rintro e w2 ⟨rfl, hb2⟩
    have HE2 := Lib.hid (HE1.out.below hb2)
    have HB2 := Lib.hid (bstep HB1.out hb2)
    clear hb2 x0 x1 x2 HE1 HB1 HX1
    go_wp2_with fail
    refine (awake26 _ HE2.out).mono ?_
    rintro e w3 ⟨rfl, hb3⟩
    go_wp2_with fail
    go_ret
    exact ⟨rfl, bstep HB2.out hb3⟩
  obtain ⟨r1, r2, r3, r4, r5, r6⟩ := rep_again s most he
  obtain ⟨c0, c1⟩ := tak_code s most he
  have hsm := takF_small s most
  have hfl := takF_len s most
  obtain ⟨C, hC⟩ : ∃ C, takC s most = C := ⟨_, rfl⟩
  obtain ⟨F, hF⟩ : ∃ F, takF s most = F := ⟨_, rfl⟩
  obtain ⟨Bl, hBl⟩ : ∃ Bl, takB s most = Bl := ⟨_, rfl⟩
  obtain ⟨N, hN⟩ : ∃ N : Nat, takN s most = (N : Int) := ⟨(takN s most).toNat, by omega⟩
  rw [hC, hF] at r1
  rw [hN] at r2 r3 r5 r6
  rw [hBl] at r4 r5 r6
  rw [Int.toNat_natCast] at r6
  rw [hC] at c0 c1
  rw [hF] at hsm hfl
  obtain ⟨bl, hbl⟩ : ∃ bl, Bl.length = bl := ⟨_, rfl⟩
  rw [hbl] at r4 r5 r6
  obtain ⟨B, hB⟩ : ∃ B, bs Bl = B := ⟨_, rfl⟩
  have hBd : B.data.toList = Bl := by rw [← hB, bs_data]
  have hBs : B.size = bl := by rw [← hB, bs_size, hbl]
  have hext : s.extract (N - bl) N = B := by rw [extract_bs, r6, hB]
  have HP := Lib.hid (fun w hE => parse_is s most C (N : Int) F B 0 ⟨he, hC, hF, by rw [hBl, hB], hN⟩ w (by omega) hE)
  have HPr : Hid (∀ (W : World) (fv : Value) (Q : Nat), EnvF W → W.ownsRow Q 51 2 fv F.length (fcells F) → Calls Tryz.prog 9 #[.agg #[.int .i64 C, fv, .string B]] W (RPost C F B.data.toList W)) := Lib.hid (fun W fv Q hW hO => reply_print C fv F B Q W hW (by omega) (by omega) hO (by omega) (fun f hf => by have := hsm f hf; omega) (by omega))
  unfold RPost at HPr
  rw [hBd] at HPr
  have HSm : Hid (∀ (W : World) (a b : Value), HoldsF W a F → HoldsF W b F → Calls Tryz.prog 12 #[.agg #[.int .i64 C, a, .string B], .agg #[.int .i64 C, b, .string B]] W fun e w' => e = .returned (.bool true) ∧ Below W.heap.size W w') := Lib.hid (fun W a b ha hb => by
    have := reply_same C C B B a b F F W ha hb (by omega) (by omega)
    rw [sameR_refl] at this
    exact this)
  have HAg : Hid (repE C F = 0 → ∀ w, EnvF w → Calls Tryz.prog 14 #[.string (bs (repL C F Bl)), .int .i64 most] w (ParseAt C ((repL C F Bl).length : Int) F B 0 w)) := Lib.hid (fun hz w hE => by
    have hxl : Bl.length ≤ 1000000 := by omega
    obtain ⟨l1, l2⟩ := repL_len C F Bl hz hxl
    obtain ⟨t1, t2, t3, t4, t5⟩ := rep_take C F Bl [] (bs (repL C F Bl)) most hz hxl (by rw [bs_data, List.append_nil]) (by omega)
    exact parse_is _ most C _ F B 0 ⟨t1, t2, t3, by rw [t4, hB], t5⟩ w (by rw [bs_size]; omega) hE)
  have HRS : Hid (repE C F = 0 → repS C F Bl = repL C F Bl) := Lib.hid (fun h => by unfold repS; rw [if_pos h])
  have HE := Lib.hid hE
  have g1 : decide ((N : Int) < 1) = false := decide_eq_false (by omega)
  have g2 : decide ((N : Int) > (s.size : Int)) = false := decide_eq_false (by omega)
  have g3 : decide ((B.size : Int) > most) = false := decide_eq_false (by omega)
  have g4 : decide ((B.size : Int) > (N : Int)) = false := decide_eq_false (by omega)
  have g5 : decide (s.size < N) = false := decide_eq_false (by omega)
  have g6 : decide (N < B.size) = false := decide_eq_false (by omega)
  have g7 : decide (most < (B.size : Int)) = false := decide_eq_false (by omega)
  have g8 : ¬ (s.size < N) := by omega
  have g9 : ¬ (N < B.size) := by omega
  have tw : IntKind.i64.wrap ((N : Int) - (B.size : Int)) = ((N - bl : Nat) : Int) := by rw [IntKind.wrap_i64, hBs]; omega
  have z1 : N - bl ≤ N := by omega
  have z2 : N ≤ s.size := by omega
  have z3 : ((N - bl : Nat) : Int) ≤ (N : Int) := by omega
  have z4 : (N : Int) ≤ (s.size : Int) := by omega
  have hne : (B.toList != B.toList) = false := by simp
  have hNp : 0 < N := by omega
  clear r2 r3 r4 r5 r6
  unfold ParseAt at HP
  obtain ⟨fl, hfe⟩ : ∃ fl, F.length = fl := ⟨_, rfl⟩
  rw [hfe] at HP hfl HPr
  have HFE := Lib.hid hfe
  obtain ⟨mm, hmm⟩ : ∃ mm, N - bl = mm := ⟨_, rfl⟩
  rw [hmm] at hext tw z1 z3
  clear he hC hF hBl hN hbl hB hBd hlong hE hsm hfe c0 c1 hmm hBs
  go_enter Tryz.func6, Tryz.ntmps6
  go_wp2_with fail
  refine (HP.out _ HE.out).mono ?_
  rintro e w1 ⟨a1, c1, rfl, ho1, hb1⟩
  have HX1 := Lib.hid (PAt.new (c := C) (x := B) ho1)
  have hb1' := bstep hb1 (below_agg3 w1 (.int .i64 C) (.slice a1 fl c1) (.string B) 32)
  have HE1 := Lib.hid (HE.out.below hb1')
  have HB1 := Lib.hid hb1'
  obtain ⟨x0, x1, x2⟩ := HX1.out.cells
  clear hb1 hb1' ho1 HP HE
  go_wp2_with fail
  generalize w1.alloc (.cells #[.int .i64 C, .slice a1 fl c1, .string B] 32) = W1 at HX1 HE1 HB1 x0 x1 x2 ⊢
  go_quiet (fail)
  have hbq : Below W1.heap.size W1 (W1.drewN nq) := ⟨rfl, rfl, rfl, Nat.le_refl _, fun _ _ => rfl⟩
  generalize W1.drewN nq = W2 at hbq ⊢
  have HX2 := Lib.hid (HX1.out.below hbq)
  have HE2 := Lib.hid (HE1.out.below hbq)
  have HB2 := Lib.hid (bstep HB1.out hbq)
  clear hbq x0 x1 x2 HX1 HE1 HB1 g1 g2 g3 g4 g5 g6 g7 g8 g9 tw hext hne
  obtain ⟨x0, x1, x2⟩ := HX2.out.cells
  obtain ⟨OB, hOB⟩ := HX2.out.own
  have HOB := Lib.hid hOB
  clear hOB
  by_cases hz : repE C F = 0
  case neg =>
    obtain ⟨E, hEE⟩ : ∃ E, repE C F = E := ⟨_, rfl⟩
    have h5 : E = 5 := by rcases r1 with h | h <;> omega
    subst h5
    rw [hEE] at HPr
    generalize bs (repS C F Bl) = S at HPr
    clear hz hEE r1
    go_wp2_with fail
    refine (HPr.out _ _ _ HE2.out HOB.out).mono ?_
    rintro e w3 ⟨rfl, hb3⟩
    have HE3 := Lib.hid (HE2.out.below hb3)
    have HB3 := Lib.hid (bstep HB2.out hb3)
    clear hb3 x0 x1 x2 HE2 HB2 HX2
    go_wp2_with fail
    refine (awake26 _ HE3.out).mono ?_
    rintro e w4 ⟨rfl, hb4⟩
    go_wp2_with fail
    go_ret
    exact ⟨rfl, bstep HB3.out hb4⟩
  have HAz := Lib.hid (HAg.out hz)
  rw [hz, HRS.out hz] at HPr
  generalize bs (repL C F Bl) = S at HPr HAz
  generalize (repL C F Bl).length = M at HAz
  unfold ParseAt at HAz
  rw [HFE.out] at HAz
  clear hz r1 HAg HRS
  go_wp2_with fail
  refine (HPr.out _ _ _ HE2.out HOB.out).mono ?_
  rintro e w3 ⟨rfl, hb3⟩
  have HE3 := Lib.hid (HE2.out.below hb3)
  have HB3 := Lib.hid (bstep HB2.out hb3)
  have HX3 := Lib.hid (HX2.out.below hb3)
  clear hb3 x0 x1 x2 HE2 HB2 HX2 HOB
  go_wp2_with fail
  refine (HAz.out _ HE3.out).mono ?_
  rintro e w4 ⟨a4, c4, rfl, ho4, hb4⟩
  have HY4 := Lib.hid (PAt.new (c := C) (x := B) ho4)
  have hb4' := bstep hb4 (below_agg3 w4 (.int .i64 C) (.slice a4 fl c4) (.string B) 32)
  have HE4 := Lib.hid (HE3.out.below hb4')
  have HB4 := Lib.hid (bstep HB3.out hb4')
  have HX4 := Lib.hid (HX3.out.below hb4')
  clear hb4 hb4' ho4 HE3 HB3 HX3 HAz
  obtain ⟨x0, x1, x2⟩ := HX4.out.cells
  obtain ⟨y0, y1, y2⟩ := HY4.out.cells
  go_wp2_with fail
  refine (HSm.out _ _ _ HY4.out.holds HX4.out.holds).mono ?_
  rintro e w5 ⟨rfl, hb5⟩
  have HE5 := Lib.hid (HE4.out.below hb5)
  have HB5 := Lib.hid (bstep HB4.out hb5)
  clear hb5 x0 x1 x2 y0 y1 y2 HE4 HB4 HX4 HY4
  go_wp2_with fail
  refine (awake26 _ HE5.out).mono ?_
  rintro e w6 ⟨rfl, hb6⟩
  go_wp2_with fail
  go_ret
  exact ⟨rfl, bstep HB5.out hb6⟩
end Go.Proofs.YtiljjkdpjbffbaaGreatDoor
namespace Go.Proofs.YtiljjkdpjbffbaaGreatDoor
open Go.RowKit

def FieldArg (W : World) (v : Value) (fs : List (List UInt8 × List UInt8)) : Prop := HoldsF W v fs ∧ (∀ f ∈ fs, f.1.length ≤ maxLen ∧ f.2.length ≤ maxLen) ∧ fs.length ≤ maxLen
theorem len_two {α : Type} {l : List α} (h : l.length = 2) : ∃ a b, l = [a, b] := by
  cases l with
  | nil => simp at h
  | cons a t => cases t with
    | nil => simp at h
    | cons b u => cases u with
      | nil => exact ⟨a, b, rfl⟩
      | cons c v => simp at h
theorem string_cell {H : Type} {enc : TypeId × Value → H} {W : World} {n : Nat} {cs : List Value} {x : DataW H × List MemPlace} (h : DataW.trod enc Tryz.prog W 0 (fun _ => true) true n 9 cs = some x) : ∃ l : List UInt8, cs = [.string (bs l)] ∧ l.length ≤ maxLen := by
  obtain ⟨s, hs, _, hm⟩ := DataW.trod_string Tryz.underlying9 h
  exact ⟨s.data.toList, by rw [hs, bs_self], by rw [size_len]; exact hm⟩
set_option maxRecDepth 10000 in
theorem fieldArg_of {H : Type} {enc : TypeId × Value → H} {W : World} {b : Option Addr} {n c : Nat} {d : DataW H} {p : List MemPlace}
    (h : DataW.Trod enc Tryz.prog W 0 (fun _ => true) true 22 (.slice b n c) d p) : ∃ fs, FieldArg W (.slice b n c) fs := by
  obtain ⟨fuel, hf⟩ := h
  rcases Go.Deep.open_slice Tryz.underlying22 hf with ⟨hcs, _⟩ | ⟨a, len, cap, m, q, D, Pl, hcs, _, hl, hm, hmm, _, hi⟩
  · simp [Value.cells] at hcs
    obtain ⟨rfl, rfl, rfl⟩ := hcs
    exact ⟨[], HoldsF.nil W none 0, fun f hf => by simp at hf, by unfold maxLen; simp⟩
  · simp [Value.cells] at hcs
    obtain ⟨rfl, rfl, rfl⟩ := hcs
    have hC : Tryz.prog.cellsOf 59 = 2 := by kernel_rfl
    have hS : Tryz.prog.cellsOf 9 = 1 := by kernel_rfl
    have key : ∀ i, ∃ f : List UInt8 × List UInt8, i < n → W.cell? (a.add (i * 2)) = some (.string (bs f.1)) ∧ W.cell? (a.add (i * 2 + 1)) = some (.string (bs f.2)) ∧ f.1.length ≤ maxLen ∧ f.2.length ≤ maxLen := by
      intro i
      by_cases hin : i < n
      · obtain ⟨cs', hc', ht⟩ := hi i (by rw [hmm]; simp; omega)
        rw [hC] at hc'
        obtain ⟨_, hcl, hcell⟩ := World.cells?_some hc'
        obtain ⟨xs, k, _, _, hcl2, hxl, hg⟩ := DataW.trod_struct Tryz.underlying59 ht
        obtain ⟨u0, u1, rfl⟩ := len_two hcl
        have hxl2 : xs.length = 2 := hxl
        obtain ⟨z0, z1, rfl⟩ := len_two hxl2
        have g0 : DataW.trod enc Tryz.prog W 0 (fun _ => true) true k 9 (([u0, u1].drop 0).take (Tryz.prog.cellsOf 9)) = some z0 := hg 0 _ rfl
        have g1 : DataW.trod enc Tryz.prog W 0 (fun _ => true) true k 9 (([u0, u1].drop 1).take (Tryz.prog.cellsOf 9)) = some z1 := hg 1 _ rfl
        rw [hS] at g0 g1
        obtain ⟨l0, e0, b0⟩ := string_cell g0
        obtain ⟨l1, e1, b1⟩ := string_cell g1
        have c0 := hcell 0 (by omega)
        have c1 := hcell 1 (by omega)
        rw [Go.Deep.add_add] at c0 c1
        simp at e0 e1 c0 c1
        subst e0 e1
        exact ⟨(l0, l1), fun _ => ⟨c0, c1, b0, b1⟩⟩
      · exact ⟨([], []), fun h => absurd h hin⟩
    obtain ⟨g, hg⟩ := Classical.skolem.1 key
    have hlen : ((List.range n).map g).length = n := by simp
    refine ⟨(List.range n).map g, ⟨some a, c, by rw [hlen], by rw [hlen]; exact hl, fun hne => ?_⟩, ?_, by rw [hlen]; omega⟩
    · have hpos : 0 < n := by
        rcases Nat.eq_zero_or_pos n with h0 | h0
        · subst h0; simp at hne
        · exact h0
      have h0 := (hg 0 hpos).1
      obtain ⟨b, o, sp⟩ := a
      have hsp : sp = none := by simpa [Addr.add] using World.cell?_spot h0
      subst hsp
      have ea : ∀ k, (⟨b, o, none⟩ : Addr).add k = ⟨b, o + k, none⟩ := fun k => by unfold Addr.add; split <;> simp_all
      refine ⟨b, o, rfl, by have := World.block_lt_of_cell? _ _ h0; simpa [Addr.add] using this, fun j hj => ?_⟩
      rw [hlen] at hj
      have hj2 := hg j hj
      rw [ea, ea] at hj2
      rw [List.getElem_map, List.getElem_range]
      exact ⟨hj2.1, hj2.2.1⟩
    · intro f hf
      obtain ⟨i, hi', rfl⟩ := List.mem_map.1 hf
      exact (hg i (List.mem_range.1 hi')).2.2
end Go.Proofs.YtiljjkdpjbffbaaGreatDoor
namespace Go.Proofs.YtiljjkdpjbffbaaGreatDoor
open Go.RowKit

def renU : Go.Shelf.Ren := ⟨fun n => n, fun | 5 => 5 | 119 => 175 | 138 => 177 | 139 => 178 | n => n, fun | 3 => 1 | 4 => 2 | n => n⟩
theorem u8t : U8Types Tryz.prog renU := ⟨Tryz.underlying5, Tryz.underlying175, Tryz.underlying177, Tryz.underlying178⟩
theorem u8x : U8Extra Tryz.prog renU := ⟨by kernel_rfl, by kernel_rfl, by kernel_rfl, by kernel_rfl, by kernel_rfl, by kernel_rfl, by kernel_rfl⟩
theorem accept_data : (Rows.laid_unicode_utf8_acceptRanges : DataW Unit) = Go.Lib.acceptData := by kernel_rfl
theorem pow10_data : (Rows.laid_internal_strconv_uint64pow10 : DataW Unit) = Go.Lib.tabData .u64 Go.Lib.pow10Tab := rfl
theorem maxLen_cell {W : World} (h : W.ShapedOpen Tryz.prog) : ∃ m, W.cell? ⟨5, 0, none⟩ = some (.int .i64 m) := Tryz.laysM145.s1_3 W h
theorem lt_of_cell {W : World} {g : Nat} {v : Value} (h : W.cell? ⟨g, 0, none⟩ = some v) : g < W.heap.size := World.block_lt_of_cell? _ _ h
theorem err_star : "*" ++ "errors.errorString" = "*errors.errorString" := by decide
theorem err_row (u : TypeId) (h : Tryz.prog.typeName? 3 u = some "*errors.errorString") : u = 189 :=
  typeName_ptr_named (nm := "errors.errorString") (by rw [err_star]; kernel_rfl) (by kernel_rfl) (by decide) u (by rw [err_star]; exact h)
theorem env_of {W : World} {rest : List (String × DataW Unit)} (h : laidMet Tryz.prog (("math/bits.deBruijn32tab", Rows.laid_math_bits_deBruijn32tab) :: ("math/bits.deBruijn64tab", Rows.laid_math_bits_deBruijn64tab) :: ("internal/strconv.uint64pow10", Rows.laid_internal_strconv_uint64pow10) :: ("unicode/utf8.acceptRanges", Rows.laid_unicode_utf8_acceptRanges) :: ("strconv.ErrRange", Rows.laid_strconv_ErrRange) :: rest) W)
    (hf : ("unicode/utf8.first", Rows.laid_unicode_utf8_first) ∈ rest) (hsh : W.ShapedOpen Tryz.prog) : EnvF W := by
  have ht : Go.Lib.TabIs Tryz.prog W "internal/strconv.uint64pow10" .u64 Go.Lib.pow10Tab :=
    Go.Lib.tabIs_of_head (n := 20) (t := 169) (e := 151) g_pow10 (by kernel_rfl) (by kernel_rfl) (by kernel_rfl) (by kernel_rfl) (by kernel_rfl) h.tail.tail
  have h3 : Go.Lib.VarReads Tryz.prog W "unicode/utf8.first" Go.Lib.firstData := by
    have := Go.Lib.laidMet.reads h (n := "unicode/utf8.first") (d := Rows.laid_unicode_utf8_first) (by simp [hf])
    rwa [show (Rows.laid_unicode_utf8_first : DataW Unit) = Go.Lib.firstData from Pinned.utf8First_eq] at this
  have h4 : Go.Lib.VarReads Tryz.prog W "unicode/utf8.acceptRanges" Go.Lib.acceptData := by
    have := Go.Lib.laidMet.reads h (n := "unicode/utf8.acceptRanges") (d := Rows.laid_unicode_utf8_acceptRanges) (by simp)
    rwa [accept_data] at this
  obtain ⟨a0, s0, hv0, _, _, _⟩ := laid_sentinel h.tail.tail.tail.tail (g := 4) (ti := 66) (tp := 189) (te := 191) (ts := 9) (by kernel_rfl) (by kernel_rfl) Tryz.underlying66 err_row Tryz.underlying189 Tryz.underlying191 rfl rfl Tryz.underlying9 (by kernel_rfl) (by kernel_rfl)
  obtain ⟨m, hm⟩ := maxLen_cell hsh
  have hr : W.cell? ⟨4, 0, none⟩ = some (.iface 189 (.pointer (some a0))) := World.var?_cell (show Tryz.prog.globalNamed "strconv.ErrRange" = some 4 by kernel_rfl) hv0 0
  refine ⟨⟨m, hm⟩, lt_of_cell hm, utf8Tabs_of_readsT u8t u8x h3 h4, ht, ?_, ⟨_, _, hr⟩, lt_of_cell hr⟩
  rcases Nat.lt_or_ge 0 W.heap.size with hlt | hge
  · exact hlt
  · unfold Go.Lib.TabIs World.var? at ht
    rw [g_pow10] at ht
    simp [Array.getElem?_eq_none hge] at ht
end Go.Proofs.YtiljjkdpjbffbaaGreatDoor
namespace Go.Proofs.YtiljjkdpjbffbaaGreatDoor
open Go.RowKit
section
variable {H : Type} {enc : TypeId × Value → H} {W : World}
theorem rint_at {fuel : Nat} {c : Value} {x : DataW H × List MemPlace} (h : DataW.trod enc Tryz.prog W 0 (fun _ => true) true fuel 3 [c] = some x) : ∃ n : Int, c = .int .i64 n ∧ (Lit.int .i64 n).wf = true := by
  obtain ⟨n, h1, h2, h3⟩ := DataW.trod_int Tryz.underlying3 h
  exact ⟨n, (List.cons.inj h1).1, h3⟩
theorem rstr_at {fuel : Nat} {c : Value} {x : DataW H × List MemPlace} (h : DataW.trod enc Tryz.prog W 0 (fun _ => true) true fuel 9 [c] = some x) : ∃ s : ByteArray, c = .string s ∧ s.size ≤ maxLen := by
  obtain ⟨n, h1, h2, h3⟩ := DataW.trod_string Tryz.underlying9 h
  exact ⟨n, (List.cons.inj h1).1, h3⟩
theorem rslice_at {fuel : Nat} {c : Value} {x : DataW H × List MemPlace} (h : DataW.trod enc Tryz.prog W 0 (fun _ => true) true fuel 22 [c] = some x) : ∃ b n cp fs, c = .slice b n cp ∧ FieldArg W (.slice b n cp) fs := by
  obtain ⟨b, n, cp, rfl⟩ : ∃ b n cp, c = .slice b n cp := by
    rcases Go.Deep.open_slice Tryz.underlying22 h with ⟨hcs, _⟩ | ⟨a, len, cap, m, q, D, Pl, hcs, _⟩
    · exact ⟨_, _, _, (List.cons.inj hcs).1⟩
    · exact ⟨_, _, _, (List.cons.inj hcs).1⟩
  obtain ⟨d, p⟩ := x
  obtain ⟨fs, hf⟩ := fieldArg_of (b := b) (n := n) (c := cp) (d := d) (p := p) ⟨fuel, by simpa [Value.cells] using h⟩
  exact ⟨b, n, cp, fs, rfl, hf⟩
def RepArg (W : World) (c : Int) (b : Option Addr) (n cp : Nat) (fs : List (List UInt8 × List UInt8)) (x : ByteArray) : Prop := (Lit.int .i64 c).wf = true ∧ FieldArg W (.slice b n cp) fs ∧ x.size ≤ maxLen
set_option maxRecDepth 100000 in
theorem rep_open {r : Reach} {b0 : Nat} {v : Value} {d : DataW H} {p : List MemPlace} (hv : Value.okWide Tryz.prog W r b0 24 v) (h : DataW.Trod enc Tryz.prog W 0 (fun _ => true) true 24 v d p) :
    ∃ (c : Int) (b : Option Addr) (n cp : Nat) (fs : List (List UInt8 × List UInt8)) (x : ByteArray), v = .agg #[.int .i64 c, .slice b n cp, .string x] ∧ RepArg W c b n cp fs x := by
  obtain ⟨cs, rfl, hsz⟩ := Go.WideShapes.okWide_struct Tryz.underlying24 hv
  obtain ⟨c0, c1, c2, rfl⟩ := Go.Joins.array3 (hsz.trans (show Tryz.prog.cellsOf 24 = 3 by kernel_rfl))
  obtain ⟨fuel, hf⟩ := h
  obtain ⟨y0, y1, y2, n, hx, hl, h0, h1, h2⟩ := Go.Deep.trod_struct3 Tryz.underlying24 hf
  rw [show Tryz.prog.cellsOf 3 = 1 by kernel_rfl] at h0
  rw [show Tryz.prog.cellsOf 22 = 1 by kernel_rfl] at h1
  rw [show Tryz.prog.cellsOf 9 = 1 by kernel_rfl] at h2
  obtain ⟨a0, rfl, k0⟩ := rint_at (by simpa [Value.cells] using h0)
  obtain ⟨b, m, cp, fs, rfl, k1⟩ := rslice_at (by simpa [Value.cells] using h1)
  obtain ⟨a2, rfl, k2⟩ := rstr_at (by simpa [Value.cells] using h2)
  exact ⟨a0, b, m, cp, fs, a2, rfl, k0, k1, k2⟩
end
theorem replyLays_go (c : Int) (b : Option Addr) (n cp : Nat) (fs : List (List UInt8 × List UInt8)) (x : ByteArray) (c2 : Int) (b2 : Option Addr) (n2 cp2 : Nat) (fs2 : List (List UInt8 × List UInt8)) (x2 : ByteArray) (W : World) (k : RepArg W c b n cp fs x) (k2 : RepArg W c2 b2 n2 cp2 fs2 x2) (hL : laidMetH Tryz.prog Rows.replyLaysRow.laid W) (hsh : W.ShapedOpen Tryz.prog) :
    Calls Tryz.prog 3 #[.agg #[.int .i64 c, .slice b n cp, .string x], .agg #[.int .i64 c2, .slice b2 n2 cp2, .string x2]] W fun e W' => e = .returned (.bool true) ∧ Below W.heap.size W W' := by
  rw [MakeChecks.laidMetH_plain _ _ _ (by kernel_rfl)] at hL
  obtain ⟨q1, q2, q3⟩ := k
  obtain ⟨r1, r2, r3⟩ := k2
  obtain ⟨b1, b2⟩ := bounds_i64 q1
  have l1 := q2.2.2
  have l2 := r2.2.2
  unfold maxLen at l1 l2
  exact replyLays_walk c c2 _ _ fs fs2 x x2 W (env_of hL (by simp) hsh) q2.1 r2.1 (by omega) (by omega) (by omega) (by omega)
theorem replyTakes_go (s : ByteArray) (most : Int) (ks : s.size ≤ maxLen) (km : (Lit.int .i64 most).wf = true) (W : World) (hL : laidMetH Tryz.prog Rows.replyTakesRow.laid W) (hsh : W.ShapedOpen Tryz.prog) :
    Calls Tryz.prog 4 #[.string s, .int .i64 most] W fun e W' => e = .returned (.bool true) ∧ Below W.heap.size W W' := by
  rw [MakeChecks.laidMetH_plain _ _ _ (by kernel_rfl)] at hL
  unfold maxLen at ks
  exact replyTakes_walk s most W (env_of hL (by simp) hsh) (by omega)
theorem replyAgain_go (s : ByteArray) (most : Int) (ks : s.size ≤ maxLen) (km : (Lit.int .i64 most).wf = true) (W : World) (hL : laidMetH Tryz.prog Rows.replyAgainRow.laid W) (hsh : W.ShapedOpen Tryz.prog) :
    Calls Tryz.prog 6 #[.string s, .int .i64 most] W fun e W' => e = .returned (.bool true) ∧ Below W.heap.size W W' := by
  rw [MakeChecks.laidMetH_plain _ _ _ (by kernel_rfl)] at hL
  obtain ⟨b1, b2⟩ := bounds_i64 km
  unfold maxLen at ks
  exact replyAgain_walk s most W (env_of hL (by simp) hsh) (by omega) (by omega)
theorem replyBack_go (c : Int) (b : Option Addr) (n cp : Nat) (fs : List (List UInt8 × List UInt8)) (x : ByteArray) (beh : ByteArray) (ct : Int) (W : World) (k : RepArg W c b n cp fs x) (ks : beh.size ≤ maxLen) (kc : (Lit.int .u16 ct).wf = true) (hL : laidMetH Tryz.prog Rows.replyBackRow.laid W) (hsh : W.ShapedOpen Tryz.prog) :
    Calls Tryz.prog 5 #[.agg #[.int .i64 c, .slice b n cp, .string x], .string beh, .int .u16 ct] W fun e W' => e = .returned (.bool true) ∧ Below W.heap.size W W' := by
  rw [MakeChecks.laidMetH_plain _ _ _ (by kernel_rfl)] at hL
  obtain ⟨q1, q2, q3⟩ := k
  obtain ⟨b1, b2⟩ := bounds_i64 q1
  have hc := bounds_u16 kc
  obtain ⟨m, rfl⟩ : ∃ m : Nat, ct = (m : Int) := ⟨ct.toNat, by omega⟩
  have l1 := q2.2.2
  unfold maxLen at l1 ks
  exact replyBack_walk c _ fs x beh m (by omega) W (env_of hL (by simp) hsh) q2.1 (by omega) (by omega) (by omega) (by omega)
end Go.Proofs.YtiljjkdpjbffbaaGreatDoor
