/- The law function ReplyLays. The law function ReplyTakes. The law function ReplyBack. What FaultKeeps asks, in bytes; a text cut at its ends of lines. The law FaultKeeps. The law FaultBody. The law function ReplyAgain. An argument of type gazetteerref26.Reply, opened; the law functions of layer 26, as the rows' proofs take them. The law function FaultKeeps, as the row's proof takes it. The law function FaultBody, as the row's proof takes it. -/
import Derived.Test.YtgnkmfjleecmfaaGreatDoorPf11
import Derived.WalkSmall
import Derived.BigQuiet
import Derived.Deep.Strs
import Derived.ChangeSame
import Derived.ChangeArms
import Derived.WideShapes
set_option linter.unusedVariables false
namespace Go.Proofs.YtgnkmfjleecmfaaGreatDoor
open Go.RowKit
theorem overR_false (fs : List (List UInt8 × List UInt8)) (b : ByteArray) (h : overR fs b = false) : fs.length ≤ 20 ∧ (∀ f ∈ fs, f.1.length ≤ 400 ∧ f.2.length ≤ 400) ∧ b.size ≤ 500 := by
  unfold overR overF at h
  simp only [Bool.or_eq_false_iff, decide_eq_false_iff_not, List.any_eq_false] at h
  obtain ⟨⟨h1, h2⟩, h3⟩ := h
  refine ⟨by omega, fun f hf => ?_, by omega⟩
  have := h1 f hf
  unfold longF at this
  simp only [Bool.or_eq_true, decide_eq_true_eq, not_or] at this
  omega
/-- a reply of the document's that lies in a block -/
structure QAt (w : World) (b : Nat) (c : Int) (v : Value) (fs : List (List UInt8 × List UInt8)) (x : ByteArray) : Prop where
  blk : w.heap[b]? = some (.cells #[.int .i64 c, v, .string x] 35 (0, 0))
  hold : HoldsF w v fs
theorem QAt.lt {w : World} {b : Nat} {c : Int} {v : Value} {fs : List (List UInt8 × List UInt8)} {x : ByteArray} (h : QAt w b c v fs x) : b < w.heap.size := (Array.getElem?_eq_some_iff.1 h.blk).1
theorem QAt.below {w w' : World} {b : Nat} {c : Int} {v : Value} {fs : List (List UInt8 × List UInt8)} {x : ByteArray} (h : QAt w b c v fs x) (hb : Below w.heap.size w w') : QAt w' b c v fs x :=
  ⟨(hb.block b h.lt).trans h.blk, h.hold.below hb⟩
theorem QAt.new {w : World} {c : Int} {v : Value} {fs : List (List UInt8 × List UInt8)} {x : ByteArray} (h : HoldsF w v fs) :
    QAt (w.alloc (.cells #[.int .i64 c, v, .string x] 35)) w.heap.size c v fs x :=
  ⟨heap_alloc_new w _, h.below ((Below.refl _ _).alloc (Nat.le_refl _) _)⟩
theorem QAt.alloc {w : World} {b : Nat} {c : Int} {v : Value} {fs : List (List UInt8 × List UInt8)} {x : ByteArray} (h : QAt w b c v fs x) (o : Obj) : QAt (w.alloc o) b c v fs x := h.below ((Below.refl _ _).alloc (Nat.le_refl _) o)
theorem QAt.cells {w : World} {b : Nat} {c : Int} {v : Value} {fs : List (List UInt8 × List UInt8)} {x : ByteArray} (h : QAt w b c v fs x) : w.cell? ⟨b, 0, none⟩ = some (.int .i64 c) ∧ w.cell? ⟨b, 1, none⟩ = some v ∧ w.cell? ⟨b, 2, none⟩ = some (.string x) :=
  let ⟨h0, h1, h2, _⟩ := three_facts h.blk; ⟨h0, h1, h2⟩
end Go.Proofs.YtgnkmfjleecmfaaGreatDoor
namespace Go.Proofs.YtgnkmfjleecmfaaGreatDoor
open Go.RowKit
def RParseAt (C n : Int) (F : List (List UInt8 × List UInt8)) (B : ByteArray) (E : Nat) (w : World) (e : Ending) (w' : World) : Prop :=
  ∃ a cp, e = .returned (.tuple #[.agg #[.int .i64 C, .slice a F.length cp, .string B], .int .i64 n, .int .i64 (E : Nat)]) ∧ HoldsF w' (.slice a F.length cp) F ∧ Below w.heap.size w w'
theorem takF_len (s : ByteArray) (most : Int) : (takF s most).length ≤ 17 := by
  unfold takF
  split
  · refine Nat.le_trans (restF_len _) ?_
    unfold fldL
    rw [List.length_map, List.length_tail]
    have := (headOf_bound s).2
    omega
  · exact Nat.zero_le _
theorem PAt.cells {w : World} {b : Nat} {c : Int} {a : Option Addr} {n cp : Nat} {fs : List (List UInt8 × List UInt8)} {x : ByteArray} (h : PAt w b c a n cp fs x) : w.cell? ⟨b, 0, none⟩ = some (.int .i64 c) ∧ w.cell? ⟨b, 1, none⟩ = some (.slice a n cp) ∧ w.cell? ⟨b, 2, none⟩ = some (.string x) :=
  let ⟨h0, h1, h2, _⟩ := three_facts h.blk; ⟨h0, h1, h2⟩
theorem sameR_refl (c : Int) (x : List UInt8) (fs : List (List UInt8 × List UInt8)) : sameR c c x x fs fs = true := by unfold sameR; simp
end Go.Proofs.YtgnkmfjleecmfaaGreatDoor
namespace Go.Proofs.YtgnkmfjleecmfaaGreatDoor
open Go.RowKit
theorem body_len (ls : List (List UInt8)) (h : ∀ x ∈ ls, x.length ≤ 256) : (body ls).length ≤ ls.length * 258 := by
  induction ls with
  | nil => exact Nat.le_refl _
  | cons x t ih =>
    have h1 := h x (List.mem_cons_self ..)
    have h2 := ih (fun y hy => h y (List.mem_cons_of_mem _ hy))
    show (x ++ 13 :: 10 :: body t).length ≤ (t.length + 1) * 258
    rw [List.length_append, List.length_cons, List.length_cons]; omega
theorem repL_len (c : Int) (fs : List (List UInt8 × List UInt8)) (b : List UInt8) (h : repE c fs = 0) (hn : b.length ≤ 1000000) : (repL c fs b).length ≤ 4400 + b.length ∧ 2 ≤ (repL c fs b).length := by
  obtain ⟨g1, g2⟩ := good_lines c fs b.length h hn
  have := body_len (repLines c fs b.length) (fun x hx => (g1 x hx).2.2)
  unfold repL
  rw [List.length_append, List.length_cons, List.length_cons]; omega
theorem isEmpty_false (S : ByteArray) (h : 0 < S.size) : (S.toList == []) = false := by
  rw [beq_eq_false_iff_ne]
  intro e
  have : S.toList.length = 0 := by rw [e]; rfl
  rw [ByteArray.toList_eq, size_len] at this
  omega
end Go.Proofs.YtgnkmfjleecmfaaGreatDoor
namespace Go.Proofs.YtgnkmfjleecmfaaGreatDoor
open Go.RowKit
open Go.Lib in
theorem splitB_crlf (s : ByteArray) : (splitB ⟨#[13, 10]⟩ 0 (countB s ⟨#[13, 10]⟩) s).map Value.string = strs (split s.data.toList [13, 10]) := by
  have h := splitB_data ⟨#[13, 10]⟩ 0 (countB s ⟨#[13, 10]⟩) s
  have h2 : splitK (⟨#[13, 10]⟩ : ByteArray).data.toList 0 (countB s ⟨#[13, 10]⟩) s.data.toList = split s.data.toList [13, 10] := rfl
  rw [h2] at h
  unfold strs
  rw [← h, List.map_map]
  apply List.map_congr_left
  intro x _
  simp only [Function.comp_apply, bs_self]
open Go.Lib in
theorem countB_crlf (s : ByteArray) : countB s ⟨#[13, 10]⟩ + 1 = (split s.data.toList [13, 10]).length := by
  have h := splitB_all ⟨#[13, 10]⟩ (by decide) 0 _ s rfl
  have h2 := congrArg List.length (splitB_crlf s)
  rw [strs_length, List.length_map] at h2
  omega
theorem split_any (S : ByteArray) (w : World) (hs : S.size ≤ 1000000) (hE : EnvW w) :
    Calls Tryz.prog 19 #[.string S, .string ⟨#[13, 10]⟩] w fun e w' => ∃ a c, e = .returned (.slice a (Lib.split S.data.toList [13, 10]).length c) ∧ HoldsS w' (.slice a (Lib.split S.data.toList [13, 10]).length c) (Lib.split S.data.toList [13, 10]) ∧ Below w.heap.size w w' := by
  obtain ⟨m, hm⟩ := hE.m
  refine (Tryz.strings_Split S ⟨#[13, 10]⟩ m w (by omega) hm (by decide)).mono ?_
  rintro e w' ⟨rfl, rfl⟩
  rw [countB_crlf]
  exact ⟨_, _, rfl, HoldsS.of_block (block_alloc w _) (splitB_crlf S) rfl, (Below.refl _ _).alloc (Nat.le_refl _) _⟩
theorem drop_take {α : Type} (a b : List α) (n : Nat) (h : n = a.length) : (a ++ b).drop n = b := by subst h; exact List.drop_left
theorem keeps_bytes (c : Int) (fs : List (List UInt8 × List UInt8)) (x S T : ByteArray) (k n : Int) (t : List UInt8) (h : repE c fs = 0) (hx : x.size ≤ 1000000) (hS : S.data.toList = repL c fs x.data.toList) (hT : T.data.toList = applyF k n t S) (h1 : k ≠ 1) (h2 : k ≠ 2) :
    ∃ (A A' : Nat), S.size = A + 2 + x.size ∧ T.size = A' + 2 + x.size ∧ Lib.hasSuffix T.data.toList (S.extract A S.size).data.toList = true ∧ Lib.countB T ⟨#[13, 10]⟩ = Lib.countB S ⟨#[13, 10]⟩ ∧
      (Lib.split (T.extract 0 (A' + 2)).data.toList [13, 10]).length = (Lib.split (S.extract 0 (A + 2)).data.toList [13, 10]).length ∧ (Lib.split (S.extract 0 (A + 2)).data.toList [13, 10]).length ≤ 19 ∧
      nd (Lib.split (S.extract 0 (A + 2)).data.toList [13, 10]) (Lib.split (T.extract 0 (A' + 2)).data.toList [13, 10]) ≤ 1 ∧
      harmF k n t S = decide (nd (Lib.split (S.extract 0 (A + 2)).data.toList [13, 10]) (Lib.split (T.extract 0 (A' + 2)).data.toList [13, 10]) = 1) := by
  obtain ⟨ls, ls', e1, e2, e3, e4, e5, e6, e7, e8, e9, e10⟩ := keeps_rep c fs x.data.toList S k n t h (by rw [size_len]; exact hx) hS h1 h2
  rw [← hT] at e4
  rw [← hS] at e3
  have f3 : S.data.toList = (body (ls.take (ls.length - 2)) ++ [13, 10]) ++ x.data.toList := by rw [e3]; simp
  have f4 : T.data.toList = (body (ls'.take (ls.length - 2)) ++ [13, 10]) ++ x.data.toList := by rw [e4]; simp
  have g1 : S.extract 0 ((body (ls.take (ls.length - 2))).length + 2) = bs (body (ls.take (ls.length - 2)) ++ [13, 10]) := by
    rw [extract_bs, List.drop_zero, f3, show (body (ls.take (ls.length - 2))).length + 2 = (body (ls.take (ls.length - 2)) ++ [13, 10]).length by simp, List.take_left]
  have g2 : T.extract 0 ((body (ls'.take (ls.length - 2))).length + 2) = bs (body (ls'.take (ls.length - 2)) ++ [13, 10]) := by
    rw [extract_bs, List.drop_zero, f4, show (body (ls'.take (ls.length - 2))).length + 2 = (body (ls'.take (ls.length - 2)) ++ [13, 10]).length by simp, List.take_left]
  refine ⟨(body (ls.take (ls.length - 2))).length, (body (ls'.take (ls.length - 2))).length, ?_, ?_, ?_, ?_, ?_, ?_, ?_, ?_⟩
  · rw [← size_len S, ← size_len x, f3]; simp; omega
  · rw [← size_len T, ← size_len x, f4]; simp; omega
  · have e8 : (S.extract (body (ls.take (ls.length - 2))).length S.size).data.toList = 13 :: 10 :: x.data.toList := by
      rw [extract_bs, bs_data, List.take_of_length_le (l := S.data.toList) (by rw [size_len]; exact Nat.le_refl _), e3]
      exact List.drop_left
    rw [e8, e4]
    unfold Lib.hasSuffix
    exact List.isSuffixOf_iff_suffix.2 (List.suffix_append _ _)
  · show Lib.count T.data.toList [13, 10] = Lib.count S.data.toList [13, 10]
    rw [hT]; exact e6.symm
  · rw [g1, g2, bs_data, bs_data, e7, e8]; exact e1
  · rw [g1, bs_data, e7]; exact e2
  · rw [g1, g2, bs_data, bs_data, e7, e8]; exact e9
  · rw [g1, g2, bs_data, bs_data, e7, e8]
    unfold harmF
    exact decide_eq_decide.2 e10.symm
theorem putF_len (s : ByteArray) (k : Nat) (x : List UInt8) : (putF s k x).length ≤ s.size + x.length := by
  unfold putF
  rw [List.length_append, List.length_append, List.length_take, List.length_drop, size_len]
  omega
theorem applyF_len (k n : Int) (t : List UInt8) (s : ByteArray) : (applyF k n t s).length ≤ s.size + t.length + 200 := by
  have hc := cleanL_len t
  have hp : (printOf n).data.toList.length ≤ 100 := by rw [size_len]; exact printOf_size n
  have hs : s.data.toList.length = s.size := size_len s
  unfold applyF
  by_cases k1 : k = 1
  · rw [if_pos k1]; simp
  rw [if_neg k1]
  by_cases k2 : k = 2
  · rw [if_pos k2, List.length_take]; omega
  rw [if_neg k2]
  by_cases hb : (headOf s).2.2 ≠ 0 ∨ (headOf s).1 = []
  · rw [if_pos hb]; omega
  rw [if_neg hb]
  by_cases k3 : k = 3
  · rw [if_pos k3]
    by_cases hp2 : printErr n ≠ 0
    · rw [if_pos hp2]; omega
    · rw [if_neg hp2]; have := putF_len s 0 (printOf n).data.toList; omega
  rw [if_neg k3]
  by_cases k5 : k = 5
  · rw [if_pos k5]
    by_cases hl : (headOf s).1.length < 2
    · rw [if_pos hl]; omega
    · rw [if_neg hl]; have := putF_len s 1 (cleanL t); omega
  rw [if_neg k5]
  by_cases k4 : k = 4
  · rw [if_pos k4]
    cases placeF crangeN (headOf s).1 0 with
    | none => simp only; omega
    | some i =>
      have := putF_len s i (crangeF ++ cleanL t)
      rw [List.length_append, show crangeF.length = 15 from rfl] at this
      simp only
      omega
  rw [if_neg k4]; omega
theorem nd_le (a : List (List UInt8)) : ∀ b, nd a b ≤ a.length := by
  induction a with
  | nil => intro b; simp [nd]
  | cons x t ih =>
    intro b
    cases b with
    | nil => simp [nd]
    | cons y u =>
      have := ih u
      simp only [nd, List.length_cons]
      split <;> omega
end Go.Proofs.YtgnkmfjleecmfaaGreatDoor
namespace Go.Proofs.YtgnkmfjleecmfaaGreatDoor
open Go.RowKit
/-- a fault of the document's in a block -/
def FAt28 (w : World) (b : Nat) (k n : Int) (t : ByteArray) : Prop := w.heap[b]? = some (.cells #[.int .u8 k, .int .i64 n, .string t] 23 (0, 0))
theorem FAt28.lt {w : World} {b : Nat} {k n : Int} {t : ByteArray} (h : FAt28 w b k n t) : b < w.heap.size := (Array.getElem?_eq_some_iff.1 h).1
theorem FAt28.below {w w' : World} {b : Nat} {k n : Int} {t : ByteArray} (h : FAt28 w b k n t) (hb : Below w.heap.size w w') : FAt28 w' b k n t := (hb.block b h.lt).trans h
theorem FAt28.new (w : World) (k n : Int) (t : ByteArray) : FAt28 (w.alloc (.cells #[.int .u8 k, .int .i64 n, .string t] 23)) w.heap.size k n t := heap_alloc_new w _
theorem FAt28.cells {w : World} {b : Nat} {k n : Int} {t : ByteArray} (h : FAt28 w b k n t) : w.cell? ⟨b, 0, none⟩ = some (.int .u8 k) ∧ w.cell? ⟨b, 1, none⟩ = some (.int .i64 n) ∧ w.cell? ⟨b, 2, none⟩ = some (.string t) :=
  let ⟨a, b, c, _⟩ := three_facts h; ⟨a, b, c⟩
/-- both arguments lie where the function boxed them -/
structure KS (w0 w : World) (k n : Int) (t : ByteArray) (c : Int) (v : Value) (fs : List (List UInt8 × List UInt8)) (x : ByteArray) (X Y : Nat) : Prop where
  bel : Below w0.heap.size w0 w
  flt : FAt28 w X k n t
  rep : QAt w Y c v fs x
theorem KS.step {w0 w w' : World} {k n : Int} {t : ByteArray} {c : Int} {v : Value} {fs : List (List UInt8 × List UInt8)} {x : ByteArray} {X Y : Nat} (h : KS w0 w k n t c v fs x X Y) (hb : Below w.heap.size w w') : KS w0 w' k n t c v fs x X Y := ⟨bstep h.bel hb, h.flt.below hb, h.rep.below hb⟩
theorem KS.start {w : World} {k n : Int} {t : ByteArray} {c : Int} {v : Value} {fs : List (List UInt8 × List UInt8)} {x : ByteArray} (hv : HoldsF w v fs) :
    KS w ((w.alloc (.cells #[.int .u8 k, .int .i64 n, .string t] 23)).alloc (.cells #[.int .i64 c, v, .string x] 35)) k n t c v fs x w.heap.size (w.heap.size + 1) := by
  have b1 : Below w.heap.size w (w.alloc (.cells #[.int .u8 k, .int .i64 n, .string t] 23)) := (Below.refl _ _).alloc (Nat.le_refl _) _
  have b2 : Below (w.alloc (.cells #[.int .u8 k, .int .i64 n, .string t] 23)).heap.size (w.alloc (.cells #[.int .u8 k, .int .i64 n, .string t] 23)) ((w.alloc (.cells #[.int .u8 k, .int .i64 n, .string t] 23)).alloc (.cells #[.int .i64 c, v, .string x] 35)) := (Below.refl _ _).alloc (Nat.le_refl _) _
  refine ⟨bstep b1 b2, (FAt28.new w k n t).below b2, ?_⟩
  have := QAt.new (c := c) (x := x) (hv.below b1)
  simpa using this
theorem KS.cells {w0 w : World} {k n : Int} {t : ByteArray} {c : Int} {v : Value} {fs : List (List UInt8 × List UInt8)} {x : ByteArray} {X Y : Nat} (h : KS w0 w k n t c v fs x X Y) : w.cell? ⟨X, 0, none⟩ = some (.int .u8 k) ∧ w.cell? ⟨X, 1, none⟩ = some (.int .i64 n) ∧ w.cell? ⟨X, 2, none⟩ = some (.string t) ∧ w.cell? ⟨Y, 0, none⟩ = some (.int .i64 c) ∧ w.cell? ⟨Y, 1, none⟩ = some v ∧ w.cell? ⟨Y, 2, none⟩ = some (.string x) :=
  let ⟨a, b, c⟩ := h.flt.cells
  let ⟨d, e, f⟩ := h.rep.cells
  ⟨a, b, c, d, e, f⟩
set_option maxRecDepth 100000 in
set_option maxHeartbeats 4000000 in
theorem keeps_long (k n : Int) (t : ByteArray) (c : Int) (v : Value) (fs : List (List UInt8 × List UInt8)) (x : ByteArray) (w : World) (hE : EnvW w) (hv : HoldsF w v fs) (ht : (300 : Int) < (t.size : Int)) :
    Calls Tryz.prog 4 #[.agg #[.int .u8 k, .int .i64 n, .string t], .agg #[.int .i64 c, v, .string x]] w fun e w' => e = .returned (.bool true) ∧ Below w.heap.size w w' := by
  have HK := Lib.hid (KS.start (k := k) (n := n) (t := t) (c := c) (x := x) hv)
  have HE := Lib.hid (hE.below HK.out.bel)
  have HSZ : Hid (((w.alloc (.cells #[.int .u8 k, .int .i64 n, .string t] 23)).alloc (.cells #[.int .i64 c, v, .string x] 35)).heap.size = w.heap.size + 1 + 1) := Lib.hid (by simp)
  clear hE hv
  obtain ⟨f0, f1, f2⟩ := HK.out.flt.cells
  go_enter Tryz.func4, Tryz.ntmps4
  go_wp2_with fail
  generalize (w.alloc (.cells #[.int .u8 k, .int .i64 n, .string t] 23)).alloc (.cells #[.int .i64 c, v, .string x] 35) = W0 at HK HE HSZ f0 f1 f2 ⊢
  generalize w.heap.size + 1 = Y at HK HSZ ⊢
  generalize w.heap.size = X at HK f0 f1 f2 ⊢
  refine (over28 _ k n t _ (by have := heap_alloc_new W0 (.cells #[.int .u8 k, .int .i64 n, .string t] 23); rw [HSZ.out] at this; exact this)).mono ?_
  rintro e w1 ⟨rfl, rfl⟩
  rw [show decide ((300 : Int) < (t.size : Int)) = true from decide_eq_true (by omega)]
  have HB1 := Lib.hid ((Below.refl W0.heap.size W0).alloc (Nat.le_refl _) (.cells #[.int .u8 k, .int .i64 n, .string t] 23))
  have HE1 := Lib.hid (HE.out.below HB1.out)
  clear f0 f1 f2
  go_wp2_with fail
  refine (awake28 _ HE1.out).mono ?_
  rintro e w2 ⟨rfl, hb2⟩
  go_wp2_with fail
  go_ret
  exact ⟨rfl, bstep (bstep HK.out.bel HB1.out) hb2⟩
set_option maxRecDepth 100000 in
set_option maxHeartbeats 4000000 in
theorem keeps_over (k n : Int) (t : ByteArray) (c : Int) (v : Value) (fs : List (List UInt8 × List UInt8)) (x : ByteArray) (w : World) (hE : EnvW w) (hv : HoldsF w v fs) (ht : ¬ ((300 : Int) < (t.size : Int))) (hfl : fs.length ≤ 9223372036854775807) (hov : overR fs x = true) :
    Calls Tryz.prog 4 #[.agg #[.int .u8 k, .int .i64 n, .string t], .agg #[.int .i64 c, v, .string x]] w fun e w' => e = .returned (.bool true) ∧ Below w.heap.size w w' := by
  have HK := Lib.hid (KS.start (k := k) (n := n) (t := t) (c := c) (x := x) hv)
  have HE := Lib.hid (hE.below HK.out.bel)
  have HSZ : Hid (((w.alloc (.cells #[.int .u8 k, .int .i64 n, .string t] 23)).alloc (.cells #[.int .i64 c, v, .string x] 35)).heap.size = w.heap.size + 1 + 1) := Lib.hid (by simp)
  have HOv := Lib.hid (fun W hW => ref_rover c v fs x W hW hfl)
  rw [hov] at HOv
  clear hE hv
  obtain ⟨f0, f1, f2⟩ := HK.out.flt.cells
  go_enter Tryz.func4, Tryz.ntmps4
  go_wp2_with fail
  generalize (w.alloc (.cells #[.int .u8 k, .int .i64 n, .string t] 23)).alloc (.cells #[.int .i64 c, v, .string x] 35) = W0 at HK HE HSZ f0 f1 f2 ⊢
  generalize w.heap.size + 1 = Y at HK HSZ ⊢
  generalize w.heap.size = X at HK f0 f1 f2 ⊢
  refine (over28 _ k n t _ (by have := heap_alloc_new W0 (.cells #[.int .u8 k, .int .i64 n, .string t] 23); rw [HSZ.out] at this; exact this)).mono ?_
  rintro e w1 ⟨rfl, rfl⟩
  rw [show decide ((300 : Int) < (t.size : Int)) = false from decide_eq_false (by omega)]
  have HK1 := Lib.hid (HK.out.step ((Below.refl _ _).alloc (Nat.le_refl _) (.cells #[.int .u8 k, .int .i64 n, .string t] 23)))
  have HE1 := Lib.hid (HE.out.below ((Below.refl _ _).alloc (Nat.le_refl _) (.cells #[.int .u8 k, .int .i64 n, .string t] 23)))
  clear f0 f1 f2 HK HE HSZ
  generalize W0.alloc (.cells #[.int .u8 k, .int .i64 n, .string t] 23) = W1 at HK1 HE1 ⊢
  obtain ⟨f0, f1, f2, q0, q1, q2⟩ := HK1.out.cells
  go_wp2_with fail
  refine (HOv.out _ HK1.out.rep.hold).mono ?_
  rintro e w2 ⟨rfl, hb2⟩
  have HK2 := Lib.hid (HK1.out.step hb2)
  have HE2 := Lib.hid (HE1.out.below hb2)
  clear hb2 f0 f1 f2 q0 q1 q2 HK1 HE1 HOv
  go_wp2_with fail
  refine (awake28 _ HE2.out).mono ?_
  rintro e w3 ⟨rfl, hb3⟩
  go_wp2_with fail
  go_ret
  exact ⟨rfl, bstep HK2.out.bel hb3⟩
set_option maxRecDepth 100000 in
set_option maxHeartbeats 4000000 in
theorem keeps_not (k n : Int) (t : ByteArray) (c : Int) (v : Value) (fs : List (List UInt8 × List UInt8)) (x : ByteArray) (w : World) (hE : EnvW w) (hv : HoldsF w v fs) (ht : ¬ ((300 : Int) < (t.size : Int))) (hc0 : -9223372036854775808 ≤ c) (hc1 : c ≤ 9223372036854775807) (hov : overR fs x = false) (he : repE c fs ≠ 0) :
    Calls Tryz.prog 4 #[.agg #[.int .u8 k, .int .i64 n, .string t], .agg #[.int .i64 c, v, .string x]] w fun e w' => e = .returned (.bool true) ∧ Below w.heap.size w w' := by
  have HK := Lib.hid (KS.start (k := k) (n := n) (t := t) (c := c) (x := x) hv)
  have HE := Lib.hid (hE.below HK.out.bel)
  have HSZ : Hid (((w.alloc (.cells #[.int .u8 k, .int .i64 n, .string t] 23)).alloc (.cells #[.int .i64 c, v, .string x] 35)).heap.size = w.heap.size + 1 + 1) := Lib.hid (by simp)
  have HOv := Lib.hid (fun W hW => ref_rover c v fs x W hW (by have := (overR_false fs x hov).1; omega))
  obtain ⟨o1, o2, o3⟩ := overR_false fs x hov
  have HPr := Lib.hid (fun W hW => ref_rprint c v fs x W hc0 hc1 hW (by omega) (fun f hf => by have := o2 f hf; omega) (by omega))
  unfold RPost at HPr
  rw [hov] at HOv
  have tz : ((repE c fs : Int) != 0) = true := by rw [bne_iff_ne]; omega
  generalize repE c fs = E at HPr tz
  generalize bs (repS c fs x.data.toList) = Z at HPr
  clear he o1 o2 o3 hov
  clear hE hv
  obtain ⟨f0, f1, f2⟩ := HK.out.flt.cells
  go_enter Tryz.func4, Tryz.ntmps4
  go_wp2_with fail
  generalize (w.alloc (.cells #[.int .u8 k, .int .i64 n, .string t] 23)).alloc (.cells #[.int .i64 c, v, .string x] 35) = W0 at HK HE HSZ f0 f1 f2 ⊢
  generalize w.heap.size + 1 = Y at HK HSZ ⊢
  generalize w.heap.size = X at HK f0 f1 f2 ⊢
  refine (over28 _ k n t _ (by have := heap_alloc_new W0 (.cells #[.int .u8 k, .int .i64 n, .string t] 23); rw [HSZ.out] at this; exact this)).mono ?_
  rintro e w1 ⟨rfl, rfl⟩
  rw [show decide ((300 : Int) < (t.size : Int)) = false from decide_eq_false (by omega)]
  have HK1 := Lib.hid (HK.out.step ((Below.refl _ _).alloc (Nat.le_refl _) (.cells #[.int .u8 k, .int .i64 n, .string t] 23)))
  have HE1 := Lib.hid (HE.out.below ((Below.refl _ _).alloc (Nat.le_refl _) (.cells #[.int .u8 k, .int .i64 n, .string t] 23)))
  clear f0 f1 f2 HK HE HSZ
  generalize W0.alloc (.cells #[.int .u8 k, .int .i64 n, .string t] 23) = W1 at HK1 HE1 ⊢
  obtain ⟨f0, f1, f2, q0, q1, q2⟩ := HK1.out.cells
  go_wp2_with fail
  refine (HOv.out _ HK1.out.rep.hold).mono ?_
  rintro e w2 ⟨rfl, hb2⟩
  have HK2 := Lib.hid (HK1.out.step hb2)
  have HE2 := Lib.hid (HE1.out.below hb2)
  clear hb2 f0 f1 f2 q0 q1 q2 HK1 HE1 HOv
  obtain ⟨f0, f1, f2, q0, q1, q2⟩ := HK2.out.cells
  go_wp2_with fail
  refine (HPr.out _ HK2.out.rep.hold).mono ?_
  rintro e w3 ⟨rfl, hb3⟩
  have HK3 := Lib.hid (HK2.out.step hb3)
  have HE3 := Lib.hid (HE2.out.below hb3)
  clear hb3 f0 f1 f2 q0 q1 q2 HK2 HE2 HPr
  obtain ⟨f0, f1, f2, q0, q1, q2⟩ := HK3.out.cells
  go_wp2_with fail
  refine (awake28 _ HE3.out).mono ?_
  rintro e w4 ⟨rfl, hb4⟩
  go_wp2_with fail
  go_ret
  exact ⟨rfl, bstep HK3.out.bel hb4⟩
set_option maxRecDepth 100000 in
set_option maxHeartbeats 4000000 in
theorem keeps_cut (k n : Int) (t : ByteArray) (c : Int) (v : Value) (fs : List (List UInt8 × List UInt8)) (x : ByteArray) (w : World) (hE : EnvW w) (hv : HoldsF w v fs) (ht : ¬ ((300 : Int) < (t.size : Int))) (hc0 : -9223372036854775808 ≤ c) (hc1 : c ≤ 9223372036854775807) (hov : overR fs x = false) (he : repE c fs = 0) (hk : k = 1 ∨ k = 2) (h0 : -9223372036854775808 ≤ n) (h1 : n ≤ 9223372036854775807) :
    Calls Tryz.prog 4 #[.agg #[.int .u8 k, .int .i64 n, .string t], .agg #[.int .i64 c, v, .string x]] w fun e w' => e = .returned (.bool true) ∧ Below w.heap.size w w' := by
  have HK := Lib.hid (KS.start (k := k) (n := n) (t := t) (c := c) (x := x) hv)
  have HE := Lib.hid (hE.below HK.out.bel)
  have HSZ : Hid (((w.alloc (.cells #[.int .u8 k, .int .i64 n, .string t] 23)).alloc (.cells #[.int .i64 c, v, .string x] 35)).heap.size = w.heap.size + 1 + 1) := Lib.hid (by simp)
  have HOv := Lib.hid (fun W hW => ref_rover c v fs x W hW (by have := (overR_false fs x hov).1; omega))
  obtain ⟨o1, o2, o3⟩ := overR_false fs x hov
  have HPr := Lib.hid (fun W hW => ref_rprint c v fs x W hc0 hc1 hW (by omega) (fun f hf => by have := o2 f hf; omega) (by omega))
  unfold RPost at HPr
  rw [hov] at HOv
  clear hE hv
  have hS : repS c fs x.data.toList = repL c fs x.data.toList := by unfold repS; rw [if_pos he]
  have hSl := (repL_len c fs x.data.toList he (by rw [size_len]; omega)).1
  rw [hS, he] at HPr
  have hSz : (bs (repL c fs x.data.toList)).size ≤ 5000 := by rw [bs_size]; rw [size_len] at hSl; omega
  generalize bs (repL c fs x.data.toList) = S at HPr hSz
  have HA := Lib.hid (fun W hE => fault_apply k n t S W hE (by omega) h0 h1 (by omega) (by omega))
  obtain ⟨T, hT⟩ : ∃ T, bs (applyF k n t.data.toList S) = T := ⟨_, rfl⟩
  have hpre : Lib.hasPrefix S.data.toList T.data.toList = true := by
    rw [← hT, bs_data]
    unfold Lib.hasPrefix
    rcases hk with rfl | rfl
    · exact List.isPrefixOf_iff_prefix.2 (List.nil_prefix)
    · exact List.isPrefixOf_iff_prefix.2 (List.take_prefix _ _)
  have hnil : k = 1 → (T.toList == []) = true := by
    rintro rfl
    rw [← hT]
    exact (bs_lit _ _).trans (decide_eq_true rfl)
  have HP := Lib.hid (fun W => Tryz.strings_HasPrefix S T W)
  rw [hpre] at HP
  rw [hT] at HA
  clear hT hpre hS hSl o1 o2 o3 hov he
  rcases hk with hk | hk
  all_goals
    first
      | (have u1 : (k == 1) = true := beq_iff_eq.2 hk; have u2 : (k == 2) = false := beq_eq_false_iff_ne.2 (by omega); have hn := hnil hk)
      | (have u1 : (k == 1) = false := beq_eq_false_iff_ne.2 (by omega); have u2 : (k == 2) = true := beq_iff_eq.2 hk)
    clear hnil hk
    obtain ⟨f0, f1, f2⟩ := HK.out.flt.cells
    go_enter Tryz.func4, Tryz.ntmps4
    go_wp2_with fail
    generalize (w.alloc (.cells #[.int .u8 k, .int .i64 n, .string t] 23)).alloc (.cells #[.int .i64 c, v, .string x] 35) = W0 at HK HE HSZ f0 f1 f2 ⊢
    generalize w.heap.size + 1 = Y at HK HSZ ⊢
    generalize w.heap.size = X at HK f0 f1 f2 ⊢
    refine (over28 _ k n t _ (by have := heap_alloc_new W0 (.cells #[.int .u8 k, .int .i64 n, .string t] 23); rw [HSZ.out] at this; exact this)).mono ?_
    rintro e w1 ⟨rfl, rfl⟩
    rw [show decide ((300 : Int) < (t.size : Int)) = false from decide_eq_false (by omega)]
    have HK1 := Lib.hid (HK.out.step ((Below.refl _ _).alloc (Nat.le_refl _) (.cells #[.int .u8 k, .int .i64 n, .string t] 23)))
    have HE1 := Lib.hid (HE.out.below ((Below.refl _ _).alloc (Nat.le_refl _) (.cells #[.int .u8 k, .int .i64 n, .string t] 23)))
    clear f0 f1 f2 HK HE HSZ
    generalize W0.alloc (.cells #[.int .u8 k, .int .i64 n, .string t] 23) = W1 at HK1 HE1 ⊢
    obtain ⟨f0, f1, f2, q0, q1, q2⟩ := HK1.out.cells
    go_wp2_with fail
    refine (HOv.out _ HK1.out.rep.hold).mono ?_
    rintro e w2 ⟨rfl, hb2⟩
    have HK2 := Lib.hid (HK1.out.step hb2)
    have HE2 := Lib.hid (HE1.out.below hb2)
    clear hb2 f0 f1 f2 q0 q1 q2 HK1 HE1 HOv
    obtain ⟨f0, f1, f2, q0, q1, q2⟩ := HK2.out.cells
    go_wp2_with fail
    refine (HPr.out _ HK2.out.rep.hold).mono ?_
    rintro e w3 ⟨rfl, hb3⟩
    have HK3 := Lib.hid (HK2.out.step hb3)
    have HE3 := Lib.hid (HE2.out.below hb3)
    clear hb3 f0 f1 f2 q0 q1 q2 HK2 HE2 HPr
    obtain ⟨f0, f1, f2, q0, q1, q2⟩ := HK3.out.cells
    go_wp2_with fail
    refine (HA.out _ HE3.out).mono ?_
    rintro e w4 ⟨rfl, hb4⟩
    have HK4 := Lib.hid (HK3.out.step hb4)
    have HE4 := Lib.hid (HE3.out.below hb4)
    clear hb4 f0 f1 f2 q0 q1 q2
    obtain ⟨f0, f1, f2, q0, q1, q2⟩ := HK4.out.cells
    go_wp2_with fail
    refine (HP.out _).mono ?_
    rintro e w5 ⟨rfl, rfl⟩
    go_wp2_with fail
    refine (awake28 _ HE4.out).mono ?_
    rintro e w6 ⟨rfl, hb6⟩
    go_wp2_with fail
    go_ret
    exact ⟨rfl, bstep HK4.out.bel hb6⟩
set_option maxRecDepth 100000 in
set_option maxHeartbeats 4000000 in
theorem keeps_main (k n : Int) (t : ByteArray) (c : Int) (v : Value) (fs : List (List UInt8 × List UInt8)) (x : ByteArray) (w : World) (hE : EnvW w) (hv : HoldsF w v fs) (ht : ¬ ((300 : Int) < (t.size : Int))) (hc0 : -9223372036854775808 ≤ c) (hc1 : c ≤ 9223372036854775807) (hov : overR fs x = false) (he : repE c fs = 0) (hk0 : 0 ≤ k) (hk1 : k ≠ 1) (hk2 : k ≠ 2) (h0 : -9223372036854775808 ≤ n) (h1 : n ≤ 9223372036854775807) :
    Calls Tryz.prog 4 #[.agg #[.int .u8 k, .int .i64 n, .string t], .agg #[.int .i64 c, v, .string x]] w fun e w' => e = .returned (.bool true) ∧ Below w.heap.size w w' := by
  have HK := Lib.hid (KS.start (k := k) (n := n) (t := t) (c := c) (x := x) hv)
  have HE := Lib.hid (hE.below HK.out.bel)
  have HSZ : Hid (((w.alloc (.cells #[.int .u8 k, .int .i64 n, .string t] 23)).alloc (.cells #[.int .i64 c, v, .string x] 35)).heap.size = w.heap.size + 1 + 1) := Lib.hid (by simp)
  have HOv := Lib.hid (fun W hW => ref_rover c v fs x W hW (by have := (overR_false fs x hov).1; omega))
  obtain ⟨o1, o2, o3⟩ := overR_false fs x hov
  have HPr := Lib.hid (fun W hW => ref_rprint c v fs x W hc0 hc1 hW (by omega) (fun f hf => by have := o2 f hf; omega) (by omega))
  unfold RPost at HPr
  rw [hov] at HOv
  clear hE hv
  have hS : repS c fs x.data.toList = repL c fs x.data.toList := by unfold repS; rw [if_pos he]
  have hSl := (repL_len c fs x.data.toList he (by rw [size_len]; omega)).1
  rw [hS, he] at HPr
  have hSz : (bs (repL c fs x.data.toList)).size ≤ 5000 := by rw [bs_size]; rw [size_len] at hSl; omega
  have hSd : (bs (repL c fs x.data.toList)).data.toList = repL c fs x.data.toList := bs_data _
  generalize bs (repL c fs x.data.toList) = S at HPr hSz hSd
  have HA := Lib.hid (fun W hE => fault_apply k n t S W hE hk0 h0 h1 (by omega) (by omega))
  have HH := Lib.hid (fun W hE => fault_harms k n t S W hE hk0 h0 h1 (by omega) (by omega))
  obtain ⟨T, hT⟩ : ∃ T, bs (applyF k n t.data.toList S) = T := ⟨_, rfl⟩
  have hTd : T.data.toList = applyF k n t.data.toList S := by rw [← hT, bs_data]
  obtain ⟨A, A', z1, z2, z3, z4, z5, z6, z7, z8⟩ := keeps_bytes c fs x S T k n t.data.toList he (by omega) hSd hTd hk1 hk2
  rw [hT] at HA
  rw [z8] at HH
  have hTz : T.size ≤ 6000 := by
    have e5 := applyF_len k n t.data.toList S
    rw [← hTd, size_len, size_len] at e5
    omega
  have HU := Lib.hid (fun W => Tryz.strings_HasSuffix T (S.extract A S.size) W (by omega))
  rw [z3] at HU
  obtain ⟨CN, hCN⟩ : ∃ CN, Lib.countB S ⟨#[13, 10]⟩ = CN := ⟨_, rfl⟩
  have HC1 : Hid (∀ W, EnvW W → Calls Tryz.prog 18 #[.string T, .string ⟨#[13, 10]⟩] W fun e w' => e = .returned (.int .i64 (CN : Int)) ∧ w' = W) := Lib.hid (fun W hE => by
    obtain ⟨m, hm⟩ := hE.m
    have := Tryz.strings_Count_any T ⟨#[13, 10]⟩ m W (by omega) hm (by decide)
    rw [z4, hCN] at this
    exact this)
  have HC2 : Hid (∀ W, EnvW W → Calls Tryz.prog 18 #[.string S, .string ⟨#[13, 10]⟩] W fun e w' => e = .returned (.int .i64 (CN : Int)) ∧ w' = W) := Lib.hid (fun W hE => by
    obtain ⟨m, hm⟩ := hE.m
    have := Tryz.strings_Count_any S ⟨#[13, 10]⟩ m W (by omega) hm (by decide)
    rw [hCN] at this
    exact this)
  have HL1 := Lib.hid (fun W hE => split_any (S.extract 0 (A + 2)) W (by rw [ByteArray.size_extract]; omega) hE)
  have HL2 := Lib.hid (fun W hE => split_any (T.extract 0 (A' + 2)) W (by rw [ByteArray.size_extract]; omega) hE)
  generalize Lib.split (S.extract 0 (A + 2)).data.toList [13, 10] = LS at HL1 HH z5 z6 z7
  generalize Lib.split (T.extract 0 (A' + 2)).data.toList [13, 10] = LT at HL2 HH z5 z7
  have HZ := Lib.hid (And.intro z5 (And.intro z6 z7))
  have y1 : (S.size : Int) - (x.size : Int) = (A : Int) + 2 := by omega
  have y2 : IntKind.i64.wrap ((S.size : Int) - (x.size : Int)) = (A : Int) + 2 := by rw [IntKind.wrap_i64]; omega
  have y3 : IntKind.i64.wrap ((A : Int) + 2 - 2) = (A : Int) := by rw [IntKind.wrap_i64]; omega
  have y4 : (A : Int) ≤ (S.size : Int) := by omega
  have y5 : (A : Int) + 2 ≤ (S.size : Int) := by omega
  have y6 : IntKind.i64.wrap ((T.size : Int) - (x.size : Int)) = (A' : Int) + 2 := by rw [IntKind.wrap_i64]; omega
  have y7 : (A' : Int) + 2 ≤ (T.size : Int) := by omega
  have y10 : (0 : Int) ≤ (A : Int) + 2 := by omega
  have y11 : (0 : Int) ≤ (A' : Int) + 2 := by omega
  have y8 : ((A : Int) + 2).toNat = A + 2 := by omega
  have y9 : ((A' : Int) + 2).toNat = A' + 2 := by omega
  have u1 : (k == 1) = false := beq_eq_false_iff_ne.2 hk1
  have u2 : (k == 2) = false := beq_eq_false_iff_ne.2 hk2
  clear hTd hT z1 z2 z3 z4 z5 z6 z7 z8 hS hSl hSd o1 o2 o3 hov he hCN
  obtain ⟨f0, f1, f2⟩ := HK.out.flt.cells
  go_enter Tryz.func4, Tryz.ntmps4
  go_wp2_with fail
  generalize (w.alloc (.cells #[.int .u8 k, .int .i64 n, .string t] 23)).alloc (.cells #[.int .i64 c, v, .string x] 35) = W0 at HK HE HSZ f0 f1 f2 ⊢
  generalize w.heap.size + 1 = Y at HK HSZ ⊢
  generalize w.heap.size = X at HK f0 f1 f2 ⊢
  refine (over28 _ k n t _ (by have := heap_alloc_new W0 (.cells #[.int .u8 k, .int .i64 n, .string t] 23); rw [HSZ.out] at this; exact this)).mono ?_
  rintro e w1 ⟨rfl, rfl⟩
  rw [show decide ((300 : Int) < (t.size : Int)) = false from decide_eq_false (by omega)]
  have HK1 := Lib.hid (HK.out.step ((Below.refl _ _).alloc (Nat.le_refl _) (.cells #[.int .u8 k, .int .i64 n, .string t] 23)))
  have HE1 := Lib.hid (HE.out.below ((Below.refl _ _).alloc (Nat.le_refl _) (.cells #[.int .u8 k, .int .i64 n, .string t] 23)))
  clear f0 f1 f2 HK HE HSZ
  generalize W0.alloc (.cells #[.int .u8 k, .int .i64 n, .string t] 23) = W1 at HK1 HE1 ⊢
  obtain ⟨f0, f1, f2, q0, q1, q2⟩ := HK1.out.cells
  go_wp2_with fail
  refine (HOv.out _ HK1.out.rep.hold).mono ?_
  rintro e w2 ⟨rfl, hb2⟩
  have HK2 := Lib.hid (HK1.out.step hb2)
  have HE2 := Lib.hid (HE1.out.below hb2)
  clear hb2 f0 f1 f2 q0 q1 q2 HK1 HE1 HOv
  obtain ⟨f0, f1, f2, q0, q1, q2⟩ := HK2.out.cells
  go_wp2_with fail
  refine (HPr.out _ HK2.out.rep.hold).mono ?_
  rintro e w3 ⟨rfl, hb3⟩
  have HK3 := Lib.hid (HK2.out.step hb3)
  have HE3 := Lib.hid (HE2.out.below hb3)
  clear hb3 f0 f1 f2 q0 q1 q2 HK2 HE2 HPr
  obtain ⟨f0, f1, f2, q0, q1, q2⟩ := HK3.out.cells
  go_wp2_with fail
  refine (HA.out _ HE3.out).mono ?_
  rintro e w4 ⟨rfl, hb4⟩
  have HK4 := Lib.hid (HK3.out.step hb4)
  have HE4 := Lib.hid (HE3.out.below hb4)
  clear hb4 f0 f1 f2 q0 q1 q2 HK3 HE3 HA
  obtain ⟨f0, f1, f2, q0, q1, q2⟩ := HK4.out.cells
  go_wp2_with fail
  refine (HU.out _).mono ?_
  rintro e w5 ⟨rfl, rfl⟩
  go_wp2_with fail
  refine (HC1.out _ HE4.out).mono ?_
  rintro e w5 ⟨rfl, rfl⟩
  go_wp2_with fail
  refine (HC2.out _ HE4.out).mono ?_
  rintro e w5 ⟨rfl, rfl⟩
  go_wp2_with fail
  have HS : Hid (∀ W, Below w5.heap.size w5 W → W.cell? ⟨Y, 2, none⟩ = some (.string x)) := Lib.hid (fun W hW => (HK4.out.step hW).rep.cells.2.2)
  have HEE : Hid (∀ W, Below w5.heap.size w5 W → EnvW W) := Lib.hid (fun W hW => HE4.out.below hW)
  have HDr : Hid (Below w5.heap.size w5 w5.drew) := Lib.hid (Below.refl _ _).drew
  clear f0 f1 f2 q0 q1 q2
  go_region_held3 (fun w' => w'.cell? ⟨Y, 2, none⟩ = some (.string x)) (first | exact HS.out _ HDr.out | exact HS.out _ HB1.out | exact HS.out _ HB2.out)
    (first
      | (go_at_call 19; (first
          | (with_reducible refine (HL1.out _ (HEE.out _ HDr.out)).mono ?_; rintro e wa ⟨aa, ca, rfl, hha, hba⟩; have HB1 : Hid (Below w5.heap.size w5 wa) := Lib.hid (bstep HDr.out hba); have HHA := Lib.hid hha; clear hha hba)
          | (with_reducible refine (HL2.out _ (HEE.out _ HB1.out)).mono ?_; rintro e wb ⟨ab, cb, rfl, hhb, hbb⟩; have HB2 : Hid (Below w5.heap.size w5 wb) := Lib.hid (bstep HB1.out hbb); have HHA2 := Lib.hid (HHA.out.below hbb); have HHB := Lib.hid hhb; clear hhb hbb))))
  all_goals
    have hz5 := HZ.out.1
    rw [hz5] at HHB
    rw [hz5]
    have HK5 := Lib.hid (HK4.out.step HB2.out)
    have HE5 := Lib.hid (HE4.out.below HB2.out)
    obtain ⟨HN0, HN1⟩ : Hid (nd (LS.take 0) (LT.take 0) = 0) ∧ True := ⟨Lib.hid rfl, trivial⟩
    clear HK4 HE4 HB1 HB2 HHA HS HEE HDr HL1 HL2 HC1 HC2 HU HN1 hz5
    go_wp2_with fail
    go_loopg [11, 12] LS.length (fun gk s11 s12 wr => ∃ i : Nat, s11 = .int .i64 (nd (LS.take i) (LT.take i) : Int) ∧ s12 = .int .i64 (i : Int) ∧ i + gk = LS.length ∧ Below wb.heap.size wb wr)
    case atStart => exact ⟨0, rfl, rfl, by omega, Below.refl _ _⟩
    case round =>
      obtain ⟨i, rfl, rfl, hgk, hb⟩ := hrel
      cases gk with
      | zero =>
        obtain rfl : i = LS.length := by omega
        rw [List.take_length, List.take_of_length_le (l := LT) (by rw [HZ.out.1]; exact Nat.le_refl _)]
        have HKr := Lib.hid (HK5.out.step hb)
        have HEr := Lib.hid (HE5.out.below hb)
        obtain ⟨f0, f1, f2, q0, q1, q2⟩ := HKr.out.cells
        have hn1 := HZ.out.2.2
        generalize nd LS LT = ND at HH hn1 ⊢
        have hnd : ND = 0 ∨ ND = 1 := by omega
        clear hb hgk hn1
        rcases hnd with rfl | rfl
        all_goals
          go_wp2_with fail
          refine (HH.out _ HEr.out).mono ?_
          rintro e w6 ⟨rfl, hb6⟩
          have HK6 := Lib.hid (HKr.out.step hb6)
          have HE6 := Lib.hid (HEr.out.below hb6)
          clear hb6 f0 f1 f2 q0 q1 q2
          go_wp2_with fail
          refine (awake28 _ HE6.out).mono ?_
          rintro e w7 ⟨rfl, hb7⟩
          go_wp2_with fail
          go_ret
          exact ⟨rfl, bstep HK6.out.bel hb7⟩
      | succ gm =>
        have hi : i < LS.length := by omega
        have hi2 : i < LT.length := by rw [HZ.out.1]; exact hi
        have hii : (i : Int) < (LS.length : Int) := by omega
        have hst := nd_step LS LT i hi hi2
        obtain ⟨a1, c1, hv1, hc1, hcell1⟩ := HHA2.out.below hb
        obtain ⟨a2, c2, hv2, hc2, hcell2⟩ := HHB.out.below hb
        obtain ⟨rfl, rfl⟩ : aa = a1 ∧ ca = c1 := by
          simp only [Value.slice.injEq] at hv1
          exact ⟨hv1.1, hv1.2.2⟩
        obtain ⟨rfl, rfl⟩ : ab = a2 ∧ cb = c2 := by
          simp only [Value.slice.injEq] at hv2
          exact ⟨hv2.1, hv2.2.2⟩
        obtain ⟨b1, o1, rfl, -, hl1⟩ := hcell1 (by intro e; rw [e] at hi; simp at hi)
        obtain ⟨b2, o2, rfl, -, hl2⟩ := hcell2 (by intro e; rw [e] at hi2; simp at hi2)
        have k1 := hl1 i hi
        have k2 := hl2 i hi2
        have ic1 : (i : Int) < (ca : Int) := by omega
        have ic2 : (i : Int) < (cb : Int) := by have := HZ.out.1; omega
        have hwk : IntKind.i64.wrap ((i : Int) + 1) = (i : Int) + 1 := by rw [IntKind.wrap_i64]; have := HZ.out.2.1; omega
        have hndl : nd (LS.take i) (LT.take i) ≤ i := Nat.le_trans (nd_le _ _) (List.length_take_le _ _)
        have hwn : IntKind.i64.wrap ((nd (LS.take i) (LT.take i) : Int) + 1) = (nd (LS.take i) (LT.take i) : Int) + 1 := by rw [IntKind.wrap_i64]; have := HZ.out.2.1; omega
        have HBw := Lib.hid hb
        have hpq : ((bs LS[i]).toList == (bs LT[i]).toList) = decide (LS[i] = LT[i]) := by
          rw [ByteArray.toList_eq (bs LT[i]), bs_data]; exact bs_lit _ _
        have hpq2 : (bs LS[i]).toList = (bs LT[i]).toList ↔ LS[i] = LT[i] := by
          rw [ByteArray.toList_eq, ByteArray.toList_eq, bs_data, bs_data]
        have HST := Lib.hid hst
        generalize hM : nd (LS.take i) (LT.take i) = M at hwn
        have HM := Lib.hid hM
        generalize bs LS[i] = P1 at k1 hpq hpq2
        generalize bs LT[i] = P2 at k2 hpq hpq2
        clear hv1 hv2 hcell1 hcell2 hl1 hl2 hb hst hndl hM
        by_cases hne : LS[i] = LT[i]
        · rw [decide_eq_true hne] at hpq
          have hpq3 := hpq2.2 hne
          clear hpq2
          have HNX : Hid (nd (LS.take (i + 1)) (LT.take (i + 1)) = M) := Lib.hid (by rw [HST.out, HM.out, if_pos hne, Nat.add_zero])
          clear hne
          go_wp2_with fail
          go_quiet (fail)
          go_wp2_with fail
          go_roundg gm
          case measure => omega
          case rel => exact ⟨i + 1, by rw [HNX.out], rfl, by omega, below_drewN HBw.out _⟩
        · rw [decide_eq_false hne] at hpq
          have hpq3 : ¬ (P1.toList = P2.toList) := fun e => hne (hpq2.1 e)
          clear hpq2
          have HNX : Hid (nd (LS.take (i + 1)) (LT.take (i + 1)) = M + 1) := Lib.hid (by rw [HST.out, HM.out, if_neg hne])
          clear hne
          go_wp2_with fail
          go_quiet (fail)
          go_wp2_with fail
          go_roundg gm
          case measure => omega
          case rel => exact ⟨i + 1, by rw [HNX.out]; rfl, rfl, by omega, below_drewN HBw.out _⟩

end Go.Proofs.YtgnkmfjleecmfaaGreatDoor
namespace Go.Proofs.YtgnkmfjleecmfaaGreatDoor
open Go.RowKit
set_option maxRecDepth 100000 in
set_option maxHeartbeats 4000000 in
theorem body_long (k n : Int) (t : ByteArray) (c : Int) (v : Value) (fs : List (List UInt8 × List UInt8)) (x : ByteArray) (most : Int) (w : World) (hE : EnvF w) (hv : HoldsF w v fs) (ht : (300 : Int) < (t.size : Int)) :
    Calls Tryz.prog 6 #[.agg #[.int .u8 k, .int .i64 n, .string t], .agg #[.int .i64 c, v, .string x], .int .i64 most] w fun e w' => e = .returned (.bool true) ∧ Below w.heap.size w w' := by
  have HK := Lib.hid (KS.start (k := k) (n := n) (t := t) (c := c) (x := x) hv)
  have HE := Lib.hid (hE.below HK.out.bel)
  have HSZ : Hid (((w.alloc (.cells #[.int .u8 k, .int .i64 n, .string t] 23)).alloc (.cells #[.int .i64 c, v, .string x] 35)).heap.size = w.heap.size + 1 + 1) := Lib.hid (by simp)
  clear hE hv
  obtain ⟨f0, f1, f2⟩ := HK.out.flt.cells
  go_enter Tryz.func6, Tryz.ntmps6
  go_wp2_with fail
  generalize (w.alloc (.cells #[.int .u8 k, .int .i64 n, .string t] 23)).alloc (.cells #[.int .i64 c, v, .string x] 35) = W0 at HK HE HSZ f0 f1 f2 ⊢
  generalize w.heap.size + 1 = Y at HK HSZ ⊢
  generalize w.heap.size = X at HK f0 f1 f2 ⊢
  refine (over28 _ k n t _ (by have := heap_alloc_new W0 (.cells #[.int .u8 k, .int .i64 n, .string t] 23); rw [HSZ.out] at this; exact this)).mono ?_
  rintro e w1 ⟨rfl, rfl⟩
  rw [show decide ((300 : Int) < (t.size : Int)) = true from decide_eq_true (by omega)]
  have HB1 := Lib.hid ((Below.refl W0.heap.size W0).alloc (Nat.le_refl _) (.cells #[.int .u8 k, .int .i64 n, .string t] 23))
  have HE1 := Lib.hid (HE.out.below HB1.out)
  clear f0 f1 f2
  go_wp2_with fail
  refine (awake28 _ HE1.out.weak).mono ?_
  rintro e w2 ⟨rfl, hb2⟩
  go_wp2_with fail
  go_ret
  exact ⟨rfl, bstep (bstep HK.out.bel HB1.out) hb2⟩
set_option maxRecDepth 100000 in
set_option maxHeartbeats 4000000 in
theorem body_over (k n : Int) (t : ByteArray) (c : Int) (v : Value) (fs : List (List UInt8 × List UInt8)) (x : ByteArray) (most : Int) (w : World) (hE : EnvF w) (hv : HoldsF w v fs) (ht : ¬ ((300 : Int) < (t.size : Int))) (hfl : fs.length ≤ 9223372036854775807) (hov : overR fs x = true) :
    Calls Tryz.prog 6 #[.agg #[.int .u8 k, .int .i64 n, .string t], .agg #[.int .i64 c, v, .string x], .int .i64 most] w fun e w' => e = .returned (.bool true) ∧ Below w.heap.size w w' := by
  have HK := Lib.hid (KS.start (k := k) (n := n) (t := t) (c := c) (x := x) hv)
  have HE := Lib.hid (hE.below HK.out.bel)
  have HSZ : Hid (((w.alloc (.cells #[.int .u8 k, .int .i64 n, .string t] 23)).alloc (.cells #[.int .i64 c, v, .string x] 35)).heap.size = w.heap.size + 1 + 1) := Lib.hid (by simp)
  have HOv := Lib.hid (fun W hW => ref_rover c v fs x W hW hfl)
  rw [hov] at HOv
  clear hE hv
  obtain ⟨f0, f1, f2⟩ := HK.out.flt.cells
  go_enter Tryz.func6, Tryz.ntmps6
  go_wp2_with fail
  generalize (w.alloc (.cells #[.int .u8 k, .int .i64 n, .string t] 23)).alloc (.cells #[.int .i64 c, v, .string x] 35) = W0 at HK HE HSZ f0 f1 f2 ⊢
  generalize w.heap.size + 1 = Y at HK HSZ ⊢
  generalize w.heap.size = X at HK f0 f1 f2 ⊢
  refine (over28 _ k n t _ (by have := heap_alloc_new W0 (.cells #[.int .u8 k, .int .i64 n, .string t] 23); rw [HSZ.out] at this; exact this)).mono ?_
  rintro e w1 ⟨rfl, rfl⟩
  rw [show decide ((300 : Int) < (t.size : Int)) = false from decide_eq_false (by omega)]
  have HK1 := Lib.hid (HK.out.step ((Below.refl _ _).alloc (Nat.le_refl _) (.cells #[.int .u8 k, .int .i64 n, .string t] 23)))
  have HE1 := Lib.hid (HE.out.below ((Below.refl _ _).alloc (Nat.le_refl _) (.cells #[.int .u8 k, .int .i64 n, .string t] 23)))
  clear f0 f1 f2 HK HE HSZ
  generalize W0.alloc (.cells #[.int .u8 k, .int .i64 n, .string t] 23) = W1 at HK1 HE1 ⊢
  obtain ⟨f0, f1, f2, q0, q1, q2⟩ := HK1.out.cells
  go_wp2_with fail
  refine (HOv.out _ HK1.out.rep.hold).mono ?_
  rintro e w2 ⟨rfl, hb2⟩
  have HK2 := Lib.hid (HK1.out.step hb2)
  have HE2 := Lib.hid (HE1.out.below hb2)
  clear hb2 f0 f1 f2 q0 q1 q2 HK1 HE1 HOv
  go_wp2_with fail
  refine (awake28 _ HE2.out.weak).mono ?_
  rintro e w3 ⟨rfl, hb3⟩
  go_wp2_with fail
  go_ret
  exact ⟨rfl, bstep HK2.out.bel hb3⟩
set_option maxRecDepth 100000 in
set_option maxHeartbeats 4000000 in
theorem body_not (k n : Int) (t : ByteArray) (c : Int) (v : Value) (fs : List (List UInt8 × List UInt8)) (x : ByteArray) (most : Int) (w : World) (hE : EnvF w) (hv : HoldsF w v fs) (ht : ¬ ((300 : Int) < (t.size : Int))) (hc0 : -9223372036854775808 ≤ c) (hc1 : c ≤ 9223372036854775807) (hov : overR fs x = false) (he : repE c fs ≠ 0) :
    Calls Tryz.prog 6 #[.agg #[.int .u8 k, .int .i64 n, .string t], .agg #[.int .i64 c, v, .string x], .int .i64 most] w fun e w' => e = .returned (.bool true) ∧ Below w.heap.size w w' := by
  have HK := Lib.hid (KS.start (k := k) (n := n) (t := t) (c := c) (x := x) hv)
  have HE := Lib.hid (hE.below HK.out.bel)
  have HSZ : Hid (((w.alloc (.cells #[.int .u8 k, .int .i64 n, .string t] 23)).alloc (.cells #[.int .i64 c, v, .string x] 35)).heap.size = w.heap.size + 1 + 1) := Lib.hid (by simp)
  have HOv := Lib.hid (fun W hW => ref_rover c v fs x W hW (by have := (overR_false fs x hov).1; omega))
  obtain ⟨o1, o2, o3⟩ := overR_false fs x hov
  have HPr := Lib.hid (fun W hW => ref_rprint c v fs x W hc0 hc1 hW (by omega) (fun f hf => by have := o2 f hf; omega) (by omega))
  unfold RPost at HPr
  rw [hov] at HOv
  have tz : ((repE c fs : Int) != 0) = true := by rw [bne_iff_ne]; omega
  generalize repE c fs = E at HPr tz
  generalize bs (repS c fs x.data.toList) = Z at HPr
  clear he o1 o2 o3 hov
  clear hE hv
  obtain ⟨f0, f1, f2⟩ := HK.out.flt.cells
  go_enter Tryz.func6, Tryz.ntmps6
  go_wp2_with fail
  generalize (w.alloc (.cells #[.int .u8 k, .int .i64 n, .string t] 23)).alloc (.cells #[.int .i64 c, v, .string x] 35) = W0 at HK HE HSZ f0 f1 f2 ⊢
  generalize w.heap.size + 1 = Y at HK HSZ ⊢
  generalize w.heap.size = X at HK f0 f1 f2 ⊢
  refine (over28 _ k n t _ (by have := heap_alloc_new W0 (.cells #[.int .u8 k, .int .i64 n, .string t] 23); rw [HSZ.out] at this; exact this)).mono ?_
  rintro e w1 ⟨rfl, rfl⟩
  rw [show decide ((300 : Int) < (t.size : Int)) = false from decide_eq_false (by omega)]
  have HK1 := Lib.hid (HK.out.step ((Below.refl _ _).alloc (Nat.le_refl _) (.cells #[.int .u8 k, .int .i64 n, .string t] 23)))
  have HE1 := Lib.hid (HE.out.below ((Below.refl _ _).alloc (Nat.le_refl _) (.cells #[.int .u8 k, .int .i64 n, .string t] 23)))
  clear f0 f1 f2 HK HE HSZ
  generalize W0.alloc (.cells #[.int .u8 k, .int .i64 n, .string t] 23) = W1 at HK1 HE1 ⊢
  obtain ⟨f0, f1, f2, q0, q1, q2⟩ := HK1.out.cells
  go_wp2_with fail
  refine (HOv.out _ HK1.out.rep.hold).mono ?_
  rintro e w2 ⟨rfl, hb2⟩
  have HK2 := Lib.hid (HK1.out.step hb2)
  have HE2 := Lib.hid (HE1.out.below hb2)
  clear hb2 f0 f1 f2 q0 q1 q2 HK1 HE1 HOv
  obtain ⟨f0, f1, f2, q0, q1, q2⟩ := HK2.out.cells
  go_wp2_with fail
  refine (HPr.out _ HK2.out.rep.hold).mono ?_
  rintro e w3 ⟨rfl, hb3⟩
  have HK3 := Lib.hid (HK2.out.step hb3)
  have HE3 := Lib.hid (HE2.out.below hb3)
  clear hb3 f0 f1 f2 q0 q1 q2 HK2 HE2 HPr
  obtain ⟨f0, f1, f2, q0, q1, q2⟩ := HK3.out.cells
  go_wp2_with fail
  refine (awake28 _ HE3.out.weak).mono ?_
  rintro e w4 ⟨rfl, hb4⟩
  go_wp2_with fail
  go_ret
  exact ⟨rfl, bstep HK3.out.bel hb4⟩
/-- what is told of a printed reply, whatever fault comes over it -/
theorem body_bytes (c : Int) (fs : List (List UInt8 × List UInt8)) (x S T : ByteArray) (k n most : Int) (t : List UInt8) (h : repE c fs = 0) (hx : x.size ≤ 1000000) (hS : S.data.toList = repL c fs x.data.toList) (hT : T.data.toList = applyF k n t S)
    (ht : takE T most = 0) : takB T most <+: x.data.toList ∧ (takB T most = x.data.toList ∨ k = 5) ∧ ((takB T most).length : Int) ≤ most := by
  have hxl : x.data.toList.length ≤ 1000000 := by rw [size_len]; exact hx
  have whole : ∀ K, T.data.toList = (repL c fs x.data.toList).take K → takB T most <+: x.data.toList ∧ (takB T most = x.data.toList ∨ k = 5) ∧ ((takB T most).length : Int) ≤ most := by
    intro K hK
    obtain ⟨e1, e2⟩ := take_cutF c fs x.data.toList T most K h hxl hK ht
    exact ⟨by rw [e1]; exact List.prefix_refl _, .inl e1, e2⟩
  by_cases k1 : k = 1
  · exact whole 0 (by rw [hT, k1]; rfl)
  by_cases k2 : k = 2
  · refine whole (max 0 (min n (S.size : Int))).toNat ?_
    rw [hT, k2, ← hS]
    rfl
  obtain ⟨i, y, hi, hy, he, hw⟩ := apply_rep c fs x.data.toList S k n t h hxl hS k1 k2
  exact take_mod c fs x.data.toList T k n most t i y h hxl hi hy (by rw [hT, he]) hw ht
set_option maxRecDepth 100000 in
set_option maxHeartbeats 4000000 in
theorem body_main (k n : Int) (t : ByteArray) (c : Int) (v : Value) (fs : List (List UInt8 × List UInt8)) (x : ByteArray) (most : Int) (w : World) (hE : EnvF w) (hv : HoldsF w v fs) (ht : ¬ ((300 : Int) < (t.size : Int))) (hc0 : -9223372036854775808 ≤ c) (hc1 : c ≤ 9223372036854775807) (hov : overR fs x = false) (he : repE c fs = 0) (hk0 : 0 ≤ k) (h0 : -9223372036854775808 ≤ n) (h1 : n ≤ 9223372036854775807) :
    Calls Tryz.prog 6 #[.agg #[.int .u8 k, .int .i64 n, .string t], .agg #[.int .i64 c, v, .string x], .int .i64 most] w fun e w' => e = .returned (.bool true) ∧ Below w.heap.size w w' := by
  have HK := Lib.hid (KS.start (k := k) (n := n) (t := t) (c := c) (x := x) hv)
  have HE := Lib.hid (hE.below HK.out.bel)
  have HSZ : Hid (((w.alloc (.cells #[.int .u8 k, .int .i64 n, .string t] 23)).alloc (.cells #[.int .i64 c, v, .string x] 35)).heap.size = w.heap.size + 1 + 1) := Lib.hid (by simp)
  have HOv := Lib.hid (fun W hW => ref_rover c v fs x W hW (by have := (overR_false fs x hov).1; omega))
  obtain ⟨o1, o2, o3⟩ := overR_false fs x hov
  have HPr := Lib.hid (fun W hW => ref_rprint c v fs x W hc0 hc1 hW (by omega) (fun f hf => by have := o2 f hf; omega) (by omega))
  unfold RPost at HPr
  rw [hov] at HOv
  clear hE hv
  have hS : repS c fs x.data.toList = repL c fs x.data.toList := by unfold repS; rw [if_pos he]
  have hSl := (repL_len c fs x.data.toList he (by rw [size_len]; omega)).1
  rw [hS, he] at HPr
  have hSz : (bs (repL c fs x.data.toList)).size ≤ 5000 := by rw [bs_size]; rw [size_len] at hSl; omega
  have hSd : (bs (repL c fs x.data.toList)).data.toList = repL c fs x.data.toList := bs_data _
  generalize bs (repL c fs x.data.toList) = S at HPr hSz hSd
  have HA := Lib.hid (fun W hE => fault_apply k n t S W hE hk0 h0 h1 (by omega) (by omega))
  obtain ⟨T, hT⟩ : ∃ T, bs (applyF k n t.data.toList S) = T := ⟨_, rfl⟩
  have hTd : T.data.toList = applyF k n t.data.toList S := by rw [← hT, bs_data]
  have hTz : T.size ≤ 6000 := by
    have e5 := applyF_len k n t.data.toList S
    rw [← hTd, size_len, size_len] at e5
    omega
  rw [hT] at HA
  have HH := Lib.hid (fun W => head_some S W (by omega))
  rw [(head_rep c fs x.data.toList x.data.toList S he (by rw [size_len]; omega) (by rw [hSd]; rfl))] at HH
  have hBB := body_bytes c fs x S T k n most t.data.toList he (by omega) hSd hTd
  by_cases hE0 : takE T most = 0
  case neg =>
    have HPa := Lib.hid (fun W hE => parse_err T most (takE T most) rfl hE0 W (by omega) hE)
    have tz : ((takE T most : Int) != 0) = true := by rw [bne_iff_ne]; omega
    unfold ParseAt at HPa
    generalize takE T most = ER at HPa tz
    clear hE0 hBB HH hTd hT hS hSl hSd o1 o2 o3 hov he
    obtain ⟨f0, f1, f2⟩ := HK.out.flt.cells
    go_enter Tryz.func6, Tryz.ntmps6
    go_wp2_with fail
    generalize (w.alloc (.cells #[.int .u8 k, .int .i64 n, .string t] 23)).alloc (.cells #[.int .i64 c, v, .string x] 35) = W0 at HK HE HSZ f0 f1 f2 ⊢
    generalize w.heap.size + 1 = Y at HK HSZ ⊢
    generalize w.heap.size = X at HK f0 f1 f2 ⊢
    refine (over28 _ k n t _ (by have := heap_alloc_new W0 (.cells #[.int .u8 k, .int .i64 n, .string t] 23); rw [HSZ.out] at this; exact this)).mono ?_
    rintro e w1 ⟨rfl, rfl⟩
    rw [show decide ((300 : Int) < (t.size : Int)) = false from decide_eq_false (by omega)]
    have HK1 := Lib.hid (HK.out.step ((Below.refl _ _).alloc (Nat.le_refl _) (.cells #[.int .u8 k, .int .i64 n, .string t] 23)))
    have HE1 := Lib.hid (HE.out.below ((Below.refl _ _).alloc (Nat.le_refl _) (.cells #[.int .u8 k, .int .i64 n, .string t] 23)))
    clear f0 f1 f2 HK HE HSZ
    generalize W0.alloc (.cells #[.int .u8 k, .int .i64 n, .string t] 23) = W1 at HK1 HE1 ⊢
    obtain ⟨f0, f1, f2, q0, q1, q2⟩ := HK1.out.cells
    go_wp2_with fail
    refine (HOv.out _ HK1.out.rep.hold).mono ?_
    rintro e w2 ⟨rfl, hb2⟩
    have HK2 := Lib.hid (HK1.out.step hb2)
    have HE2 := Lib.hid (HE1.out.below hb2)
    clear hb2 f0 f1 f2 q0 q1 q2 HK1 HE1 HOv
    obtain ⟨f0, f1, f2, q0, q1, q2⟩ := HK2.out.cells
    go_wp2_with fail
    refine (HPr.out _ HK2.out.rep.hold).mono ?_
    rintro e w3 ⟨rfl, hb3⟩
    have HK3 := Lib.hid (HK2.out.step hb3)
    have HE3 := Lib.hid (HE2.out.below hb3)
    clear hb3 f0 f1 f2 q0 q1 q2 HK2 HE2 HPr
    obtain ⟨f0, f1, f2, q0, q1, q2⟩ := HK3.out.cells
    go_wp2_with fail
    refine (HA.out _ HE3.out.weak).mono ?_
    rintro e w4 ⟨rfl, hb4⟩
    have HK4 := Lib.hid (HK3.out.step hb4)
    have HE4 := Lib.hid (HE3.out.below hb4)
    clear hb4 f0 f1 f2 q0 q1 q2
    go_wp2_with fail
    refine (HPa.out _ HE4.out).mono ?_
    rintro e w5 ⟨a5, c5, rfl, ho5, hb5⟩
    have hb5' := bstep hb5 (below_agg3 w5 (.int .i64 0) (.slice a5 0 c5) (.string ⟨#[]⟩) 63)
    have HK5 := Lib.hid (HK4.out.step hb5')
    have HE5 := Lib.hid (HE4.out.below hb5')
    clear hb5 hb5' ho5
    go_wp2_with fail
    refine (awake28 _ HE5.out.weak).mono ?_
    rintro e w6 ⟨rfl, hb6⟩
    go_wp2_with fail
    go_ret
    exact ⟨rfl, bstep HK5.out.bel hb6⟩
  obtain ⟨b1, b2, b3⟩ := hBB hE0
  have HPa := Lib.hid (fun W hE => parse_is T most (takC T most) (takN T most) (takF T most) (bs (takB T most)) 0 ⟨hE0, rfl, rfl, rfl, rfl⟩ W (by omega) hE)
  unfold ParseAt at HPa
  have hBs : ((bs (takB T most)).size : Int) ≤ most := by rw [bs_size]; exact b3
  have HPx := Lib.hid (fun W => Tryz.strings_HasPrefix x (bs (takB T most)) W)
  have hpre : Lib.hasPrefix x.data.toList (bs (takB T most)).data.toList = true := by
    rw [bs_data]; unfold Lib.hasPrefix; exact List.isPrefixOf_iff_prefix.2 b1
  rw [hpre] at HPx
  have hEq : ((bs (takB T most)).toList == x.toList) = true ∨ (((bs (takB T most)).toList == x.toList) = false ∧ k = 5) := by
    rw [ByteArray.toList_eq, ByteArray.toList_eq, bs_data]
    by_cases e : takB T most = x.data.toList
    · exact .inl (beq_iff_eq.2 e)
    · exact .inr ⟨beq_eq_false_iff_ne.2 e, b2.resolve_left e⟩
  generalize takC T most = CC at HPa
  generalize takN T most = NN at HPa
  generalize takF T most = FF at HPa
  generalize bs (takB T most) = BB at HPa hBs HPx hEq
  obtain ⟨FL, hFL⟩ : ∃ FL, FF.length = FL := ⟨_, rfl⟩
  rw [hFL] at HPa
  generalize (repLines c fs x.data.toList.length) = RL at HH
  clear b1 b2 b3 hpre hFL hE0 hBB hTd hT hS hSl hSd o1 o2 o3 hov he
  rcases hEq with hEq | ⟨hEq, hk5⟩
  all_goals
    try (have u5 : (k == 5) = true := beq_iff_eq.2 hk5; clear hk5)
    obtain ⟨f0, f1, f2⟩ := HK.out.flt.cells
    go_enter Tryz.func6, Tryz.ntmps6
    go_wp2_with fail
    generalize (w.alloc (.cells #[.int .u8 k, .int .i64 n, .string t] 23)).alloc (.cells #[.int .i64 c, v, .string x] 35) = W0 at HK HE HSZ f0 f1 f2 ⊢
    generalize w.heap.size + 1 = Y at HK HSZ ⊢
    generalize w.heap.size = X at HK f0 f1 f2 ⊢
    refine (over28 _ k n t _ (by have := heap_alloc_new W0 (.cells #[.int .u8 k, .int .i64 n, .string t] 23); rw [HSZ.out] at this; exact this)).mono ?_
    rintro e w1 ⟨rfl, rfl⟩
    rw [show decide ((300 : Int) < (t.size : Int)) = false from decide_eq_false (by omega)]
    have HK1 := Lib.hid (HK.out.step ((Below.refl _ _).alloc (Nat.le_refl _) (.cells #[.int .u8 k, .int .i64 n, .string t] 23)))
    have HE1 := Lib.hid (HE.out.below ((Below.refl _ _).alloc (Nat.le_refl _) (.cells #[.int .u8 k, .int .i64 n, .string t] 23)))
    clear f0 f1 f2 HK HE HSZ
    generalize W0.alloc (.cells #[.int .u8 k, .int .i64 n, .string t] 23) = W1 at HK1 HE1 ⊢
    obtain ⟨f0, f1, f2, q0, q1, q2⟩ := HK1.out.cells
    go_wp2_with fail
    refine (HOv.out _ HK1.out.rep.hold).mono ?_
    rintro e w2 ⟨rfl, hb2⟩
    have HK2 := Lib.hid (HK1.out.step hb2)
    have HE2 := Lib.hid (HE1.out.below hb2)
    clear hb2 f0 f1 f2 q0 q1 q2 HK1 HE1 HOv
    obtain ⟨f0, f1, f2, q0, q1, q2⟩ := HK2.out.cells
    go_wp2_with fail
    refine (HPr.out _ HK2.out.rep.hold).mono ?_
    rintro e w3 ⟨rfl, hb3⟩
    have HK3 := Lib.hid (HK2.out.step hb3)
    have HE3 := Lib.hid (HE2.out.below hb3)
    clear hb3 f0 f1 f2 q0 q1 q2 HK2 HE2 HPr
    obtain ⟨f0, f1, f2, q0, q1, q2⟩ := HK3.out.cells
    go_wp2_with fail
    refine (HA.out _ HE3.out.weak).mono ?_
    rintro e w4 ⟨rfl, hb4⟩
    have HK4 := Lib.hid (HK3.out.step hb4)
    have HE4 := Lib.hid (HE3.out.below hb4)
    clear hb4 f0 f1 f2 q0 q1 q2
    go_wp2_with fail
    refine (HPa.out _ HE4.out).mono ?_
    rintro e w5 ⟨a5, c5, rfl, ho5, hb5⟩
    have hb5' := bstep hb5 (below_agg3 w5 (.int .i64 CC) (.slice a5 FL c5) (.string BB) 63)
    have HK5 := Lib.hid (HK4.out.step hb5')
    have HE5 := Lib.hid (HE4.out.below hb5')
    have HP5 := Lib.hid (heap_alloc_new w5 (.cells #[.int .i64 CC, .slice a5 FL c5, .string BB] 63))
    clear hb5 hb5' ho5
    go_wp2_with fail
    refine (HH.out _).mono ?_
    rintro e w6 ⟨a6, c6, rfl, hh6, hb6⟩
    have HK6 := Lib.hid (HK5.out.step hb6)
    have HE6 := Lib.hid (HE5.out.below hb6)
    have HP6 := Lib.hid ((hb6.block w5.heap.size (by simp)).trans HP5.out)
    clear hb6 hh6
    obtain ⟨f0, f1, f2, q0, q1, q2⟩ := HK6.out.cells
    obtain ⟨p0, p1, p2, -, -, -⟩ := three_facts HP6.out
    go_wp2_with fail
    refine (HPx.out _).mono ?_
    rintro e w7 ⟨rfl, rfl⟩
    go_wp2_with fail
    refine (awake28 _ HE6.out.weak).mono ?_
    rintro e w8 ⟨rfl, hb8⟩
    go_wp2_with fail
    go_ret
    exact ⟨rfl, bstep HK6.out.bel hb8⟩

end Go.Proofs.YtgnkmfjleecmfaaGreatDoor
namespace Go.Proofs.YtgnkmfjleecmfaaGreatDoor
open Go.RowKit
theorem tak_code (s : ByteArray) (most : Int) (h : takE s most = 0) : 100 ≤ takC s most ∧ takC s most ≤ 599 := by
  obtain ⟨h1, h2, h3, h4⟩ := tak_zero s most h
  obtain ⟨k1, k2, k3, k4, k5⟩ := hdE_zero _ h2
  have hC : takC s most = hdC (headOf s).1 := if_pos h
  rw [hC]
  exact code_status _ k2
theorem parseN_len (l : List UInt8) : (parseN l).length ≤ l.length := by
  unfold parseN
  split
  · unfold parseName; rw [List.length_map]; exact ahead_le l
  · exact Nat.zero_le _
theorem takF_small (s : ByteArray) (most : Int) : ∀ f ∈ takF s most, f.1.length ≤ 256 ∧ f.2.length ≤ 256 := by
  intro f hf
  unfold takF at hf
  split at hf
  · unfold restF at hf
    have hm := (List.mem_filter.1 hf).1
    unfold fldL at hm
    obtain ⟨x, hx, rfl⟩ := List.mem_map.1 hm
    have := (headOf_bound s).1 x (List.mem_of_mem_tail hx)
    exact ⟨Nat.le_trans (parseN_len x) this, Nat.le_trans (parseV_len x) this⟩
  · simp at hf
theorem same_none : sameR 0 0 [] [] [] [] = true := by decide +kernel
end Go.Proofs.YtgnkmfjleecmfaaGreatDoor
namespace Go.Proofs.YtgnkmfjleecmfaaGreatDoor
open Go.RowKit
section
variable {H : Type} {enc : TypeId × Value → H} {W : World}
theorem rint_at {fuel : Nat} {c : Value} {x : DataW H × List MemPlace} (h : DataW.trod enc Tryz.prog W 0 (fun _ => true) true fuel 3 [c] = some x) : ∃ n : Int, c = .int .i64 n ∧ (Lit.int .i64 n).wf = true := by
  obtain ⟨n, h1, h2, h3⟩ := DataW.trod_int Tryz.underlying3 h
  exact ⟨n, (List.cons.inj h1).1, h3⟩
theorem rstr_at {fuel : Nat} {c : Value} {x : DataW H × List MemPlace} (h : DataW.trod enc Tryz.prog W 0 (fun _ => true) true fuel 9 [c] = some x) : ∃ s : ByteArray, c = .string s ∧ s.size ≤ maxLen := by
  obtain ⟨n, h1, h2, h3⟩ := DataW.trod_string Tryz.underlying9 h
  exact ⟨n, (List.cons.inj h1).1, h3⟩
theorem rslice_at {fuel : Nat} {c : Value} {x : DataW H × List MemPlace} (h : DataW.trod enc Tryz.prog W 0 (fun _ => true) true fuel 33 [c] = some x) : ∃ b n cp fs, c = .slice b n cp ∧ FieldArg W (.slice b n cp) fs := by
  obtain ⟨b, n, cp, rfl⟩ : ∃ b n cp, c = .slice b n cp := by
    rcases Go.Deep.open_slice Tryz.underlying33 h with ⟨hcs, _⟩ | ⟨a, len, cap, m, q, D, Pl, hcs, _⟩
    · exact ⟨_, _, _, (List.cons.inj hcs).1⟩
    · exact ⟨_, _, _, (List.cons.inj hcs).1⟩
  obtain ⟨d, p⟩ := x
  obtain ⟨fs, hf⟩ := fieldArg_of (b := b) (n := n) (c := cp) (d := d) (p := p) ⟨fuel, by simpa [Value.cells] using h⟩
  exact ⟨b, n, cp, fs, rfl, hf⟩
def RepArg (W : World) (c : Int) (b : Option Addr) (n cp : Nat) (fs : List (List UInt8 × List UInt8)) (x : ByteArray) : Prop := (Lit.int .i64 c).wf = true ∧ FieldArg W (.slice b n cp) fs ∧ x.size ≤ maxLen
set_option maxRecDepth 100000 in
theorem rep_open {r : Reach} {b0 : Nat} {v : Value} {d : DataW H} {p : List MemPlace} (hv : Value.okWide Tryz.prog W r b0 35 v) (h : DataW.Trod enc Tryz.prog W 0 (fun _ => true) true 35 v d p) :
    ∃ (c : Int) (b : Option Addr) (n cp : Nat) (fs : List (List UInt8 × List UInt8)) (x : ByteArray), v = .agg #[.int .i64 c, .slice b n cp, .string x] ∧ RepArg W c b n cp fs x := by
  obtain ⟨cs, rfl, hsz⟩ := Go.WideShapes.okWide_struct Tryz.underlying35 hv
  obtain ⟨c0, c1, c2, rfl⟩ := Go.Joins.array3 (hsz.trans (show Tryz.prog.cellsOf 35 = 3 by kernel_rfl))
  obtain ⟨fuel, hf⟩ := h
  obtain ⟨y0, y1, y2, n, hx, hl, h0, h1, h2⟩ := Go.Deep.trod_struct3 Tryz.underlying35 hf
  rw [show Tryz.prog.cellsOf 3 = 1 by kernel_rfl] at h0
  rw [show Tryz.prog.cellsOf 33 = 1 by kernel_rfl] at h1
  rw [show Tryz.prog.cellsOf 9 = 1 by kernel_rfl] at h2
  obtain ⟨a0, rfl, k0⟩ := rint_at (by simpa [Value.cells] using h0)
  obtain ⟨b, m, cp, fs, rfl, k1⟩ := rslice_at (by simpa [Value.cells] using h1)
  obtain ⟨a2, rfl, k2⟩ := rstr_at (by simpa [Value.cells] using h2)
  exact ⟨a0, b, m, cp, fs, a2, rfl, k0, k1, k2⟩
end
end Go.Proofs.YtgnkmfjleecmfaaGreatDoor
namespace Go.Proofs.YtgnkmfjleecmfaaGreatDoor
open Go.RowKit
theorem faultKeeps_go (k n : Int) (t : ByteArray) (c : Int) (b : Option Addr) (m cp : Nat) (fs : List (List UInt8 × List UInt8)) (x : ByteArray) (W : World) (wk : (Lit.int .u8 k).wf = true) (wn : (Lit.int .i64 n).wf = true) (_ : t.size ≤ maxLen) (kr : RepArg W c b m cp fs x)
    (hL : laidMetH Tryz.prog Rows.faultKeepsRow.laid W) (hsh : W.ShapedOpen Tryz.prog) :
    Calls Tryz.prog 4 #[.agg #[.int .u8 k, .int .i64 n, .string t], .agg #[.int .i64 c, .slice b m cp, .string x]] W fun e W' => e = .returned (.bool true) ∧ Below W.heap.size W W' := by
  rw [MakeChecks.laidMetH_plain _ _ _ (by kernel_rfl)] at hL
  obtain ⟨q1, q2, q3⟩ := kr
  obtain ⟨b1, b2⟩ := bounds_i64 q1
  obtain ⟨b3, b4⟩ := bounds_u8 wk
  obtain ⟨b5, b6⟩ := bounds_i64 wn
  have l1 := q2.2.2
  unfold maxLen at l1
  have hE : EnvW W := env_ofW hL (by simp) hsh
  by_cases ht : (300 : Int) < (t.size : Int)
  · exact keeps_long k n t c _ fs x W hE q2.1 ht
  cases hov : overR fs x with
  | true => exact keeps_over k n t c _ fs x W hE q2.1 ht (by omega) hov
  | false =>
    by_cases he : repE c fs = 0
    · by_cases hk : k = 1 ∨ k = 2
      · exact keeps_cut k n t c _ fs x W hE q2.1 ht (by omega) (by omega) hov he hk (by omega) (by omega)
      · exact keeps_main k n t c _ fs x W hE q2.1 ht (by omega) (by omega) hov he b3 (fun e => hk (.inl e)) (fun e => hk (.inr e)) (by omega) (by omega)
    · exact keeps_not k n t c _ fs x W hE q2.1 ht (by omega) (by omega) hov he
end Go.Proofs.YtgnkmfjleecmfaaGreatDoor
namespace Go.Proofs.YtgnkmfjleecmfaaGreatDoor
open Go.RowKit
theorem faultBody_go (k n : Int) (t : ByteArray) (c : Int) (b : Option Addr) (m cp : Nat) (fs : List (List UInt8 × List UInt8)) (x : ByteArray) (most : Int) (W : World) (wk : (Lit.int .u8 k).wf = true) (wn : (Lit.int .i64 n).wf = true) (_ : t.size ≤ maxLen) (kr : RepArg W c b m cp fs x) (_ : (Lit.int .i64 most).wf = true)
    (hL : laidMetH Tryz.prog Rows.faultBodyRow.laid W) (hsh : W.ShapedOpen Tryz.prog) :
    Calls Tryz.prog 6 #[.agg #[.int .u8 k, .int .i64 n, .string t], .agg #[.int .i64 c, .slice b m cp, .string x], .int .i64 most] W fun e W' => e = .returned (.bool true) ∧ Below W.heap.size W W' := by
  rw [MakeChecks.laidMetH_plain _ _ _ (by kernel_rfl)] at hL
  obtain ⟨q1, q2, q3⟩ := kr
  obtain ⟨b1, b2⟩ := bounds_i64 q1
  obtain ⟨b3, b4⟩ := bounds_u8 wk
  obtain ⟨b5, b6⟩ := bounds_i64 wn
  have l1 := q2.2.2
  unfold maxLen at l1
  have hE : EnvF W := env_of hL (by simp) hsh
  by_cases ht : (300 : Int) < (t.size : Int)
  · exact body_long k n t c _ fs x most W hE q2.1 ht
  cases hov : overR fs x with
  | true => exact body_over k n t c _ fs x most W hE q2.1 ht (by omega) hov
  | false =>
    by_cases he : repE c fs = 0
    · exact body_main k n t c _ fs x most W hE q2.1 ht (by omega) (by omega) hov he b3 (by omega) (by omega)
    · exact body_not k n t c _ fs x most W hE q2.1 ht (by omega) (by omega) hov he
end Go.Proofs.YtgnkmfjleecmfaaGreatDoor
