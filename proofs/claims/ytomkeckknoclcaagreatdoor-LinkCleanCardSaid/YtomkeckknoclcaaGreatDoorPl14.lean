/- The small example of the laws of layer 29: the walk. What an argument that is a slice of the reference's fields reads as. What an argument that is a slice of ranges reads as. What an argument that is a slice of the document's faults reads as; Over of them. What Fork of package link does. What Ask of the reference of link returns. The law LinkClean. What the listed variables give. The law function LinkClean, as the row's proof takes it. -/
import Derived.Test.YtomkeckknoclcaaGreatDoorPl13
import Derived.Deep.RegionHeld3
import Derived.Deep.Slices
import Derived.Deep.Fields
import Derived.ChangeSame
import Derived.Test.YtomkeckknoclcaaGreatDoorRows
import Derived.OpenShut
import Derived.MakeChecks
import Derived.Stop.LaidErr
import Derived.PinnedBridge
import Derived.Lib.LaidU8T
import Derived.Lib.SmallJoins
import Derived.ChangeArms
import Derived.WideShapes
set_option linter.unusedVariables false
set_option linter.unusedSimpArgs false
namespace Go.Proofs.YtomkeckknoclcaaGreatDoor
open Go.RowKit
def x29 : Flt := (1, 0, ⟨#[]⟩)
theorem x29_ok : FltOk x29 := ⟨by decide, by decide, by decide, by decide⟩
theorem holds_one {w : World} {B : Nat} {x : Flt} (h : w.heap[B]? = some (.cells #[.int .u8 x.1, .int .i64 x.2.1, .string x.2.2] 53 (0, 0))) : HoldsC w (.slice (some ⟨B, 0, none⟩) 1 1) [x] := by
  obtain ⟨x0, x1, x2, -, -, -⟩ := three_facts h
  refine ⟨_, 1, rfl, Nat.le_refl _, fun _ => ⟨B, 0, rfl, (Array.getElem?_eq_some_iff.1 h).1, fun j hj => ?_⟩⟩
  obtain rfl : j = 0 := by simp at hj; omega
  exact ⟨x0, x1, x2⟩
theorem aw29_ask1 {w0 w : World} {P : Nat} {rv : Value} (X : ByteArray) (hX : X = ⟨#[120]⟩) (hE : EnvF w0) (k : KL w0 w P ⟨#[104]⟩ ⟨#[47]⟩ ⟨#[]⟩ [x29] [] 0 rv (.slice none 0 0)) :
    Calls Tryz.prog 15 #[.pointer (some ⟨P, 0, none⟩), .string X] w fun e w' => e = .returned (.string ⟨#[]⟩) ∧ ∃ rv' lv', KL w0 w' P ⟨#[104]⟩ ⟨#[47]⟩ ⟨#[]⟩ [] [((1 : Int), (0 : Int), true)] 1 rv' lv' := by
  subst hX
  refine (k.ask hE ⟨#[120]⟩ (by decide) (by decide) x29_ok (by decide) (by decide) (by decide)).mono ?_
  rintro e w' ⟨rfl, rv', lv', k', -, -⟩
  rw [show ([x29] : List Flt).headD noF = (1, 0, ⟨#[]⟩) from rfl] at k' ⊢
  unfold evK at k'
  rw [aw29_1, aw29_2] at k'
  rw [aw29_1]
  exact ⟨rfl, rv', lv', k'⟩
theorem aw29_ask2 {w0 w : World} {P : Nat} {rv lv : Value} (X S : ByteArray) (hX : X = ⟨#[120]⟩) (hS : wholeK ⟨#[104]⟩ ⟨#[47]⟩ ⟨#[]⟩ ⟨#[120]⟩ = S) (hE : EnvF w0) (k : KL w0 w P ⟨#[104]⟩ ⟨#[47]⟩ ⟨#[]⟩ [] [((1 : Int), (0 : Int), true)] 1 rv lv) :
    Calls Tryz.prog 15 #[.pointer (some ⟨P, 0, none⟩), .string X] w fun e w' => e = .returned (.string S) ∧ ∃ rv' lv', KL w0 w' P ⟨#[104]⟩ ⟨#[47]⟩ ⟨#[]⟩ [] [((1 : Int), (0 : Int), true), ((1 : Int), (S.size : Int), false)] 1 rv' lv' := by
  subst hX
  refine (k.ask hE ⟨#[120]⟩ (by decide) (by decide) noF_ok (by decide) (by decide) (by decide)).mono ?_
  rintro e w' ⟨rfl, rv', lv', k', -, -⟩
  rw [show ([] : List Flt).headD noF = noF from rfl] at k' ⊢
  unfold evK at k'
  rw [got_none, hurt_none, hS] at k'
  rw [got_none, hS]
  exact ⟨rfl, rv', lv', k'⟩
set_option maxRecDepth 100000 in
set_option maxHeartbeats 4000000 in
theorem awake29 (w : World) (hE : EnvF w) : Calls Tryz.prog 10 #[] w fun e w' => e = .returned (.bool true) ∧ Below w.heap.size w w' := by
  have HE := Lib.hid hE
  have hB0 : Below w.heap.size w (w.alloc (.cells #[.int .u8 1, .int .i64 0, .string ⟨#[]⟩] 53)) := (Below.refl _ _).alloc (Nat.le_refl _) _
  have HB0 := Lib.hid hB0
  have HN := Lib.hid (link_new ⟨#[104]⟩ ⟨#[47]⟩ ⟨#[]⟩ (.slice (some ⟨w.heap.size, 0, none⟩) 1 1) [x29] (w.alloc (.cells #[.int .u8 1, .int .i64 0, .string ⟨#[]⟩] 53)) (show orgE [104] [47] = 0 from aw29_e) (holds_one (x := x29) (heap_alloc_new w _)) (by decide))
  have HZ := Lib.hid (fun w => link_new_bad ⟨#[]⟩ ⟨#[]⟩ ⟨#[]⟩ (.slice none 0 0) w (show orgE [] [] ≠ 0 by decide))
  have hW := aw29_w
  obtain ⟨S, hS⟩ : ∃ S, wholeK ⟨#[104]⟩ ⟨#[47]⟩ ⟨#[]⟩ ⟨#[120]⟩ = S := ⟨_, rfl⟩
  rw [hS] at hW
  have HSS := Lib.hid hS
  obtain ⟨q1, q2⟩ := size_ne hW
  have e1 := eq_levt 1 0 true
  have e2 := eq_levt 1 (S.size : Int) false
  have hgd := guard_levt
  clear hE hB0 hW hS
  go_enter Tryz.func10, Tryz.ntmps10
  go_wp2_with fail
  refine HN.out.mono ?_
  rintro e w1 hnew
  obtain ⟨P, rv, rfl, hP, hk1, hb1⟩ := KL.new HB0.out hnew
  have HK1 := Lib.hid hk1
  clear hnew hP hk1 hb1 HN
  go_wp2_with fail
  refine (aw29_ask1 _ (by rfl) HE.out HK1.out).mono ?_
  rintro e w2 ⟨rfl, rv2, lv2, hk2⟩
  have HK2 := Lib.hid hk2
  clear hk2 HK1
  go_wp2_with fail
  refine (aw29_ask2 _ S (by rfl) HSS.out HE.out HK2.out).mono ?_
  rintro e w3 ⟨rfl, rv3, lv3, hk3⟩
  have HK3 := Lib.hid hk3
  clear hk3 HK2
  go_wp2_with fail
  refine (link_log HK3.out.a (by simp)).mono ?_
  rintro e w4 ⟨a4, c4, rfl, ho4, hb4⟩
  have HK4 := Lib.hid (HK3.out.step hb4)
  have HO4 := Lib.hid ho4
  clear ho4 hb4 HK3
  go_wp2_with fail
  refine (HZ.out _).mono ?_
  rintro e w5 ⟨rfl, hb5⟩
  have HK5 := Lib.hid (HK4.out.step hb5)
  have ho5 := own_of_block HO4.out (fun g hg => hb5.block g (HO4.out.lt g hg).2)
  obtain ⟨g, c, hv, -, -, z0, z1, z2⟩ := own_cells3 ho5 0 (by simp)
  injection hv with e1' e2' e3'
  subst e1' e3'
  obtain ⟨g', c', hv, -, -, z3, z4, z5⟩ := own_cells3 ho5 1 (by simp)
  injection hv with e1' e2' e3'
  injection e1' with e1'
  injection e1' with e1'
  subst e1'
  clear hb5 HO4 HK4 ho5 HZ e2' e3'
  go_wp2_with fail
  refine (link_left HK5.out.a).mono ?_
  rintro e w' ⟨rfl, hww⟩
  obtain rfl := hww.symm
  clear hww
  go_wp2_with fail
  refine (link_harms HK5.out.a).mono ?_
  rintro e w' ⟨rfl, hww⟩
  obtain rfl := hww.symm
  clear hww
  go_wp2_with fail
  go_ret
  exact ⟨rfl, HK5.out.bel⟩
end Go.Proofs.YtomkeckknoclcaaGreatDoor
namespace Go.Proofs.YtomkeckknoclcaaGreatDoor
open Go.RowKit

def FieldArg (W : World) (v : Value) (fs : List (List UInt8 × List UInt8)) : Prop := HoldsF W v fs ∧ (∀ f ∈ fs, f.1.length ≤ maxLen ∧ f.2.length ≤ maxLen) ∧ fs.length ≤ maxLen
theorem len_two {α : Type} {l : List α} (h : l.length = 2) : ∃ a b, l = [a, b] := by
  cases l with
  | nil => simp at h
  | cons a t => cases t with
    | nil => simp at h
    | cons b u => cases u with
      | nil => exact ⟨a, b, rfl⟩
      | cons c v => simp at h
theorem string_cell {H : Type} {enc : TypeId × Value → H} {W : World} {n : Nat} {cs : List Value} {x : DataW H × List MemPlace} (h : DataW.trod enc Tryz.prog W 0 (fun _ => true) true n 9 cs = some x) : ∃ l : List UInt8, cs = [.string (bs l)] ∧ l.length ≤ maxLen := by
  obtain ⟨s, hs, _, hm⟩ := DataW.trod_string Tryz.underlying9 h
  exact ⟨s.data.toList, by rw [hs, bs_self], by rw [size_len]; exact hm⟩
set_option maxRecDepth 10000 in
theorem fieldArg_of {H : Type} {enc : TypeId × Value → H} {W : World} {b : Option Addr} {n c : Nat} {d : DataW H} {p : List MemPlace}
    (h : DataW.Trod enc Tryz.prog W 0 (fun _ => true) true 93 (.slice b n c) d p) : ∃ fs, FieldArg W (.slice b n c) fs := by
  obtain ⟨fuel, hf⟩ := h
  rcases Go.Deep.open_slice Tryz.underlying93 hf with ⟨hcs, _⟩ | ⟨a, len, cap, m, q, D, Pl, hcs, _, hl, hm, hmm, _, hi⟩
  · simp [Value.cells] at hcs
    obtain ⟨rfl, rfl, rfl⟩ := hcs
    exact ⟨[], HoldsF.nil W none 0, fun f hf => by simp at hf, by unfold maxLen; simp⟩
  · simp [Value.cells] at hcs
    obtain ⟨rfl, rfl, rfl⟩ := hcs
    have hC : Tryz.prog.cellsOf 102 = 2 := by kernel_rfl
    have hS : Tryz.prog.cellsOf 9 = 1 := by kernel_rfl
    have key : ∀ i, ∃ f : List UInt8 × List UInt8, i < n → W.cell? (a.add (i * 2)) = some (.string (bs f.1)) ∧ W.cell? (a.add (i * 2 + 1)) = some (.string (bs f.2)) ∧ f.1.length ≤ maxLen ∧ f.2.length ≤ maxLen := by
      intro i
      by_cases hin : i < n
      · obtain ⟨cs', hc', ht⟩ := hi i (by rw [hmm]; simp; omega)
        rw [hC] at hc'
        obtain ⟨_, hcl, hcell⟩ := World.cells?_some hc'
        obtain ⟨xs, k, _, _, hcl2, hxl, hg⟩ := DataW.trod_struct Tryz.underlying102 ht
        obtain ⟨u0, u1, rfl⟩ := len_two hcl
        have hxl2 : xs.length = 2 := hxl
        obtain ⟨z0, z1, rfl⟩ := len_two hxl2
        have g0 : DataW.trod enc Tryz.prog W 0 (fun _ => true) true k 9 (([u0, u1].drop 0).take (Tryz.prog.cellsOf 9)) = some z0 := hg 0 _ rfl
        have g1 : DataW.trod enc Tryz.prog W 0 (fun _ => true) true k 9 (([u0, u1].drop 1).take (Tryz.prog.cellsOf 9)) = some z1 := hg 1 _ rfl
        rw [hS] at g0 g1
        obtain ⟨l0, e0, b0⟩ := string_cell g0
        obtain ⟨l1, e1, b1⟩ := string_cell g1
        have c0 := hcell 0 (by omega)
        have c1 := hcell 1 (by omega)
        rw [Go.Deep.add_add] at c0 c1
        simp at e0 e1 c0 c1
        subst e0 e1
        exact ⟨(l0, l1), fun _ => ⟨c0, c1, b0, b1⟩⟩
      · exact ⟨([], []), fun h => absurd h hin⟩
    obtain ⟨g, hg⟩ := Classical.skolem.1 key
    have hlen : ((List.range n).map g).length = n := by simp
    refine ⟨(List.range n).map g, ⟨some a, c, by rw [hlen], by rw [hlen]; exact hl, fun hne => ?_⟩, ?_, by rw [hlen]; omega⟩
    · have hpos : 0 < n := by
        rcases Nat.eq_zero_or_pos n with h0 | h0
        · subst h0; simp at hne
        · exact h0
      have h0 := (hg 0 hpos).1
      obtain ⟨b, o, sp⟩ := a
      have hsp : sp = none := by simpa [Addr.add] using World.cell?_spot h0
      subst hsp
      have ea : ∀ k, (⟨b, o, none⟩ : Addr).add k = ⟨b, o + k, none⟩ := fun k => by unfold Addr.add; split <;> simp_all
      refine ⟨b, o, rfl, by have := World.block_lt_of_cell? _ _ h0; simpa [Addr.add] using this, fun j hj => ?_⟩
      rw [hlen] at hj
      have hj2 := hg j hj
      rw [ea, ea] at hj2
      rw [List.getElem_map, List.getElem_range]
      exact ⟨hj2.1, hj2.2.1⟩
    · intro f hf
      obtain ⟨i, hi', rfl⟩ := List.mem_map.1 hf
      exact (hg i (List.mem_range.1 hi')).2.2
end Go.Proofs.YtomkeckknoclcaaGreatDoor
namespace Go.Proofs.YtomkeckknoclcaaGreatDoor
open Go.RowKit
def HoldsR (w : World) (v : Value) (rs : List (Int × Int)) : Prop :=
  ∃ a c, v = .slice a rs.length c ∧ rs.length ≤ c ∧ (rs ≠ [] → ∃ b o, a = some ⟨b, o, none⟩ ∧ b < w.heap.size ∧ ∀ j (hj : j < rs.length), w.cell? ⟨b, o + j * 2, none⟩ = some (.int .i64 rs[j].1) ∧ w.cell? ⟨b, o + j * 2 + 1, none⟩ = some (.int .i64 rs[j].2))
theorem HoldsR.nil (w : World) (a : Option Addr) (c : Nat) : HoldsR w (.slice a 0 c) [] := ⟨a, c, rfl, Nat.zero_le _, fun h => absurd rfl h⟩
def RangesArg (W : World) (v : Value) (rs : List (Int × Int)) : Prop := HoldsR W v rs ∧ (∀ r ∈ rs, (Lit.int .i64 r.1).wf = true ∧ (Lit.int .i64 r.2).wf = true) ∧ rs.length ≤ maxLen
theorem int_cell {H : Type} {enc : TypeId × Value → H} {W : World} {n : Nat} {cs : List Value} {x : DataW H × List MemPlace} (h : DataW.trod enc Tryz.prog W 0 (fun _ => true) true n 3 cs = some x) : ∃ k : Int, cs = [.int .i64 k] ∧ (Lit.int .i64 k).wf = true := by
  obtain ⟨k, h1, h2, h3⟩ := DataW.trod_int Tryz.underlying3 h
  exact ⟨k, h1, h3⟩
end Go.Proofs.YtomkeckknoclcaaGreatDoor
namespace Go.Proofs.YtomkeckknoclcaaGreatDoor
open Go.RowKit
/-- the slice v reads as the faults l, each within the bounds of its type -/
def FaultsArg (W : World) (v : Value) (l : List Flt) : Prop := HoldsC W v l ∧ (∀ x ∈ l, (Lit.int .u8 x.1).wf = true ∧ (Lit.int .i64 x.2.1).wf = true) ∧ l.length ≤ maxLen
theorem u8_cell {H : Type} {enc : TypeId × Value → H} {W : World} {n : Nat} {cs : List Value} {x : DataW H × List MemPlace} (h : DataW.trod enc Tryz.prog W 0 (fun _ => true) true n 5 cs = some x) : ∃ k : Int, cs = [.int .u8 k] ∧ (Lit.int .u8 k).wf = true := by
  obtain ⟨k, h1, h2, h3⟩ := DataW.trod_int Tryz.underlying5 h
  exact ⟨k, h1, h3⟩
theorem str_cell {H : Type} {enc : TypeId × Value → H} {W : World} {n : Nat} {cs : List Value} {x : DataW H × List MemPlace} (h : DataW.trod enc Tryz.prog W 0 (fun _ => true) true n 9 cs = some x) : ∃ s : ByteArray, cs = [.string s] ∧ s.size ≤ maxLen := by
  obtain ⟨k, h1, h2, h3⟩ := DataW.trod_string Tryz.underlying9 h
  exact ⟨k, h1, h3⟩
theorem len_3 {α : Type} {l : List α} (h : l.length = 3) : ∃ a b c, l = [a, b, c] := by
  match l, h with
  | [a, b, c], _ => exact ⟨a, b, c, rfl⟩
set_option maxRecDepth 10000 in
theorem faultsArg_of {H : Type} {enc : TypeId × Value → H} {W : World} {b : Option Addr} {n c : Nat} {d : DataW H} {p : List MemPlace}
    (h : DataW.Trod enc Tryz.prog W 0 (fun _ => true) true 24 (.slice b n c) d p) : ∃ fs, FaultsArg W (.slice b n c) fs := by
  obtain ⟨fuel, hf⟩ := h
  rcases Go.Deep.open_slice Tryz.underlying24 hf with ⟨hcs, _⟩ | ⟨a, len, cap, m, q, D, Pl, hcs, _, hl, hm, hmm, _, hi⟩
  · simp [Value.cells] at hcs
    obtain ⟨rfl, rfl, rfl⟩ := hcs
    exact ⟨[], HoldsC.empty W none 0, fun f hf => by simp at hf, by unfold maxLen; simp⟩
  · simp [Value.cells] at hcs
    obtain ⟨rfl, rfl, rfl⟩ := hcs
    have hC : Tryz.prog.cellsOf 54 = 3 := by kernel_rfl
    have hS0 : Tryz.prog.cellsOf 5 = 1 := by kernel_rfl
    have hS1 : Tryz.prog.cellsOf 3 = 1 := by kernel_rfl
    have hS2 : Tryz.prog.cellsOf 9 = 1 := by kernel_rfl
    have key : ∀ i, ∃ f : Flt, i < n → W.cell? (a.add (i * 3)) = some (.int .u8 f.1) ∧ W.cell? (a.add (i * 3 + 1)) = some (.int .i64 f.2.1) ∧ W.cell? (a.add (i * 3 + 2)) = some (.string f.2.2) ∧ (Lit.int .u8 f.1).wf = true ∧ (Lit.int .i64 f.2.1).wf = true := by
      intro i
      by_cases hin : i < n
      · obtain ⟨cs', hc', ht⟩ := hi i (by rw [hmm]; simp; omega)
        rw [hC] at hc'
        obtain ⟨_, hcl, hcell⟩ := World.cells?_some hc'
        obtain ⟨xs, k, _, _, hcl2, hxl, hg⟩ := DataW.trod_struct Tryz.underlying54 ht
        obtain ⟨u0, u1, u2, rfl⟩ := len_3 hcl
        have hxl2 : xs.length = 3 := hxl
        obtain ⟨z0, z1, z2, rfl⟩ := len_3 hxl2
        have g0 : DataW.trod enc Tryz.prog W 0 (fun _ => true) true k 5 (([u0, u1, u2].drop 0).take (Tryz.prog.cellsOf 5)) = some z0 := hg 0 _ rfl
        have g1 : DataW.trod enc Tryz.prog W 0 (fun _ => true) true k 3 (([u0, u1, u2].drop 1).take (Tryz.prog.cellsOf 3)) = some z1 := hg 1 _ rfl
        have g2 : DataW.trod enc Tryz.prog W 0 (fun _ => true) true k 9 (([u0, u1, u2].drop 2).take (Tryz.prog.cellsOf 9)) = some z2 := hg 2 _ rfl
        rw [hS0] at g0
        rw [hS1] at g1
        rw [hS2] at g2
        obtain ⟨l0, e0, b0⟩ := u8_cell g0
        obtain ⟨l1, e1, b1⟩ := int_cell g1
        obtain ⟨l2, e2, b2⟩ := str_cell g2
        have c0 := hcell 0 (by omega)
        have c1 := hcell 1 (by omega)
        have c2 := hcell 2 (by omega)
        rw [Go.Deep.add_add] at c0 c1 c2
        simp at e0 e1 e2 c0 c1 c2
        subst e0 e1 e2
        exact ⟨(l0, l1, l2), fun _ => ⟨c0, c1, c2, b0, b1⟩⟩
      · exact ⟨(0, 0, ⟨#[]⟩), fun h => absurd h hin⟩
    obtain ⟨g, hg⟩ := Classical.skolem.1 key
    have hlen : ((List.range n).map g).length = n := by simp
    refine ⟨(List.range n).map g, ⟨some a, c, by rw [hlen], by rw [hlen]; exact hl, fun hne => ?_⟩, ?_, by rw [hlen]; omega⟩
    · have hpos : 0 < n := by
        rcases Nat.eq_zero_or_pos n with h0 | h0
        · subst h0; simp at hne
        · exact h0
      have h0 := (hg 0 hpos).1
      obtain ⟨b, o, sp⟩ := a
      have hsp : sp = none := by simpa [Addr.add] using World.cell?_spot h0
      subst hsp
      have ea : ∀ k, (⟨b, o, none⟩ : Addr).add k = ⟨b, o + k, none⟩ := fun k => by unfold Addr.add; split <;> simp_all
      refine ⟨b, o, rfl, by have := World.block_lt_of_cell? _ _ h0; simpa [Addr.add] using this, fun j hj => ?_⟩
      rw [hlen] at hj
      have hj2 := hg j hj
      rw [ea, ea, ea, Nat.mul_comm j 3] at hj2
      rw [List.getElem_map, List.getElem_range]
      exact ⟨hj2.1, hj2.2.1, hj2.2.2.1⟩
    · intro f hf
      obtain ⟨i, hi', rfl⟩ := List.mem_map.1 hf
      exact (hg i (List.mem_range.1 hi')).2.2.2
def overC (l : List Flt) (most : Nat) : Bool := l.any (fun x => decide (300 < x.2.2.size)) || decide (most < l.length)
theorem overC_ok {l : List Flt} {most : Nat} (h : overC l most = false) : l.length ≤ most ∧ ∀ x ∈ l, x.2.2.size ≤ 300 := by
  unfold overC at h
  rw [Bool.or_eq_false_iff, decide_eq_false_iff_not, List.any_eq_false] at h
  exact ⟨by omega, fun x hx => by have := h.1 x hx; simpa using this⟩
set_option maxRecDepth 100000 in
set_option maxHeartbeats 1000000 in
theorem over28s (v : Value) (l : List Flt) (N : Nat) (w : World) (hN : N ≤ 100000) (hv : HoldsC w v l) (hl : l.length ≤ maxLen) :
    Calls Tryz.prog 8 #[v, .int .i64 (N : Nat)] w fun e w' => e = .returned (.bool (overC l N)) ∧ w' = w := by
  obtain ⟨a, c, rfl, hc, hx⟩ := hv
  unfold maxLen at hl
  have HX := Lib.hid hx
  have HT : Hid (∀ k (hk : k < l.length), 300 < l[k].2.2.size → overC l N = true) := Lib.hid (fun k hk h => by unfold overC; rw [List.any_eq_true.2 ⟨l[k], List.getElem_mem hk, decide_eq_true h⟩]; rfl)
  have HE : Hid ((∀ k (hk : k < l.length), ¬ 300 < l[k].2.2.size) → overC l N = decide (N < l.length)) := Lib.hid (fun h => by
    unfold overC
    rw [List.any_eq_false.2 (fun x hx => by obtain ⟨j, hj, rfl⟩ := List.getElem_of_mem hx; have := h j hj; simpa using this), Bool.false_or])
  clear hx
  generalize overC l N = B at HT HE ⊢
  go_enter Tryz.func8, Tryz.ntmps8
  go_wp2_with fail
  go_loop [5] (fun i => ∃ k : Nat, k ≤ l.length ∧ i = .int .i64 k ∧ Hid (∀ j (hj : j < l.length), j < k → ¬ 300 < l[j].2.2.size)) (fun i => l.length - (intOf i).toNat)
  case atStart => exact ⟨0, by omega, rfl, Lib.hid (fun j hj h => absurd h (Nat.not_lt_zero _))⟩
  case round =>
    obtain ⟨k, hk, rfl, HK⟩ := hrel
    by_cases hlt : k < l.length
    · obtain ⟨b, o, rfl, hbl, hcell⟩ := HX.out (fun e => by rw [e] at hlt; exact absurd hlt (Nat.not_lt_zero _))
      obtain ⟨-, -, c2⟩ := hcell k hlt
      rw [Nat.mul_comm 3 k] at c2
      have hT := Lib.hid (HT.out k hlt)
      have HK1 : ¬ 300 < l[k].2.2.size → Hid (∀ j (hj : j < l.length), j < k + 1 → ¬ 300 < l[j].2.2.size) := fun h => Lib.hid (fun j hj hjk => by
        by_cases e : j = k
        · subst e; exact h
        · exact HK.out j hj (by omega))
      clear hcell HX HT HK
      generalize l[k].2.2 = X at c2 hT HK1
      by_cases hbig : 300 < X.size
      · have t1 : decide ((X.size : Int) > 300) = true := decide_eq_true (by omega)
        have HB := Lib.hid (hT.out hbig)
        clear hT HK1
        go_wp2_with fail
        go_ret
        exact ⟨by rw [HB.out]; rfl, rfl⟩
      · have t1 : decide ((X.size : Int) > 300) = false := decide_eq_false (by omega)
        have HK2 := HK1 hbig
        clear hT HK1
        go_wp2_with fail
        go_round
        case rel => exact ⟨k + 1, by omega, by go_num, HK2⟩
        case measure => simp [intOf]; omega
    · obtain rfl : k = l.length := by omega
      have HB := Lib.hid (HE.out (fun j hj => HK.out j hj hj))
      clear HE HT HX HK
      go_wp2_with fail
      go_ret
      exact ⟨by rw [HB.out]; rfl, rfl⟩
end Go.Proofs.YtomkeckknoclcaaGreatDoor
namespace Go.Proofs.YtomkeckknoclcaaGreatDoor
open Go.RowKit
/-- what stands behind the blocks of a fork, and what the copies make of it -/
def ForkMid (w W0 : World) (P r e b : Nat) (h p f : ByteArray) (rest : List Flt) (log : List Evt) (n : Nat) (ar al : Option Addr) (cr cl : Nat) : Prop :=
  ∃ W1 W2, (∀ ty, (Builtin.copy_ #[35, 35] ty #[.slice (some ⟨r, 0, none⟩) rest.length rest.length, .slice ar rest.length cr]).run Tryz.prog W0.drew = .ok (.int .i64 rest.length) W1) ∧
    (∀ ty, (Builtin.copy_ #[47, 47] ty #[.slice (some ⟨e, 0, none⟩) log.length log.length, .slice al log.length cl]).run Tryz.prog W1.drew = .ok (.int .i64 log.length) W2) ∧
    W0.cell? ⟨b, 3, none⟩ = some (.slice (some ⟨r, 0, none⟩) rest.length rest.length) ∧ W0.cell? ⟨P, 3, none⟩ = some (.slice ar rest.length cr) ∧ W1.cell? ⟨b, 4, none⟩ = some (.slice (some ⟨e, 0, none⟩) log.length log.length) ∧ W1.cell? ⟨P, 4, none⟩ = some (.slice al log.length cl) ∧
    ForkPost w h p f rest log n (.returned (.pointer (some ⟨b, 0, none⟩))) W2
theorem fork_mid {w : World} {P B : Nat} {h p f : ByteArray} {rest : List Flt} {log : List Evt} {n : Nat} {ar al : Option Addr} {cr cl : Nat} (k : LAt w P B h p f rest log n (.slice ar rest.length cr) (.slice al log.length cl)) (hrl : rest.length ≤ 1000000) (hll : log.length ≤ 1000000)
    (W0 : World) (r e b : Nat) (F0 : W0.heap[r]? = some (.cells (zflt rest.length) 53 (0, 0))) (F1 : W0.heap[e]? = some (.cells (zevt log.length) 56 (0, 0)))
    (F2 : W0.heap[b]? = some (.cells #[.string h, .string p, .string f, .slice (some ⟨r, 0, none⟩) rest.length rest.length, .slice (some ⟨e, 0, none⟩) log.length log.length, .int .i64 (n : Int)] 63 (0, 0)))
    (hr : w.heap.size ≤ r) (he : w.heap.size ≤ e) (hb : w.heap.size ≤ b) (hre : r ≠ e) (hrb : r ≠ b) (heb : e ≠ b) (F4 : Below w.heap.size w W0) : ForkMid w W0 P r e b h p f rest log n ar al cr cl := by
  have k0 := k.below F4
  obtain ⟨W1, hcp1, ho1, ht1⟩ := copy_holds (P := Tryz.prog) 35 35 53 Tryz.underlying35 size_flt (W := W0.drew) F0 (zflt_size _) (k.below F4.drew).hold hrl
  have ht1 : Touch (fun g => g = r) W0 W1 := ⟨ht1.os, ht1.tape, ht1.output, ht1.size, ht1.block⟩
  have hPs := k.lt
  have k1 : LAt W1 P B h p f rest log n (.slice ar rest.length cr) (.slice al log.length cl) := k0.touch ht1 (by show ¬ (P = r); omega) (fun g hg => by have := k.rlt g hg; show ¬ (g = r); omega) (fun g hg => by have := (k.own.lt g hg).2; show ¬ (g = r); omega)
  have G1 : W1.heap[e]? = _ := (ht1.block _ (Array.getElem?_eq_some_iff.1 F1).1 (fun h => hre h.symm)).trans F1
  have G2 : W1.heap[b]? = _ := (ht1.block _ (Array.getElem?_eq_some_iff.1 F2).1 (fun h => hrb h.symm)).trans F2
  obtain ⟨W2, hcp2, ho2, ht2⟩ := copy_evs (P := Tryz.prog) 47 47 56 Tryz.underlying47 size_evt (W := W1.drew) G1 (zevt_size _) (k1.below (Below.refl _ _).drew).own hll
  have ht2 : Touch (fun g => g = e) W1 W2 := ⟨ht2.os, ht2.tape, ht2.output, ht2.size, ht2.block⟩
  have H2 : W2.heap[b]? = _ := (ht2.block _ (Array.getElem?_eq_some_iff.1 G2).1 (fun h => heb h.symm)).trans G2
  have ho3 := own_kept ho1 ht2 (fun g hg => by have e1 : some r = some g := hg; injection e1 with e1; intro e2; have e3 : g = e := e2; omega)
  refine ⟨W1, W2, hcp1, hcp2, (six_facts F2).1.2.2.2.1, k0.cells.1.2.2.2.1, (six_facts G2).1.2.2.2.2.1, k1.cells.1.2.2.2.2.1, b, _, _, rfl, hb, ⟨H2, HoldsC.of_own ho3, fun g hg => (own_ablk ho3 g hg).2, own_lowerF ho2 he⟩, fun g hg => by have e1 : some r = some g := hg; injection e1 with e1; omega,
    (F4.trans (ht1.below (fun g hg => by rw [show g = r from hg]; exact hr) F4.size)).trans (ht2.below (fun g hg => by rw [show g = e from hg]; exact he) (Nat.le_trans F4.size ht1.size))⟩
theorem alloc3_facts (w : World) (x y z : Obj) : (((w.alloc x).alloc y).alloc z).heap[w.heap.size]? = some x ∧ (((w.alloc x).alloc y).alloc z).heap[w.heap.size + 1]? = some y ∧ (((w.alloc x).alloc y).alloc z).heap[w.heap.size + 1 + 1]? = some z ∧ Below w.heap.size w (((w.alloc x).alloc y).alloc z) := by
  have h1 := heap_alloc_new w x
  have h2 := heap_alloc_new (w.alloc x) y
  have h3 := heap_alloc_new ((w.alloc x).alloc y) z
  have b2 : Below (w.alloc x).heap.size (w.alloc x) ((w.alloc x).alloc y) := (Below.refl _ _).alloc (Nat.le_refl _) _
  have b3 : Below ((w.alloc x).alloc y).heap.size ((w.alloc x).alloc y) (((w.alloc x).alloc y).alloc z) := (Below.refl _ _).alloc (Nat.le_refl _) _
  have s1 : (w.alloc x).heap.size = w.heap.size + 1 := by simp
  have s2 : ((w.alloc x).alloc y).heap.size = w.heap.size + 1 + 1 := by simp
  rw [s1] at h2
  rw [s2] at h3
  refine ⟨?_, ?_, h3, bstep (bstep ((Below.refl _ _).alloc (Nat.le_refl _) _) b2) b3⟩
  · exact (b3.block _ (by rw [s2]; omega)).trans ((b2.block _ (by rw [s1]; omega)).trans h1)
  · exact (b3.block _ (by rw [s2]; omega)).trans h2
set_option maxRecDepth 100000 in
set_option maxHeartbeats 8000000 in
theorem link_fork {w : World} {P B : Nat} {h p f : ByteArray} {rest : List Flt} {log : List Evt} {n : Nat} {rv lv : Value} (k : LAt w P B h p f rest log n rv lv) (hrl : rest.length ≤ 1000000) (hll : log.length ≤ 1000000) :
    Calls Tryz.prog 25 #[.pointer (some ⟨P, 0, none⟩)] w (ForkPost w h p f rest log n) := by
  obtain ⟨ar, cr, hrv, -⟩ := k.hold.len
  obtain ⟨al, cl, hlv⟩ := slice_of_own k.own
  subst hrv hlv
  obtain ⟨⟨c0, c1, c2, c3, c4, c5⟩, -⟩ := k.cells
  have hm1 := make_flts rest.length hrl
  have hm2 := make_evts log.length hll
  have HS : Hid (∀ W, Below w.heap.size w W → W.cell? ⟨P, 0, none⟩ = some (.string h) ∧ W.cell? ⟨P, 1, none⟩ = some (.string p) ∧ W.cell? ⟨P, 2, none⟩ = some (.string f) ∧ W.cell? ⟨P, 3, none⟩ = some (.slice ar rest.length cr) ∧ W.cell? ⟨P, 4, none⟩ = some (.slice al log.length cl) ∧ W.cell? ⟨P, 5, none⟩ = some (.int .i64 (n : Int))) := Lib.hid (fun W hW => (k.below hW).cells.1)
  have HD : Hid (Below w.heap.size w w.drew) := Lib.hid (Below.refl _ _).drew
  have HM := Lib.hid (fun W0 r e b => fork_mid k hrl hll W0 r e b)
  have HA := Lib.hid (alloc3_facts w)
  clear k hrl hll
  go_enter Tryz.func25, Tryz.ntmps25
  go_wp2_with fail
  go_region_held3 (fun w' => w'.cell? ⟨P, 0, none⟩ = some (.string h) ∧ w'.cell? ⟨P, 1, none⟩ = some (.string p) ∧ w'.cell? ⟨P, 2, none⟩ = some (.string f) ∧ w'.cell? ⟨P, 3, none⟩ = some (.slice ar rest.length cr) ∧ w'.cell? ⟨P, 4, none⟩ = some (.slice al log.length cl) ∧ w'.cell? ⟨P, 5, none⟩ = some (.int .i64 (n : Int))) (first | exact HS.out _ HD.out | exact HS.out _ (HD.out.alloc HD.out.size _) | exact HS.out _ ((HD.out.alloc HD.out.size _).alloc (Nat.le_trans HD.out.size (by simp)) _) | exact HS.out _ (HA.out _ _ _).2.2.2.drew) (fail)
  · have HF := Lib.hid (HA.out (.cells (zflt rest.length) 53) (.cells (zevt log.length) 56) (.cells #[.string h, .string p, .string f, .slice (some ⟨w.heap.size, 0, none⟩) rest.length rest.length, .slice (some ⟨w.heap.size + 1, 0, none⟩) log.length log.length, .int .i64 (n : Int)] 63))
    obtain ⟨W1, W2, hcp1, hcp2, d3, e3, d4, e4, hR⟩ := HM.out ((((w.alloc (.cells (zflt rest.length) 53)).alloc (.cells (zevt log.length) 56)).alloc (.cells #[.string h, .string p, .string f, .slice (some ⟨w.heap.size, 0, none⟩) rest.length rest.length, .slice (some ⟨w.heap.size + 1, 0, none⟩) log.length log.length, .int .i64 (n : Int)] 63)).drew) w.heap.size (w.heap.size + 1) (w.heap.size + 1 + 1) HF.out.1 HF.out.2.1 HF.out.2.2.1 (by omega) (by omega) (by omega) (by omega) (by omega) (by omega) HF.out.2.2.2.drew
    have HR := Lib.hid hR
    generalize ((((w.alloc (.cells (zflt rest.length) 53)).alloc (.cells (zevt log.length) 56)).alloc (.cells #[.string h, .string p, .string f, .slice (some ⟨w.heap.size, 0, none⟩) rest.length rest.length, .slice (some ⟨w.heap.size + 1, 0, none⟩) log.length log.length, .int .i64 (n : Int)] 63)).drew) = W0 at hcp1 d3 e3 ⊢
    clear c0 c1 c2 c3 c4 c5 hm1 hm2 hR
    have mixed : Tryz.prog.follows Departure.mixedOrders = true := by kernel_rfl
    go_wp2_with fail
    go_region_law_o (refine Go.Proofs.step_copy_runI rfl _ _ 35 35 rfl _ _ (by simp [Act.eval]) (by simp [Act.eval]) (hcp1 _) ?_)
    all_goals
      go_wp2_with fail
      focus
        go_region_law_o (refine Go.Proofs.step_copy_runI rfl _ _ 47 47 rfl _ _ (by simp [Act.eval]) (by simp [Act.eval]) (hcp2 _) ?_)
        all_goals
          go_wp2_with fail
          go_ret
          exact HR.out
  · have HF := Lib.hid (HA.out (.cells (zevt log.length) 56) (.cells (zflt rest.length) 53) (.cells #[.string h, .string p, .string f, .slice (some ⟨w.heap.size + 1, 0, none⟩) rest.length rest.length, .slice (some ⟨w.heap.size, 0, none⟩) log.length log.length, .int .i64 (n : Int)] 63))
    obtain ⟨W1, W2, hcp1, hcp2, d3, e3, d4, e4, hR⟩ := HM.out ((((w.alloc (.cells (zevt log.length) 56)).alloc (.cells (zflt rest.length) 53)).alloc (.cells #[.string h, .string p, .string f, .slice (some ⟨w.heap.size + 1, 0, none⟩) rest.length rest.length, .slice (some ⟨w.heap.size, 0, none⟩) log.length log.length, .int .i64 (n : Int)] 63)).drew) (w.heap.size + 1) w.heap.size (w.heap.size + 1 + 1) HF.out.2.1 HF.out.1 HF.out.2.2.1 (by omega) (by omega) (by omega) (by omega) (by omega) (by omega) HF.out.2.2.2.drew
    have HR := Lib.hid hR
    generalize ((((w.alloc (.cells (zevt log.length) 56)).alloc (.cells (zflt rest.length) 53)).alloc (.cells #[.string h, .string p, .string f, .slice (some ⟨w.heap.size + 1, 0, none⟩) rest.length rest.length, .slice (some ⟨w.heap.size, 0, none⟩) log.length log.length, .int .i64 (n : Int)] 63)).drew) = W0 at hcp1 d3 e3 ⊢
    clear c0 c1 c2 c3 c4 c5 hm1 hm2 hR
    have mixed : Tryz.prog.follows Departure.mixedOrders = true := by kernel_rfl
    go_wp2_with fail
    go_region_law_o (refine Go.Proofs.step_copy_runI rfl _ _ 35 35 rfl _ _ (by simp [Act.eval]) (by simp [Act.eval]) (hcp1 _) ?_)
    all_goals
      go_wp2_with fail
      focus
        go_region_law_o (refine Go.Proofs.step_copy_runI rfl _ _ 47 47 rfl _ _ (by simp [Act.eval]) (by simp [Act.eval]) (hcp2 _) ?_)
        all_goals
          go_wp2_with fail
          go_ret
          exact HR.out
end Go.Proofs.YtomkeckknoclcaaGreatDoor
namespace Go.Proofs.YtomkeckknoclcaaGreatDoor
open Go.RowKit
theorem load_rlink (w : World) (b : Nat) (t : TypeId) (x0 x1 x2 x3 x4 x5 : Value) (h : w.heap[b]? = some (.cells #[x0, x1, x2, x3, x4, x5] t (0, 0))) : (loadVar 40 ⟨b, 0, none⟩).run Tryz.prog w = .ok (.agg #[x0, x1, x2, x3, x4, x5]) w :=
  run_loadVar_row w b t 40 #[x0, x1, x2, x3, x4, x5] (0, 0) _ h Tryz.underlying40 rfl (by kernel_rfl)
def RAsk (h p f : ByteArray) (rest : List Flt) (log : List Evt) (n : Nat) (s : ByteArray) (w : World) (e : Ending) (w' : World) : Prop :=
  ∃ rv' lv', e = .returned (.tuple #[.agg #[.string h, .string p, .string f, rv', lv', .int .i64 ((n + oneK (hurtK h p f (rest.headD noF) s) : Nat) : Int)], .string (gotK h p f (rest.headD noF) s)]) ∧ HoldsC w' rv' rest.tail ∧ w'.ownsRow w.heap.size 67 3 lv' (log ++ [evK h p f (rest.headD noF) s]).length (evs (log ++ [evK h p f (rest.headD noF) s])) ∧ Below w.heap.size w w'
/-- the blocks of the reference's Ask -/
def rlW (w : World) (h p f : ByteArray) (V lv : Value) (n : Nat) (x : Flt) : World :=
  ((w.alloc (.cells #[.string h, .string p, .string f, V, lv, .int .i64 (n : Int)] 40)).alloc (.cells #[.string ⟨#[]⟩, .string ⟨#[]⟩, .string ⟨#[]⟩, .slice none 0 0, .slice none 0 0, .int .i64 0] 40)).alloc (.cells #[.int .u8 x.1, .int .i64 x.2.1, .string x.2.2] 54)
structure RLS (w W : World) (h p f : ByteArray) (V lv : Value) (n : Nat) (x : Flt) (rest : List Flt) (log : List Evt) (b0 : Nat) : Prop where
  a : W.heap[w.heap.size]? = some (.cells #[.string h, .string p, .string f, V, lv, .int .i64 (n : Int)] 40 (0, 0))
  z : W.heap[w.heap.size + 1]? = some (.cells #[.string ⟨#[]⟩, .string ⟨#[]⟩, .string ⟨#[]⟩, .slice none 0 0, .slice none 0 0, .int .i64 0] 40 (0, 0))
  x : W.heap[w.heap.size + 1 + 1]? = some (.cells #[.int .u8 x.1, .int .i64 x.2.1, .string x.2.2] 54 (0, 0))
  b : Below w.heap.size w W
  s : w.heap.size + 3 ≤ W.heap.size
  r : HoldsC W V rest
  o : W.ownsRow b0 67 3 lv log.length (evs log)
theorem RLS.start {w : World} {h p f : ByteArray} {V lv : Value} {n : Nat} {x : Flt} {rest : List Flt} {log : List Evt} {b0 : Nat} (hr : HoldsC w V rest) (ho : w.ownsRow b0 67 3 lv log.length (evs log)) : RLS w (rlW w h p f V lv n x) h p f V lv n x rest log b0 := by
  obtain ⟨h1, h2, h3, h4⟩ := alloc3_facts w (.cells #[.string h, .string p, .string f, V, lv, .int .i64 (n : Int)] 40) (.cells #[.string ⟨#[]⟩, .string ⟨#[]⟩, .string ⟨#[]⟩, .slice none 0 0, .slice none 0 0, .int .i64 0] 40) (.cells #[.int .u8 x.1, .int .i64 x.2.1, .string x.2.2] 54)
  exact ⟨h1, h2, h3, h4, by unfold rlW; simp, hr.below h4, own_of_block ho (fun g hg => h4.block g (ho.lt g hg).2)⟩
theorem RLS.below {w W W' : World} {h p f : ByteArray} {V lv : Value} {n : Nat} {x : Flt} {rest : List Flt} {log : List Evt} {b0 : Nat} (k : RLS w W h p f V lv n x rest log b0) (hb : Below W.heap.size W W') : RLS w W' h p f V lv n x rest log b0 := by
  have hs := k.s
  exact ⟨(hb.block _ (by omega)).trans k.a, (hb.block _ (by omega)).trans k.z, (hb.block _ (by omega)).trans k.x, bstep k.b hb, Nat.le_trans hs hb.size, k.r.below hb, own_of_block k.o (fun g hg => hb.block g (k.o.lt g hg).2)⟩
theorem rl_fin {w W : World} {V L : Value} {tl : List Flt} {m : Nat} {ys : List Evt} {x0 x1 x2 x3 x4 x5 : Value} (hZ : W.heap[w.heap.size + 1]? = some (.cells #[x0, x1, x2, x3, x4, x5] 40 (0, 0))) (hb : Below w.heap.size w W) (hr : HoldsC w V tl) (ho : W.ownsRow w.heap.size 67 3 L m (evs ys)) (y0 y1 y2 y3 y4 y5 : Value) :
    HoldsC ((((((W.setCell ⟨w.heap.size + 1, 0, none⟩ y0).setCell ⟨w.heap.size + 1, 1, none⟩ y1).setCell ⟨w.heap.size + 1, 2, none⟩ y2).setCell ⟨w.heap.size + 1, 3, none⟩ y3).setCell ⟨w.heap.size + 1, 4, none⟩ y4).setCell ⟨w.heap.size + 1, 5, none⟩ y5) V tl ∧
    ((((((W.setCell ⟨w.heap.size + 1, 0, none⟩ y0).setCell ⟨w.heap.size + 1, 1, none⟩ y1).setCell ⟨w.heap.size + 1, 2, none⟩ y2).setCell ⟨w.heap.size + 1, 3, none⟩ y3).setCell ⟨w.heap.size + 1, 4, none⟩ y4).setCell ⟨w.heap.size + 1, 5, none⟩ y5).ownsRow w.heap.size 67 3 L m (evs ys) ∧
    Below w.heap.size w ((((((W.setCell ⟨w.heap.size + 1, 0, none⟩ y0).setCell ⟨w.heap.size + 1, 1, none⟩ y1).setCell ⟨w.heap.size + 1, 2, none⟩ y2).setCell ⟨w.heap.size + 1, 3, none⟩ y3).setCell ⟨w.heap.size + 1, 4, none⟩ y4).setCell ⟨w.heap.size + 1, 5, none⟩ y5) := by
  have hB := six_below hb (w.heap.size + 1) (by omega) y0 y1 y2 y3 y4 y5
  refine ⟨hr.below hB, own_of_block ho (fun g hg => ?_), hB⟩
  have hne : g ≠ w.heap.size + 1 := fun e => own_not_row ho hZ (by decide) (by rw [hg]; exact congrArg some e)
  rw [set_far6 hne, set_far6 hne, set_far6 hne, set_far6 hne, set_far6 hne, set_far6 hne]
theorem own_far {w : World} {b0 n : Nat} {L : Value} {xs : List Value} {X : Nat} {ca : Array Value} (ho : w.ownsRow b0 67 3 L n xs) (hX : w.heap[X]? = some (.cells ca 40 (0, 0))) (o : Nat) (y : Value) : (w.setCell ⟨X, o, none⟩ y).ownsRow b0 67 3 L n xs :=
  own_of_block ho (fun g hg => set_far6 (fun e => own_not_row ho hX (by decide) (by rw [hg]; exact congrArg some e)))
set_option maxRecDepth 100000 in
set_option maxHeartbeats 4000000 in
theorem ref_lask (h p f : ByteArray) (rest : List Flt) (log : List Evt) (n : Nat) (s : ByteArray) (rv lv : Value) (b0 : Nat) (w : World) (hr : HoldsC w rv rest) (ho : w.ownsRow b0 67 3 lv log.length (evs log)) (hx : FltOk (rest.headD noF)) (hs : s.size ≤ 1000000) (hh' : h.size ≤ 1000000) (hp : p.size ≤ 1000000) (hf : f.size ≤ 100000) (hn : n ≤ 1000000) (hll : log.length ≤ 1000000) :
    Calls Tryz.prog 14 #[.agg #[.string h, .string p, .string f, rv, lv, .int .i64 (n : Int)], .string s] w (RAsk h p f rest log n s w) := by
  obtain ⟨ar, cr, hrv, -⟩ := hr.len
  obtain ⟨al, cl, hlv⟩ := slice_of_own ho
  subst hrv hlv
  unfold RAsk
  obtain ⟨X, hX⟩ : ∃ X, rest.headD noF = X := ⟨_, rfl⟩
  obtain ⟨tl, htl⟩ : ∃ tl, rest.tail = tl := ⟨_, rfl⟩
  have hws := whole_size h p f s (by omega)
  have hht := hurt_eq h p f X s
  rw [hX] at hx ⊢
  have HA : Hid (∀ W, Calls Tryz.prog 28 #[.agg #[.string h, .string p, .string f], .string s] W fun e w' => e = .returned (.string (wholeK h p f s)) ∧ Below W.heap.size W w') := Lib.hid (fun W => ref_oAnswer h p f s W (by omega) (by omega) hs (by omega))
  have HAP : Hid (∀ W, Calls Tryz.prog 29 #[.agg #[.int .u8 X.1, .int .i64 X.2.1, .string X.2.2], .string (wholeK h p f s)] W fun e w' => e = .returned (.string (gotK h p f X s)) ∧ Below W.heap.size W w') := Lib.hid (fun W => ref_apply X.1 X.2.1 X.2.2 (wholeK h p f s) W hx.n0 hx.n1 hx.t (by omega))
  have HEV : Hid (evK h p f X s = ((s.size : Int), ((gotK h p f X s).size : Int), hurtK h p f X s)) := Lib.hid rfl
  generalize evK h p f X s = EV at HEV ⊢
  generalize wholeK h p f s = Wh at hws hht HA HAP
  generalize gotK h p f X s = G at hht HAP HEV ⊢
  generalize hurtK h p f X s = hb at hht HEV ⊢
  have HBs := Lib.hid (And.intro hll hn)
  have tw : IntKind.i64.wrap ((n : Int) + 1) = (n : Int) + 1 := by rw [IntKind.wrap_i64]; omega
  have HEVT : Hid (evs (log ++ [EV]) = evs log ++ [.int .i64 (s.size : Int), .int .i64 (G.size : Int), .bool hb]) := Lib.hid (by rw [evs_append, HEV.out]; rfl)
  cases rest with
  | nil =>
    have hX' : noF = X := hX
    have htl' : [] = tl := htl
    subst hX' htl'
    have HH0 := Lib.hid hr
    have HR : Hid (RLS w (rlW w h p f (.slice ar 0 cr) (.slice al log.length cl) n noF) h p f (.slice ar 0 cr) (.slice al log.length cl) n noF [] log b0) := Lib.hid (RLS.start hr ho)
    simp only [List.length_nil] at hr ⊢
    clear hr ho hx hX htl hws hs hh' hp hf hn hll HEV
    go_enter Tryz.func14, Tryz.ntmps14
    go_wp2_with fail
    refine (HA.out _).mono ?_
    rintro e w1 ⟨rfl, hb1⟩
    have HR1 := Lib.hid (HR.out.below hb1)
    clear hb1 HR
    obtain ⟨⟨a0, a1, a2, a3, a4, a5⟩, -, -, a6⟩ := six_facts HR1.out.a
    obtain ⟨x0, x1, x2, -, -, -⟩ := three_facts HR1.out.x
    go_wp2_with fail
    refine (HAP.out _).mono ?_
    rintro e w2 ⟨rfl, hb2⟩
    have HR2 := Lib.hid (HR1.out.below hb2)
    clear hb2 HR1 a0 a1 a2 a3 a4 a5 a6 x0 x1 x2
    obtain ⟨⟨a0, a1, a2, a3, a4, a5⟩, -, -, a6⟩ := six_facts HR2.out.a
    cases hb with
    | true =>
      have hq : (G.toList == Wh.toList) = false := by rw [eq_comm, Bool.not_eq_true'] at hht; exact hht
      have hq2 : ¬ (G.toList = Wh.toList) := by rw [beq_eq_false_iff_ne] at hq; exact hq
      clear hht
      go_wp2_with (at_builtin; first
        | (refine append_row3 38 67 _ 24 Tryz.underlying38 info_revt rfl (by decide) w2 (by rfl) _ _ (by rfl) w.heap.size (.slice none 0 0) 0 [] (by rfl) (World.ownsRow_nil _ _ _ _) b0 _ log.length (evs log) (by rfl) HR2.out.o (evs_one log) (by have := HBs.out.1; omega) HR2.out.b.size ?_; intro v1 c1 w3 ho3 hg3; rw [Nat.zero_add, List.nil_append] at ho3; have HO3 := Lib.hid ho3; have HR3 := Lib.hid (HR2.out.below ⟨hg3.os, hg3.tape, hg3.output, hg3.size, fun j hj => hg3.block j hj (by simp [Value.ownBlock])⟩); clear ho3 hg3 a0 a1 a2 a3 a4 a5 a6)
        | (refine append3 38 67 _ 24 Tryz.underlying38 info_revt rfl (by decide) w3 (.int .i64 (s.size : Int)) (.int .i64 (G.size : Int)) (.bool true) rfl rfl rfl (by rfl) _ _ (by rfl) w.heap.size _ log.length (evs log) (by rfl) HO3.out (by rfl) (by have := HBs.out.1; omega) HR3.out.b.size ?_; intro g cap w4 ho4 hg4 hd4; have HO4 := Lib.hid ho4; have HX4 := Lib.hid ((hg4.block _ (by have := HR3.out.s; omega) (fun e => own_not_row HO3.out HR3.out.a (by decide) e.symm)).trans HR3.out.a); have HZ4 := Lib.hid ((hg4.block _ (by have := HR3.out.s; omega) (fun e => own_not_row HO3.out HR3.out.z (by decide) e.symm)).trans HR3.out.z); have HB4 := Lib.hid (HR3.out.b.grown hg4 HR3.out.b.size (fun j hj => (HO3.out.lt j hj).1)); obtain ⟨⟨q0, q1, q2, q3, q4, q5⟩, u3, u4, u5⟩ := six_facts HX4.out; obtain ⟨z0, z1, z2, z3, z4, z5⟩ := six_free HZ4.out; obtain ⟨⟨r0, r1, r2, r3, r4, r5⟩, -⟩ := six_facts HZ4.out; clear ho4 hg4 hd4))
      have hne : w.heap.size + 1 ≠ w.heap.size := by omega
      have HOW := Lib.hid (own_far (own_far HO4.out HX4.out 4 (.slice (some ⟨g, 0, none⟩) (log.length + 1) cap)) (six_set4 HX4.out (.slice (some ⟨g, 0, none⟩) (log.length + 1) cap)) 5 (.int .i64 ((n : Int) + 1)))
      have HZW : Hid (((w4.setCell ⟨w.heap.size, 4, none⟩ (.slice (some ⟨g, 0, none⟩) (log.length + 1) cap)).setCell ⟨w.heap.size, 5, none⟩ (.int .i64 ((n : Int) + 1))).heap[w.heap.size + 1]? = _) := Lib.hid ((set_far6 hne).trans ((set_far6 hne).trans HZ4.out))
      have HBW := Lib.hid ((HB4.out.setCell (p := ⟨w.heap.size, 4, none⟩) (Nat.le_refl _) (.slice (some ⟨g, 0, none⟩) (log.length + 1) cap)).setCell (p := ⟨w.heap.size, 5, none⟩) (Nat.le_refl _) (.int .i64 ((n : Int) + 1)))
      refine ret_cell2 (A := ⟨w.heap.size + 1, 0, none⟩) rfl (load_rlink _ _ _ _ _ _ _ _ _ (six_all HZW.out _ _ _ _ _ _)) rfl rfl rfl ?_
      obtain ⟨f1, f2, f3⟩ := rl_fin HZW.out HBW.out HH0.out (ys := log ++ [EV]) (by rw [HEVT.out]; exact HOW.out) (.string h) (.string p) (.string f) (.slice ar 0 cr) (.slice (some ⟨g, 0, none⟩) (log.length + 1) cap) (.int .i64 ((n : Int) + 1))
      exact ⟨_, _, rfl, f1, by rw [List.length_append]; exact f2, f3⟩
    | false =>
      have hq : (G.toList == Wh.toList) = true := by rw [eq_comm, Bool.not_eq_false'] at hht; exact hht
      have hq2 : G.toList = Wh.toList := by rw [beq_iff_eq] at hq; exact hq
      clear hht
      go_wp2_with (at_builtin; first
        | (refine append_row3 38 67 _ 24 Tryz.underlying38 info_revt rfl (by decide) w2 (by rfl) _ _ (by rfl) w.heap.size (.slice none 0 0) 0 [] (by rfl) (World.ownsRow_nil _ _ _ _) b0 _ log.length (evs log) (by rfl) HR2.out.o (evs_one log) (by have := HBs.out.1; omega) HR2.out.b.size ?_; intro v1 c1 w3 ho3 hg3; rw [Nat.zero_add, List.nil_append] at ho3; have HO3 := Lib.hid ho3; have HR3 := Lib.hid (HR2.out.below ⟨hg3.os, hg3.tape, hg3.output, hg3.size, fun j hj => hg3.block j hj (by simp [Value.ownBlock])⟩); clear ho3 hg3 a0 a1 a2 a3 a4 a5 a6)
        | (refine append3 38 67 _ 24 Tryz.underlying38 info_revt rfl (by decide) w3 (.int .i64 (s.size : Int)) (.int .i64 (G.size : Int)) (.bool false) rfl rfl rfl (by rfl) _ _ (by rfl) w.heap.size _ log.length (evs log) (by rfl) HO3.out (by rfl) (by have := HBs.out.1; omega) HR3.out.b.size ?_; intro g cap w4 ho4 hg4 hd4; have HO4 := Lib.hid ho4; have HX4 := Lib.hid ((hg4.block _ (by have := HR3.out.s; omega) (fun e => own_not_row HO3.out HR3.out.a (by decide) e.symm)).trans HR3.out.a); have HZ4 := Lib.hid ((hg4.block _ (by have := HR3.out.s; omega) (fun e => own_not_row HO3.out HR3.out.z (by decide) e.symm)).trans HR3.out.z); have HB4 := Lib.hid (HR3.out.b.grown hg4 HR3.out.b.size (fun j hj => (HO3.out.lt j hj).1)); obtain ⟨⟨q0, q1, q2, q3, q4, q5⟩, u3, u4, u5⟩ := six_facts HX4.out; obtain ⟨z0, z1, z2, z3, z4, z5⟩ := six_free HZ4.out; obtain ⟨⟨r0, r1, r2, r3, r4, r5⟩, -⟩ := six_facts HZ4.out; clear ho4 hg4 hd4))
      have hne : w.heap.size + 1 ≠ w.heap.size := by omega
      have HOW := Lib.hid (own_far HO4.out HX4.out 4 (.slice (some ⟨g, 0, none⟩) (log.length + 1) cap))
      have HZW : Hid ((w4.setCell ⟨w.heap.size, 4, none⟩ (.slice (some ⟨g, 0, none⟩) (log.length + 1) cap)).heap[w.heap.size + 1]? = _) := Lib.hid ((set_far6 hne).trans HZ4.out)
      have HBW := Lib.hid (HB4.out.setCell (p := ⟨w.heap.size, 4, none⟩) (Nat.le_refl _) (.slice (some ⟨g, 0, none⟩) (log.length + 1) cap))
      refine ret_cell2 (A := ⟨w.heap.size + 1, 0, none⟩) rfl (load_rlink _ _ _ _ _ _ _ _ _ (six_all HZW.out _ _ _ _ _ _)) rfl rfl rfl ?_
      obtain ⟨f1, f2, f3⟩ := rl_fin HZW.out HBW.out HH0.out (ys := log ++ [EV]) (by rw [HEVT.out]; exact HOW.out) (.string h) (.string p) (.string f) (.slice ar 0 cr) (.slice (some ⟨g, 0, none⟩) (log.length + 1) cap) (.int .i64 (n : Int))
      exact ⟨_, _, rfl, f1, by rw [List.length_append]; exact f2, f3⟩
  | cons x t =>
    have hX' : x = X := hX
    have htl' : t = tl := htl
    subst hX' htl'
    obtain ⟨x1, x2, x3⟩ := x
    obtain ⟨-, -, -, hB⟩ := alloc3_facts w (.cells #[.string h, .string p, .string f, .slice ar (t.length + 1) cr, .slice al log.length cl, .int .i64 (n : Int)] 40) (.cells #[.string ⟨#[]⟩, .string ⟨#[]⟩, .string ⟨#[]⟩, .slice none 0 0, .slice none 0 0, .int .i64 0] 40) (.cells #[.int .u8 0, .int .i64 0, .string ⟨#[]⟩] 54)
    obtain ⟨b, o, c, hrv, hc, -, -, -, -, hh⟩ := hr.first
    injection hrv with e1 e2 e3
    subst e1 e3
    obtain ⟨b', o', c', hrv, -, -, y0, y1, y2, -⟩ := (hr.below hB).first
    injection hrv with e1 e2' e3
    injection e1 with e1
    injection e1 with e1 e4
    subst e1 e3 e4
    have hle : (1 : Int) ≤ (t.length : Int) + 1 := by omega
    have hz : ¬ ((0 : Int) = (t.length : Int) + 1) := by omega
    have hlt0 : (0 : Int) < (t.length : Int) + 1 := by omega
    have hgt : decide ((t.length : Int) + 1 > 0) = true := decide_eq_true (by omega)
    by_cases hc1 : cr = 1
    · subst hc1
      obtain rfl : t = [] := List.length_eq_zero_iff.1 (by omega)
      rw [if_pos rfl] at hh
      simp only [List.length_nil, Nat.sub_self] at hh hr ⊢
      simp only [List.length_nil, Nat.zero_add] at y0 y1 y2
      have HH0 := Lib.hid hh
      have HR : Hid (RLS w (rlW w h p f (.slice (some ⟨b, o, none⟩) 0 0) (.slice al log.length cl) n (x1, x2, x3)) h p f (.slice (some ⟨b, o, none⟩) 0 0) (.slice al log.length cl) n (x1, x2, x3) [] log b0) := Lib.hid (RLS.start hh ho)
      clear hr ho hx hX htl hws hs hh' hp hf hn hll HEV hh hB e2 e2'
      go_enter Tryz.func14, Tryz.ntmps14
      go_wp2_with fail
      refine (HA.out _).mono ?_
      rintro e w1 ⟨rfl, hb1⟩
      have HR1 := Lib.hid (HR.out.below hb1)
      clear hb1 HR
      obtain ⟨⟨a0, a1, a2, a3, a4, a5⟩, -, -, a6⟩ := six_facts HR1.out.a
      obtain ⟨x0, x1, x2, -, -, -⟩ := three_facts HR1.out.x
      go_wp2_with fail
      refine (HAP.out _).mono ?_
      rintro e w2 ⟨rfl, hb2⟩
      have HR2 := Lib.hid (HR1.out.below hb2)
      clear hb2 HR1 a0 a1 a2 a3 a4 a5 a6 x0 x1 x2
      obtain ⟨⟨a0, a1, a2, a3, a4, a5⟩, -, -, a6⟩ := six_facts HR2.out.a
      cases hb with
      | true =>
        have hq : (G.toList == Wh.toList) = false := by rw [eq_comm, Bool.not_eq_true'] at hht; exact hht
        have hq2 : ¬ (G.toList = Wh.toList) := by rw [beq_eq_false_iff_ne] at hq; exact hq
        clear hht
        go_wp2_with (at_builtin; first
          | (refine append_row3 38 67 _ 24 Tryz.underlying38 info_revt rfl (by decide) w2 (by rfl) _ _ (by rfl) w.heap.size (.slice none 0 0) 0 [] (by rfl) (World.ownsRow_nil _ _ _ _) b0 _ log.length (evs log) (by rfl) HR2.out.o (evs_one log) (by have := HBs.out.1; omega) HR2.out.b.size ?_; intro v1 c1 w3 ho3 hg3; rw [Nat.zero_add, List.nil_append] at ho3; have HO3 := Lib.hid ho3; have HR3 := Lib.hid (HR2.out.below ⟨hg3.os, hg3.tape, hg3.output, hg3.size, fun j hj => hg3.block j hj (by simp [Value.ownBlock])⟩); clear ho3 hg3 a0 a1 a2 a3 a4 a5 a6)
          | (refine append3 38 67 _ 24 Tryz.underlying38 info_revt rfl (by decide) w3 (.int .i64 (s.size : Int)) (.int .i64 (G.size : Int)) (.bool true) rfl rfl rfl (by rfl) _ _ (by rfl) w.heap.size _ log.length (evs log) (by rfl) HO3.out (by rfl) (by have := HBs.out.1; omega) HR3.out.b.size ?_; intro g cap w4 ho4 hg4 hd4; have HO4 := Lib.hid ho4; have HX4 := Lib.hid ((hg4.block _ (by have := HR3.out.s; omega) (fun e => own_not_row HO3.out HR3.out.a (by decide) e.symm)).trans HR3.out.a); have HZ4 := Lib.hid ((hg4.block _ (by have := HR3.out.s; omega) (fun e => own_not_row HO3.out HR3.out.z (by decide) e.symm)).trans HR3.out.z); have HB4 := Lib.hid (HR3.out.b.grown hg4 HR3.out.b.size (fun j hj => (HO3.out.lt j hj).1)); obtain ⟨⟨q0, q1, q2, q3, q4, q5⟩, u3, u4, u5⟩ := six_facts HX4.out; obtain ⟨z0, z1, z2, z3, z4, z5⟩ := six_free HZ4.out; obtain ⟨⟨r0, r1, r2, r3, r4, r5⟩, -⟩ := six_facts HZ4.out; clear ho4 hg4 hd4))
        have hne : w.heap.size + 1 ≠ w.heap.size := by omega
        have HOW := Lib.hid (own_far (own_far HO4.out HX4.out 4 (.slice (some ⟨g, 0, none⟩) (log.length + 1) cap)) (six_set4 HX4.out (.slice (some ⟨g, 0, none⟩) (log.length + 1) cap)) 5 (.int .i64 ((n : Int) + 1)))
        have HZW : Hid (((w4.setCell ⟨w.heap.size, 4, none⟩ (.slice (some ⟨g, 0, none⟩) (log.length + 1) cap)).setCell ⟨w.heap.size, 5, none⟩ (.int .i64 ((n : Int) + 1))).heap[w.heap.size + 1]? = _) := Lib.hid ((set_far6 hne).trans ((set_far6 hne).trans HZ4.out))
        have HBW := Lib.hid ((HB4.out.setCell (p := ⟨w.heap.size, 4, none⟩) (Nat.le_refl _) (.slice (some ⟨g, 0, none⟩) (log.length + 1) cap)).setCell (p := ⟨w.heap.size, 5, none⟩) (Nat.le_refl _) (.int .i64 ((n : Int) + 1)))
        refine ret_cell2 (A := ⟨w.heap.size + 1, 0, none⟩) rfl (load_rlink _ _ _ _ _ _ _ _ _ (six_all HZW.out _ _ _ _ _ _)) rfl rfl rfl ?_
        obtain ⟨f1, f2, f3⟩ := rl_fin HZW.out HBW.out HH0.out (ys := log ++ [EV]) (by rw [HEVT.out]; exact HOW.out) (.string h) (.string p) (.string f) (.slice (some ⟨b, o, none⟩) 0 0) (.slice (some ⟨g, 0, none⟩) (log.length + 1) cap) (.int .i64 ((n : Int) + 1))
        exact ⟨_, _, rfl, f1, by rw [List.length_append]; exact f2, f3⟩
      | false =>
        have hq : (G.toList == Wh.toList) = true := by rw [eq_comm, Bool.not_eq_false'] at hht; exact hht
        have hq2 : G.toList = Wh.toList := by rw [beq_iff_eq] at hq; exact hq
        clear hht
        go_wp2_with (at_builtin; first
          | (refine append_row3 38 67 _ 24 Tryz.underlying38 info_revt rfl (by decide) w2 (by rfl) _ _ (by rfl) w.heap.size (.slice none 0 0) 0 [] (by rfl) (World.ownsRow_nil _ _ _ _) b0 _ log.length (evs log) (by rfl) HR2.out.o (evs_one log) (by have := HBs.out.1; omega) HR2.out.b.size ?_; intro v1 c1 w3 ho3 hg3; rw [Nat.zero_add, List.nil_append] at ho3; have HO3 := Lib.hid ho3; have HR3 := Lib.hid (HR2.out.below ⟨hg3.os, hg3.tape, hg3.output, hg3.size, fun j hj => hg3.block j hj (by simp [Value.ownBlock])⟩); clear ho3 hg3 a0 a1 a2 a3 a4 a5 a6)
          | (refine append3 38 67 _ 24 Tryz.underlying38 info_revt rfl (by decide) w3 (.int .i64 (s.size : Int)) (.int .i64 (G.size : Int)) (.bool false) rfl rfl rfl (by rfl) _ _ (by rfl) w.heap.size _ log.length (evs log) (by rfl) HO3.out (by rfl) (by have := HBs.out.1; omega) HR3.out.b.size ?_; intro g cap w4 ho4 hg4 hd4; have HO4 := Lib.hid ho4; have HX4 := Lib.hid ((hg4.block _ (by have := HR3.out.s; omega) (fun e => own_not_row HO3.out HR3.out.a (by decide) e.symm)).trans HR3.out.a); have HZ4 := Lib.hid ((hg4.block _ (by have := HR3.out.s; omega) (fun e => own_not_row HO3.out HR3.out.z (by decide) e.symm)).trans HR3.out.z); have HB4 := Lib.hid (HR3.out.b.grown hg4 HR3.out.b.size (fun j hj => (HO3.out.lt j hj).1)); obtain ⟨⟨q0, q1, q2, q3, q4, q5⟩, u3, u4, u5⟩ := six_facts HX4.out; obtain ⟨z0, z1, z2, z3, z4, z5⟩ := six_free HZ4.out; obtain ⟨⟨r0, r1, r2, r3, r4, r5⟩, -⟩ := six_facts HZ4.out; clear ho4 hg4 hd4))
        have hne : w.heap.size + 1 ≠ w.heap.size := by omega
        have HOW := Lib.hid (own_far HO4.out HX4.out 4 (.slice (some ⟨g, 0, none⟩) (log.length + 1) cap))
        have HZW : Hid ((w4.setCell ⟨w.heap.size, 4, none⟩ (.slice (some ⟨g, 0, none⟩) (log.length + 1) cap)).heap[w.heap.size + 1]? = _) := Lib.hid ((set_far6 hne).trans HZ4.out)
        have HBW := Lib.hid (HB4.out.setCell (p := ⟨w.heap.size, 4, none⟩) (Nat.le_refl _) (.slice (some ⟨g, 0, none⟩) (log.length + 1) cap))
        refine ret_cell2 (A := ⟨w.heap.size + 1, 0, none⟩) rfl (load_rlink _ _ _ _ _ _ _ _ _ (six_all HZW.out _ _ _ _ _ _)) rfl rfl rfl ?_
        obtain ⟨f1, f2, f3⟩ := rl_fin HZW.out HBW.out HH0.out (ys := log ++ [EV]) (by rw [HEVT.out]; exact HOW.out) (.string h) (.string p) (.string f) (.slice (some ⟨b, o, none⟩) 0 0) (.slice (some ⟨g, 0, none⟩) (log.length + 1) cap) (.int .i64 (n : Int))
        exact ⟨_, _, rfl, f1, by rw [List.length_append]; exact f2, f3⟩
    · rw [if_neg hc1] at hh
      have HH0 := Lib.hid hh
      have HR : Hid (RLS w (rlW w h p f (.slice (some ⟨b, o + 3, none⟩) t.length (cr - 1)) (.slice al log.length cl) n (x1, x2, x3)) h p f (.slice (some ⟨b, o + 3, none⟩) t.length (cr - 1)) (.slice al log.length cl) n (x1, x2, x3) t log b0) := Lib.hid (RLS.start hh ho)
      simp only [List.length_cons] at hr ⊢
      clear hr ho hx hX htl hws hs hh' hp hf hn hll HEV hh hB e2 e2'
      go_enter Tryz.func14, Tryz.ntmps14
      go_wp2_with fail
      refine (HA.out _).mono ?_
      rintro e w1 ⟨rfl, hb1⟩
      have HR1 := Lib.hid (HR.out.below hb1)
      clear hb1 HR
      obtain ⟨⟨a0, a1, a2, a3, a4, a5⟩, -, -, a6⟩ := six_facts HR1.out.a
      obtain ⟨x0, x1, x2, -, -, -⟩ := three_facts HR1.out.x
      go_wp2_with fail
      refine (HAP.out _).mono ?_
      rintro e w2 ⟨rfl, hb2⟩
      have HR2 := Lib.hid (HR1.out.below hb2)
      clear hb2 HR1 a0 a1 a2 a3 a4 a5 a6 x0 x1 x2
      obtain ⟨⟨a0, a1, a2, a3, a4, a5⟩, -, -, a6⟩ := six_facts HR2.out.a
      cases hb with
      | true =>
        have hq : (G.toList == Wh.toList) = false := by rw [eq_comm, Bool.not_eq_true'] at hht; exact hht
        have hq2 : ¬ (G.toList = Wh.toList) := by rw [beq_eq_false_iff_ne] at hq; exact hq
        clear hht
        go_wp2_with (at_builtin; first
          | (refine append_row3 38 67 _ 24 Tryz.underlying38 info_revt rfl (by decide) w2 (by rfl) _ _ (by rfl) w.heap.size (.slice none 0 0) 0 [] (by rfl) (World.ownsRow_nil _ _ _ _) b0 _ log.length (evs log) (by rfl) HR2.out.o (evs_one log) (by have := HBs.out.1; omega) HR2.out.b.size ?_; intro v1 c1 w3 ho3 hg3; rw [Nat.zero_add, List.nil_append] at ho3; have HO3 := Lib.hid ho3; have HR3 := Lib.hid (HR2.out.below ⟨hg3.os, hg3.tape, hg3.output, hg3.size, fun j hj => hg3.block j hj (by simp [Value.ownBlock])⟩); clear ho3 hg3 a0 a1 a2 a3 a4 a5 a6)
          | (refine append3 38 67 _ 24 Tryz.underlying38 info_revt rfl (by decide) w3 (.int .i64 (s.size : Int)) (.int .i64 (G.size : Int)) (.bool true) rfl rfl rfl (by rfl) _ _ (by rfl) w.heap.size _ log.length (evs log) (by rfl) HO3.out (by rfl) (by have := HBs.out.1; omega) HR3.out.b.size ?_; intro g cap w4 ho4 hg4 hd4; have HO4 := Lib.hid ho4; have HX4 := Lib.hid ((hg4.block _ (by have := HR3.out.s; omega) (fun e => own_not_row HO3.out HR3.out.a (by decide) e.symm)).trans HR3.out.a); have HZ4 := Lib.hid ((hg4.block _ (by have := HR3.out.s; omega) (fun e => own_not_row HO3.out HR3.out.z (by decide) e.symm)).trans HR3.out.z); have HB4 := Lib.hid (HR3.out.b.grown hg4 HR3.out.b.size (fun j hj => (HO3.out.lt j hj).1)); obtain ⟨⟨q0, q1, q2, q3, q4, q5⟩, u3, u4, u5⟩ := six_facts HX4.out; obtain ⟨z0, z1, z2, z3, z4, z5⟩ := six_free HZ4.out; obtain ⟨⟨r0, r1, r2, r3, r4, r5⟩, -⟩ := six_facts HZ4.out; clear ho4 hg4 hd4))
        have hne : w.heap.size + 1 ≠ w.heap.size := by omega
        have HOW := Lib.hid (own_far (own_far HO4.out HX4.out 4 (.slice (some ⟨g, 0, none⟩) (log.length + 1) cap)) (six_set4 HX4.out (.slice (some ⟨g, 0, none⟩) (log.length + 1) cap)) 5 (.int .i64 ((n : Int) + 1)))
        have HZW : Hid (((w4.setCell ⟨w.heap.size, 4, none⟩ (.slice (some ⟨g, 0, none⟩) (log.length + 1) cap)).setCell ⟨w.heap.size, 5, none⟩ (.int .i64 ((n : Int) + 1))).heap[w.heap.size + 1]? = _) := Lib.hid ((set_far6 hne).trans ((set_far6 hne).trans HZ4.out))
        have HBW := Lib.hid ((HB4.out.setCell (p := ⟨w.heap.size, 4, none⟩) (Nat.le_refl _) (.slice (some ⟨g, 0, none⟩) (log.length + 1) cap)).setCell (p := ⟨w.heap.size, 5, none⟩) (Nat.le_refl _) (.int .i64 ((n : Int) + 1)))
        refine ret_cell2 (A := ⟨w.heap.size + 1, 0, none⟩) rfl (load_rlink _ _ _ _ _ _ _ _ _ (six_all HZW.out _ _ _ _ _ _)) rfl rfl rfl ?_
        obtain ⟨f1, f2, f3⟩ := rl_fin HZW.out HBW.out HH0.out (ys := log ++ [EV]) (by rw [HEVT.out]; exact HOW.out) (.string h) (.string p) (.string f) (.slice (some ⟨b, o + 3, none⟩) t.length (cr - 1)) (.slice (some ⟨g, 0, none⟩) (log.length + 1) cap) (.int .i64 ((n : Int) + 1))
        exact ⟨_, _, rfl, f1, by rw [List.length_append]; exact f2, f3⟩
      | false =>
        have hq : (G.toList == Wh.toList) = true := by rw [eq_comm, Bool.not_eq_false'] at hht; exact hht
        have hq2 : G.toList = Wh.toList := by rw [beq_iff_eq] at hq; exact hq
        clear hht
        go_wp2_with (at_builtin; first
          | (refine append_row3 38 67 _ 24 Tryz.underlying38 info_revt rfl (by decide) w2 (by rfl) _ _ (by rfl) w.heap.size (.slice none 0 0) 0 [] (by rfl) (World.ownsRow_nil _ _ _ _) b0 _ log.length (evs log) (by rfl) HR2.out.o (evs_one log) (by have := HBs.out.1; omega) HR2.out.b.size ?_; intro v1 c1 w3 ho3 hg3; rw [Nat.zero_add, List.nil_append] at ho3; have HO3 := Lib.hid ho3; have HR3 := Lib.hid (HR2.out.below ⟨hg3.os, hg3.tape, hg3.output, hg3.size, fun j hj => hg3.block j hj (by simp [Value.ownBlock])⟩); clear ho3 hg3 a0 a1 a2 a3 a4 a5 a6)
          | (refine append3 38 67 _ 24 Tryz.underlying38 info_revt rfl (by decide) w3 (.int .i64 (s.size : Int)) (.int .i64 (G.size : Int)) (.bool false) rfl rfl rfl (by rfl) _ _ (by rfl) w.heap.size _ log.length (evs log) (by rfl) HO3.out (by rfl) (by have := HBs.out.1; omega) HR3.out.b.size ?_; intro g cap w4 ho4 hg4 hd4; have HO4 := Lib.hid ho4; have HX4 := Lib.hid ((hg4.block _ (by have := HR3.out.s; omega) (fun e => own_not_row HO3.out HR3.out.a (by decide) e.symm)).trans HR3.out.a); have HZ4 := Lib.hid ((hg4.block _ (by have := HR3.out.s; omega) (fun e => own_not_row HO3.out HR3.out.z (by decide) e.symm)).trans HR3.out.z); have HB4 := Lib.hid (HR3.out.b.grown hg4 HR3.out.b.size (fun j hj => (HO3.out.lt j hj).1)); obtain ⟨⟨q0, q1, q2, q3, q4, q5⟩, u3, u4, u5⟩ := six_facts HX4.out; obtain ⟨z0, z1, z2, z3, z4, z5⟩ := six_free HZ4.out; obtain ⟨⟨r0, r1, r2, r3, r4, r5⟩, -⟩ := six_facts HZ4.out; clear ho4 hg4 hd4))
        have hne : w.heap.size + 1 ≠ w.heap.size := by omega
        have HOW := Lib.hid (own_far HO4.out HX4.out 4 (.slice (some ⟨g, 0, none⟩) (log.length + 1) cap))
        have HZW : Hid ((w4.setCell ⟨w.heap.size, 4, none⟩ (.slice (some ⟨g, 0, none⟩) (log.length + 1) cap)).heap[w.heap.size + 1]? = _) := Lib.hid ((set_far6 hne).trans HZ4.out)
        have HBW := Lib.hid (HB4.out.setCell (p := ⟨w.heap.size, 4, none⟩) (Nat.le_refl _) (.slice (some ⟨g, 0, none⟩) (log.length + 1) cap))
        refine ret_cell2 (A := ⟨w.heap.size + 1, 0, none⟩) rfl (load_rlink _ _ _ _ _ _ _ _ _ (six_all HZW.out _ _ _ _ _ _)) rfl rfl rfl ?_
        obtain ⟨f1, f2, f3⟩ := rl_fin HZW.out HBW.out HH0.out (ys := log ++ [EV]) (by rw [HEVT.out]; exact HOW.out) (.string h) (.string p) (.string f) (.slice (some ⟨b, o + 3, none⟩) t.length (cr - 1)) (.slice (some ⟨g, 0, none⟩) (log.length + 1) cap) (.int .i64 (n : Int))
        exact ⟨_, _, rfl, f1, by rw [List.length_append]; exact f2, f3⟩
end Go.Proofs.YtomkeckknoclcaaGreatDoor
namespace Go.Proofs.YtomkeckknoclcaaGreatDoor
open Go.RowKit
theorem flts_ok {l : List Flt} (h : ∀ x ∈ l, (Lit.int .u8 x.1).wf = true ∧ (Lit.int .i64 x.2.1).wf = true) (ht : ∀ x ∈ l, x.2.2.size ≤ 300) : ∀ x ∈ l, FltOk x := fun x hx => by
  obtain ⟨h1, h2⟩ := h x hx
  have a : IntKind.u8.min ≤ x.1 ∧ x.1 ≤ IntKind.u8.max := by simpa [Lit.wf] using h1
  have b : IntKind.i64.min ≤ x.2.1 ∧ x.2.1 ≤ IntKind.i64.max := by simpa [Lit.wf] using h2
  have := ht x hx
  exact ⟨a.1, b.1, b.2, by omega⟩
/-- the same text, asked once more than there are faults -/
def sameAsks (l : List Flt) (s : ByteArray) : List (List UInt8) := List.replicate (l.length + 1) s.data.toList
def clLog (h p f : ByteArray) (l : List Flt) (s : ByteArray) (k : Nat) : List Evt := stLog h p f l (sameAsks l s) k
theorem clLog_step (h p f : ByteArray) (l : List Flt) (s : ByteArray) (k : Nat) (hk : k < l.length + 1) : clLog h p f l s (k + 1) = clLog h p f l s k ++ [evK h p f ((l.drop k).headD noF) s] := by
  have hk' : k < (sameAsks l s).length := by unfold sameAsks; rw [List.length_replicate]; exact hk
  unfold clLog
  rw [stLog_step h p f l _ k hk']
  have e : bs ((sameAsks l s)[k]) = s := by
    show bs ((List.replicate (l.length + 1) s.data.toList)[k]'(by rw [List.length_replicate]; exact hk)) = s
    rw [List.getElem_replicate, bs_self]
  rw [e]
theorem clLog_len (h p f : ByteArray) (l : List Flt) (s : ByteArray) (k : Nat) (hk : k ≤ l.length + 1) : (clLog h p f l s k).length = k := stLog_len _ _ _ _ _ _ (by unfold sameAsks; rw [List.length_replicate]; exact hk)
theorem clHarm_step (h p f : ByteArray) (l : List Flt) (s : ByteArray) (k : Nat) (hk : k < l.length + 1) : harmsK (clLog h p f l s (k + 1)) = harmsK (clLog h p f l s k) + oneK (hurtK h p f ((l.drop k).headD noF) s) := by
  rw [clLog_step h p f l s k hk, harmsK_snoc]; rfl
theorem head_at (l : List Flt) (k : Nat) (hk : k < l.length) : (l.drop k).headD noF = l[k] := by
  rw [List.drop_eq_getElem_cons hk]; rfl
set_option maxRecDepth 100000 in
set_option maxHeartbeats 4000000 in
theorem linkClean_walk (h p f : ByteArray) (v : Value) (l : List Flt) (s : ByteArray) (w : World) (hE : EnvF w) (hv : FaultsArg w v l) :
    Calls Tryz.prog 4 #[.agg #[.string h, .string p, .string f], v, .string s] w fun e w' => e = .returned (.bool true) ∧ Below w.heap.size w w' := by
  have HOv := Lib.hid (fun w => ref_oover h p f 500 w)
  have HB0 := Lib.hid (below_ro3 w (.string h) (.string p) (.string f))
  have HE0 := Lib.hid (hE.below HB0.out)
  have HQ0 := Lib.hid (OAt.new w 23 h p f)
  have HV := Lib.hid hv
  have HEw := Lib.hid hE
  have HOf := Lib.hid (fun W (hW : Below w.heap.size w W) => over28s v l 20 W (by decide) (hv.1.below hW) hv.2.2)
  obtain ⟨a, c, hvv, -⟩ := hv.1.len
  subst hvv
  clear hE hv
  obtain ⟨q0, q1, q2⟩ := HQ0.out.cells
  cases h1 : overO h.data.toList p.data.toList f.data.toList 500 with
  | true =>
    rw [h1] at HOv
    clear h1
    go_enter Tryz.func4, Tryz.ntmps4
    go_wp2_with fail
    refine (HOv.out _).mono ?_
    rintro e w1 ⟨rfl, hb1⟩
    have HB1 := Lib.hid (bstep HB0.out hb1)
    have HE1 := Lib.hid (HE0.out.below hb1)
    clear hb1
    go_wp2_with fail
    refine (awake29 _ HE1.out).mono ?_
    rintro e w2 ⟨rfl, hb2⟩
    go_wp2_with fail
    go_ret
    exact ⟨rfl, bstep HB1.out hb2⟩
  | false =>
  rw [h1] at HOv
  cases h2 : overC l 20 with
  | true =>
    rw [h2] at HOf
    clear h1 h2
    go_enter Tryz.func4, Tryz.ntmps4
    go_wp2_with fail
    refine (HOv.out _).mono ?_
    rintro e w1 ⟨rfl, hb1⟩
    have HB1 := Lib.hid (bstep HB0.out hb1)
    have HE1 := Lib.hid (HE0.out.below hb1)
    clear hb1
    go_wp2_with fail
    refine (HOf.out _ HB1.out).mono ?_
    rintro e w2 ⟨rfl, hww⟩
    obtain rfl := hww.symm
    clear hww
    go_wp2_with fail
    refine (awake29 _ HE1.out).mono ?_
    rintro e w2 ⟨rfl, hb2⟩
    go_wp2_with fail
    go_ret
    exact ⟨rfl, bstep HB1.out hb2⟩
  | false =>
  rw [h2] at HOf
  by_cases hlong : (700 : Int) < (s.size : Int)
  · have tl : decide ((s.size : Int) > 700) = true := decide_eq_true hlong
    clear h1 h2 hlong q0 q1 q2
    go_enter Tryz.func4, Tryz.ntmps4
    go_wp2_with fail
    refine (HOv.out _).mono ?_
    rintro e w1 ⟨rfl, hb1⟩
    have HB1 := Lib.hid (bstep HB0.out hb1)
    have HE1 := Lib.hid (HE0.out.below hb1)
    have HQ1 := Lib.hid (HQ0.out.below hb1)
    clear hb1
    go_wp2_with fail
    refine (HOf.out _ HB1.out).mono ?_
    rintro e w2 ⟨rfl, hww⟩
    obtain rfl := hww.symm
    clear hww
    obtain ⟨q0, q1, q2⟩ := HQ1.out.cells
    go_wp2_with fail
    refine (awake29 _ HE1.out).mono ?_
    rintro e w2 ⟨rfl, hb2⟩
    go_wp2_with fail
    go_ret
    exact ⟨rfl, bstep HB1.out hb2⟩
  have tl : decide ((s.size : Int) > 700) = false := decide_eq_false hlong
  obtain ⟨b1, b2, b3⟩ := overO_false h p f 500 h1
  obtain ⟨l1, l2⟩ := overC_ok h2
  have HFO := Lib.hid (flts_ok HV.out.2.1 l2)
  have HLL := Lib.hid l1
  have HFS := Lib.hid (fun W (hW : Below w.heap.size w W) => law29_faults _ l W (HV.out.1.below hW) (by omega))
  have HCk := Lib.hid (fun W => origin_check h p f W)
  by_cases hO : orgE h.data.toList p.data.toList = 0
  · have HNk := Lib.hid (fun W v hv => link_new h p f v l W hO hv (by omega))
    have HAn : Hid (∀ W, EnvF W → Calls Tryz.prog 22 #[.agg #[.string h, .string p, .string f], .string s] W fun e w' => e = .returned (.string (wholeK h p f s)) ∧ Below W.heap.size W w') := Lib.hid (fun W hE => origin_answer h p f s W hE (by omega) (by omega))
    have HFs : Hid (f.size ≤ 100000 ∧ s.size ≤ 1000) := Lib.hid (by omega)
    obtain ⟨WH, hWH⟩ : ∃ S, wholeK h p f s = S := ⟨_, rfl⟩
    rw [hWH] at HAn
    have HWH := Lib.hid hWH
    clear hWH
    clear h1 h2 hlong q0 q1 q2 b1 b2 b3 l1 l2 hO
    go_enter Tryz.func4, Tryz.ntmps4
    go_wp2_with fail
    refine (HOv.out _).mono ?_
    rintro e w1 ⟨rfl, hb1⟩
    have HB1 := Lib.hid (bstep HB0.out hb1)
    have HE1 := Lib.hid (HE0.out.below hb1)
    have HQ1 := Lib.hid (HQ0.out.below hb1)
    clear hb1
    go_wp2_with fail
    refine (HOf.out _ HB1.out).mono ?_
    rintro e w2 ⟨rfl, hww⟩
    obtain rfl := hww.symm
    clear hww
    obtain ⟨q0, q1, q2⟩ := HQ1.out.cells
    go_wp2_with fail
    have hB2 := below_o3 w1 (.string h) (.string p) (.string f)
    have HB5 := Lib.hid (bstep HB1.out hB2)
    have HE5 := Lib.hid (HE1.out.below hB2)
    have HX5 := Lib.hid (OAt.new w1 34 h p f)
    clear hB2 HB1 HE1 HQ1 q0 q1 q2 HB0 HE0 HQ0
    generalize (w1.alloc (.cells #[.string h, .string p, .string f] 34)) = W5 at HB5 HE5 HX5 ⊢
    generalize w1.heap.size = Y at HX5 ⊢
    have HS : Hid (∀ W, Below W5.heap.size W5 W → W.cell? ⟨Y, 0, none⟩ = some (.string h) ∧ W.cell? ⟨Y, 1, none⟩ = some (.string p) ∧ W.cell? ⟨Y, 2, none⟩ = some (.string f)) := Lib.hid (fun W hW => (HX5.out.below hW).cells)
    have HDr : Hid (Below W5.heap.size W5 W5.drew) := Lib.hid (Below.refl _ _).drew
    go_region_held3 (fun w' => w'.cell? ⟨Y, 0, none⟩ = some (.string h) ∧ w'.cell? ⟨Y, 1, none⟩ = some (.string p) ∧ w'.cell? ⟨Y, 2, none⟩ = some (.string f)) (first | exact HS.out _ HDr.out | exact HS.out _ HA1.out | exact HS.out _ HA2.out)
      (first
        | (go_at_call 12; refine (HFS.out _ (bstep HB5.out HDr.out)).mono ?_; rintro e wa ⟨a1, c1, rfl, ho1, hba⟩; have HA1 : Hid (Below W5.heap.size W5 wa) := Lib.hid (bstep HDr.out hba); have HO1 := Lib.hid (HoldsC.of_own ho1); clear hba ho1)
        | (go_at_call 11; refine (HNk.out _ _ HO1.out).mono ?_; rintro e wb hnew; obtain ⟨P, rv, rfl, hPlo, hk1, hbb⟩ := KL.new (bstep HB5.out HA1.out) hnew; have HK1 := Lib.hid hk1; have HA2 : Hid (Below W5.heap.size W5 wb) := Lib.hid (bstep HA1.out hbb); clear hbb hnew hk1 hPlo))
    all_goals
      obtain ⟨y0, y1, y2⟩ := HS.out _ HA2.out
      go_wp2_with fail
      refine (HAn.out _ (HE5.out.below HA2.out)).mono ?_
      rintro e wc ⟨rfl, hbc⟩
      have HK2 := Lib.hid (HK1.out.step hbc)
      clear hbc y0 y1 y2 HK1
      go_wp2_with fail
      go_loopw [11, 12] (fun hm i wr => ∃ k : Nat, k ≤ l.length ∧ i = .int .i64 k ∧ hm = .int .i64 (harmsK (clLog h p f l s k) : Nat) ∧ ∃ rv lv, KL w wr P h p f (l.drop k) (clLog h p f l s k) (harmsK (clLog h p f l s k)) rv lv) (fun _ i _ => l.length - (intOf i).toNat)
      case atStart => exact ⟨0, Nat.zero_le _, rfl, rfl, _, _, HK2.out⟩
      case round =>
        obtain ⟨k, hk, rfl, rfl, rv1, lv1, hkl⟩ := hrel
        have HKL := Lib.hid hkl
        clear hkl HK2
        by_cases hlt : k < l.length
        · have HAsk := Lib.hid (HKL.out.ask HEw.out s (by have := HFs.out.2; omega) HFs.out.1 (flt_ok HFO.out k) (by have := HLL.out; rw [List.length_drop]; omega) (by have := HLL.out; rw [clLog_len _ _ _ _ _ _ (by omega)]; omega) (by have := HLL.out; have := harms_le (clLog h p f l s k); rw [clLog_len _ _ _ _ _ _ (by omega)] at this; omega))
          go_wp2_with fail
          refine HAsk.out.mono ?_
          rintro e wd ⟨rfl, rv2, lv2, hk2, -, -⟩
          have hst := clLog_step h p f l s k (by omega)
          have hhm := clHarm_step h p f l s k (by omega)
          rw [head_at l k hlt] at hk2 hst hhm ⊢
          rw [drop_tail, ← hst, ← hhm] at hk2
          clear hst
          have hml := harms_le (clLog h p f l s k)
          rw [clLog_len _ _ _ _ _ _ (by omega)] at hml
          have hml2 : harmsK (clLog h p f l s k) ≤ 20 := by have := HLL.out; omega
          clear hml
          have hwl1 : IntKind.i64.wrap ((l.length : Int) - 1) = (l.length : Int) - 1 := by rw [IntKind.wrap_i64]; have := HLL.out; omega
          have hwl2 : IntKind.i64.wrap ((l.length : Int) - 1 - (k : Int)) = (l.length : Int) - 1 - (k : Int) := by rw [IntKind.wrap_i64]; have := HLL.out; omega
          have hdl : ((l.drop (k + 1)).length : Int) = (l.length : Int) - 1 - (k : Int) := by rw [List.length_drop]; omega
          obtain ⟨a', c', hvv, -, hx⟩ := HV.out.1.below hk2.bel
          injection hvv with e1 e2 e3
          subst e1 e3
          obtain ⟨b, o, rfl, hbl, hcell⟩ := hx (fun e => by rw [e] at hlt; exact absurd hlt (Nat.not_lt_zero _))
          obtain ⟨c0, c1, c2⟩ := hcell k hlt
          rw [Nat.mul_comm 3 k] at c0 c1 c2
          obtain ⟨X, hX⟩ : ∃ X, l[k] = X := ⟨_, rfl⟩
          have hxo : FltOk X := by rw [← hX]; exact HFO.out _ (List.getElem_mem ..)
          rw [hX] at c0 c1 c2 hhm ⊢
          clear hX hcell hx hbl e2
          obtain ⟨x1, x2, x3⟩ := X
          have hap := fun W hE => fault_apply x1 x2 x3 (wholeK h p f s) W hE hxo.k0 hxo.n0 hxo.n1 hxo.t (by have := whole_size h p f s (by have := HFs.out.1; omega); have := HFs.out.1; omega)
          rw [show bs (applyF x1 x2 x3.data.toList (wholeK h p f s)) = gotK h p f (x1, x2, x3) s from rfl] at hap
          have HAp := Lib.hid hap
          have hne := hurt_eq h p f (x1, x2, x3) s
          have HK3 := Lib.hid hk2
          clear hk2 HAsk hap hxo
          generalize harmsK (clLog h p f l s k) = m at hhm hml2 ⊢
          generalize hM : harmsK (clLog h p f l s (k + 1)) = m' at hhm HK3
          have HM := Lib.hid hM
          clear hM
          generalize gotK h p f (x1, x2, x3) s = G at hne HAp ⊢
          generalize hurtK h p f (x1, x2, x3) s = B at hne hhm ⊢
          rw [HWH.out] at hne HAp
          cases B with
          | true =>
            obtain rfl : m' = m + 1 := hhm
            have hne2 : (G.toList == WH.toList) = false := by simpa using hne.symm
            clear hne
            have wr1 : IntKind.i64.wrap ((m : Int) + 1) = (m : Int) + 1 := by rw [IntKind.wrap_i64]; omega
            go_wp2_with fail
            refine (HAp.out _ (HEw.out.below HK3.out.bel).weak).mono ?_
            rintro e we ⟨rfl, hbe⟩
            have HK4 := Lib.hid (HK3.out.step hbe)
            have hl20 := HLL.out
            clear hbe HK3
            go_wp2_with fail
            have HLf : Calls Tryz.prog 16 #[.pointer (some ⟨P, 0, none⟩)] we fun e w' => e = .returned (.int .i64 ((l.length : Int) - 1 - (k : Int))) ∧ w' = we := by rw [← hdl]; exact link_left HK4.out.a
            refine HLf.mono ?_
            clear HLf
            rintro e w' ⟨rfl, hww⟩
            obtain rfl := hww.symm
            clear hww
            go_wp2_with fail
            go_roundw
            case rel => exact ⟨k + 1, by omega, by go_num, by rw [HM.out]; go_num, rv2, lv2, by rw [HM.out]; exact HK4.out⟩
            case measure => simp [intOf]; omega
          | false =>
            obtain rfl : m' = m := hhm
            have hne2 : (G.toList == WH.toList) = true := by simpa using hne.symm
            clear hne
            go_wp2_with fail
            refine (HAp.out _ (HEw.out.below HK3.out.bel).weak).mono ?_
            rintro e we ⟨rfl, hbe⟩
            have HK4 := Lib.hid (HK3.out.step hbe)
            have hl20 := HLL.out
            clear hbe HK3
            go_wp2_with fail
            have HLf : Calls Tryz.prog 16 #[.pointer (some ⟨P, 0, none⟩)] we fun e w' => e = .returned (.int .i64 ((l.length : Int) - 1 - (k : Int))) ∧ w' = we := by rw [← hdl]; exact link_left HK4.out.a
            refine HLf.mono ?_
            clear HLf
            rintro e w' ⟨rfl, hww⟩
            obtain rfl := hww.symm
            clear hww
            go_wp2_with fail
            go_roundw
            case rel => exact ⟨k + 1, by omega, by go_num, by rw [HM.out], rv2, lv2, by rw [HM.out]; exact HK4.out⟩
            case measure => simp [intOf]; omega
        · obtain rfl : k = l.length := by omega
          have HAsk := Lib.hid (HKL.out.ask HEw.out s (by have := HFs.out.2; omega) HFs.out.1 (flt_ok HFO.out l.length) (by have := HLL.out; rw [List.length_drop]; omega) (by have := HLL.out; rw [clLog_len _ _ _ _ _ _ (by omega)]; omega) (by have := HLL.out; have := harms_le (clLog h p f l s l.length); rw [clLog_len _ _ _ _ _ _ (by omega)] at this; omega))
          go_wp2_with fail
          refine HAsk.out.mono ?_
          rintro e wd ⟨rfl, rv2, lv2, hk2, -, -⟩
          rw [List.drop_length, show ([] : List Flt).headD noF = noF from rfl] at hk2 ⊢
          rw [hurt_none, show oneK false = 0 from rfl, Nat.add_zero, show evK h p f noF s = ((s.size : Int), (WH.size : Int), false) by unfold evK; rw [got_none, hurt_none, HWH.out]] at hk2
          rw [got_none, HWH.out]
          have hll := clLog_len h p f l s l.length (by omega)
          generalize clLog h p f l s l.length = L0 at hk2 hll ⊢
          have hlast : ∀ hq, (L0 ++ [((s.size : Int), (WH.size : Int), false)])[l.length]'hq = ((s.size : Int), (WH.size : Int), false) := fun hq => by
            rw [List.getElem_append_right (by omega)]; simp [hll]
          have hLl : (L0 ++ [((s.size : Int), (WH.size : Int), false)]).length = l.length + 1 := by rw [List.length_append, hll]; rfl
          generalize harmsK L0 = m at hk2 ⊢
          generalize L0 ++ [((s.size : Int), (WH.size : Int), false)] = L at hk2 hlast hLl ⊢
          have HK3 := Lib.hid hk2
          have HLa := Lib.hid hlast
          have hgd := guard_levt
          have heq := eq_levt (s.size : Int) (WH.size : Int) false
          clear hk2 HAsk hll hlast
          go_wp2_with fail
          refine (link_log HK3.out.a (by rw [hLl]; have := HLL.out; omega)).mono ?_
          rintro e we ⟨a7, c7, rfl, ho7, hb7⟩
          have HK4 := Lib.hid (HK3.out.step hb7)
          obtain ⟨g, c8, hvv, -, -, z0, z1, z2⟩ := own_cells3 ho7 l.length (by omega)
          injection hvv with e1 e2 e3
          subst e1 e3
          rw [HLa.out] at z0 z1 z2
          rw [hLl]
          clear hb7 ho7 HK3 HLa
          go_wp2_with fail
          refine (link_harms HK4.out.a).mono ?_
          rintro e w' ⟨rfl, hww⟩
          obtain rfl := hww.symm
          clear hww
          have hw1 : IntKind.i64.wrap ((l.length : Int) + 1) = (l.length : Int) + 1 := by rw [IntKind.wrap_i64]; have := HLL.out; omega
          have hw2 : ((l.length + 1 : Nat) : Int) = (l.length : Int) + 1 := by omega
          set_option pp.deepTerms true in
          trace_state
          go_wp2_with fail
          set_option pp.deepTerms true in
          trace_state
          refine (awake29 _ (HEw.out.below HK4.out.bel)).mono ?_
          rintro e wd ⟨rfl, hbd⟩
          go_wp2_with fail
          go_ret
          exact ⟨rfl, bstep HK4.out.bel hbd⟩
  · have HNb := Lib.hid (fun v W => link_new_bad h p f v W hO)
    have hO2 : orgE h.data.toList p.data.toList = 2 := by
      unfold orgE at hO ⊢
      split
      · rfl
      · rename_i hh; rw [if_neg hh] at hO; exact absurd rfl hO
    rw [hO2] at HCk
    clear h1 h2 hlong q0 q1 q2 b1 b2 b3 l1 l2 hO hO2
    go_enter Tryz.func4, Tryz.ntmps4
    go_wp2_with fail
    refine (HOv.out _).mono ?_
    rintro e w1 ⟨rfl, hb1⟩
    have HB1 := Lib.hid (bstep HB0.out hb1)
    have HE1 := Lib.hid (HE0.out.below hb1)
    have HQ1 := Lib.hid (HQ0.out.below hb1)
    clear hb1
    go_wp2_with fail
    refine (HOf.out _ HB1.out).mono ?_
    rintro e w2 ⟨rfl, hww⟩
    obtain rfl := hww.symm
    clear hww
    obtain ⟨q0, q1, q2⟩ := HQ1.out.cells
    go_wp2_with fail
    have hB2 := below_o3 w1 (.string h) (.string p) (.string f)
    have HB5 := Lib.hid (bstep HB1.out hB2)
    have HE5 := Lib.hid (HE1.out.below hB2)
    have HX5 := Lib.hid (OAt.new w1 34 h p f)
    clear hB2 HB1 HE1 HQ1 q0 q1 q2 HB0 HE0 HQ0
    generalize (w1.alloc (.cells #[.string h, .string p, .string f] 34)) = W5 at HB5 HE5 HX5 ⊢
    generalize w1.heap.size = Y at HX5 ⊢
    have HS : Hid (∀ W, Below W5.heap.size W5 W → W.cell? ⟨Y, 0, none⟩ = some (.string h) ∧ W.cell? ⟨Y, 1, none⟩ = some (.string p) ∧ W.cell? ⟨Y, 2, none⟩ = some (.string f)) := Lib.hid (fun W hW => (HX5.out.below hW).cells)
    have HDr : Hid (Below W5.heap.size W5 W5.drew) := Lib.hid (Below.refl _ _).drew
    go_region_held3 (fun w' => w'.cell? ⟨Y, 0, none⟩ = some (.string h) ∧ w'.cell? ⟨Y, 1, none⟩ = some (.string p) ∧ w'.cell? ⟨Y, 2, none⟩ = some (.string f)) (first | exact HS.out _ HDr.out | exact HS.out _ HA1.out | exact HS.out _ HA2.out)
      (first
        | (go_at_call 12; refine (HFS.out _ (bstep HB5.out HDr.out)).mono ?_; rintro e wa ⟨a1, c1, rfl, -, hba⟩; have HA1 : Hid (Below W5.heap.size W5 wa) := Lib.hid (bstep HDr.out hba); clear hba)
        | (go_at_call 11; refine (HNb.out _ _).mono ?_; rintro e wb ⟨rfl, hbb⟩; have HA2 : Hid (Below W5.heap.size W5 wb) := Lib.hid (bstep HA1.out hbb); clear hbb))
    all_goals
      obtain ⟨y0, y1, y2⟩ := HS.out _ HA2.out
      go_wp2_with fail
      refine (HCk.out _).mono ?_
      rintro e wc ⟨rfl, hbc⟩
      have HA3 : Hid (Below W5.heap.size W5 wc) := Lib.hid (bstep HA2.out hbc)
      clear hbc
      go_wp2_with fail
      refine (awake29 _ (HE5.out.below HA3.out)).mono ?_
      rintro e wd ⟨rfl, hbd⟩
      go_wp2_with fail
      go_ret
      exact ⟨rfl, bstep HB5.out (bstep HA3.out hbd)⟩
end Go.Proofs.YtomkeckknoclcaaGreatDoor
namespace Go.Proofs.YtomkeckknoclcaaGreatDoor
open Go.RowKit

def renU : Go.Shelf.Ren := ⟨fun n => n, fun | 5 => 5 | 119 => 242 | 138 => 244 | 139 => 245 | n => n, fun | 3 => 1 | 4 => 2 | n => n⟩
theorem u8t : U8Types Tryz.prog renU := ⟨Tryz.underlying5, Tryz.underlying242, Tryz.underlying244, Tryz.underlying245⟩
theorem u8x : U8Extra Tryz.prog renU := ⟨by kernel_rfl, by kernel_rfl, by kernel_rfl, by kernel_rfl, by kernel_rfl, by kernel_rfl, by kernel_rfl⟩
theorem accept_data : (Rows.laid_unicode_utf8_acceptRanges : DataW Unit) = Go.Lib.acceptData := by kernel_rfl
theorem pow10_data : (Rows.laid_internal_strconv_uint64pow10 : DataW Unit) = Go.Lib.tabData .u64 Go.Lib.pow10Tab := rfl
theorem maxLen_cell {W : World} (h : W.ShapedOpen Tryz.prog) : ∃ m, W.cell? ⟨3, 0, none⟩ = some (.int .i64 m) := Tryz.laysM145.s1_3 W h
theorem lt_of_cell {W : World} {g : Nat} {v : Value} (h : W.cell? ⟨g, 0, none⟩ = some v) : g < W.heap.size := World.block_lt_of_cell? _ _ h
theorem err_star : "*" ++ "errors.errorString" = "*errors.errorString" := by decide
theorem err_row (u : TypeId) (h : Tryz.prog.typeName? 3 u = some "*errors.errorString") : u = 309 :=
  typeName_ptr_named (nm := "errors.errorString") (by rw [err_star]; kernel_rfl) (by kernel_rfl) (by decide) u (by rw [err_star]; exact h)
theorem env_of {W : World} {rest : List (String × DataW Unit)} (h : laidMet Tryz.prog (("math/bits.deBruijn32tab", Rows.laid_math_bits_deBruijn32tab) :: ("math/bits.deBruijn64tab", Rows.laid_math_bits_deBruijn64tab) :: ("internal/strconv.uint64pow10", Rows.laid_internal_strconv_uint64pow10) :: ("unicode/utf8.acceptRanges", Rows.laid_unicode_utf8_acceptRanges) :: ("strconv.ErrRange", Rows.laid_strconv_ErrRange) :: rest) W)
    (hf : ("unicode/utf8.first", Rows.laid_unicode_utf8_first) ∈ rest) (hsh : W.ShapedOpen Tryz.prog) : EnvF W := by
  have ht : Go.Lib.TabIs Tryz.prog W "internal/strconv.uint64pow10" .u64 Go.Lib.pow10Tab :=
    Go.Lib.tabIs_of_head (n := 20) (t := 237) (e := 222) g_pow10 (by kernel_rfl) (by kernel_rfl) (by kernel_rfl) (by kernel_rfl) (by kernel_rfl) h.tail.tail
  have h3 : Go.Lib.VarReads Tryz.prog W "unicode/utf8.first" Go.Lib.firstData := by
    have := Go.Lib.laidMet.reads h (n := "unicode/utf8.first") (d := Rows.laid_unicode_utf8_first) (by simp [hf])
    rwa [show (Rows.laid_unicode_utf8_first : DataW Unit) = Go.Lib.firstData from Pinned.utf8First_eq] at this
  have h4 : Go.Lib.VarReads Tryz.prog W "unicode/utf8.acceptRanges" Go.Lib.acceptData := by
    have := Go.Lib.laidMet.reads h (n := "unicode/utf8.acceptRanges") (d := Rows.laid_unicode_utf8_acceptRanges) (by simp)
    rwa [accept_data] at this
  obtain ⟨a0, s0, hv0, _, _, _⟩ := laid_sentinel h.tail.tail.tail.tail (g := 7) (ti := 191) (tp := 309) (te := 311) (ts := 9) (by kernel_rfl) (by kernel_rfl) Tryz.underlying191 err_row Tryz.underlying309 Tryz.underlying311 rfl rfl Tryz.underlying9 (by kernel_rfl) (by kernel_rfl)
  obtain ⟨m, hm⟩ := maxLen_cell hsh
  have hr : W.cell? ⟨7, 0, none⟩ = some (.iface 309 (.pointer (some a0))) := World.var?_cell (show Tryz.prog.globalNamed "strconv.ErrRange" = some 7 by kernel_rfl) hv0 0
  refine ⟨⟨m, hm⟩, lt_of_cell hm, utf8Tabs_of_readsT u8t u8x h3 h4, ht, ?_, ⟨_, _, hr⟩, lt_of_cell hr⟩
  rcases Nat.lt_or_ge 0 W.heap.size with hlt | hge
  · exact hlt
  · unfold Go.Lib.TabIs World.var? at ht
    rw [g_pow10] at ht
    simp [Array.getElem?_eq_none hge] at ht
end Go.Proofs.YtomkeckknoclcaaGreatDoor
namespace Go.Proofs.YtomkeckknoclcaaGreatDoor
open Go.RowKit
theorem linkClean_go (h p f : ByteArray) (v : Value) (l : List Flt) (s : ByteArray) (W : World) (_ : h.size ≤ maxLen) (_ : p.size ≤ maxLen) (_ : f.size ≤ maxLen) (hv : FaultsArg W v l) (_ : s.size ≤ maxLen) (hL : laidMetH Tryz.prog Rows.linkCleanRow.laid W) (hsh : W.ShapedOpen Tryz.prog) :
    Calls Tryz.prog 4 #[.agg #[.string h, .string p, .string f], v, .string s] W fun e W' => e = .returned (.bool true) ∧ Below W.heap.size W W' := by
  rw [MakeChecks.laidMetH_plain _ _ _ (by kernel_rfl)] at hL
  exact linkClean_walk h p f v l s W (env_of hL (by simp) hsh) hv
end Go.Proofs.YtomkeckknoclcaaGreatDoor
