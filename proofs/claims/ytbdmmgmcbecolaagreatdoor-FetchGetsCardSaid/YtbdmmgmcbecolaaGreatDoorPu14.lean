/- What Faults and Back of the laws of layer 29 return. Same of the reference of link, of logs that are the same. What a fork of a link is told, as a row of texts. The small example of the laws of layer 46. The small example of the laws of layer 29: the walk. What an argument that is a slice of the reference's fields reads as. What an argument that is a slice of ranges reads as. What an argument that is a slice of the document's faults reads as; Over of them. What Ask of the reference of link returns. The law LinkClean. The law LinkAsks. Plain words: what an answer's bytes tell to one who asked for a range (no program in sight). Plain words: what a client fetches of a link: rounds of one request (no program in sight). What Tell of package ranges returns. -/
import Derived.Test.YtbdmmgmcbecolaaGreatDoorPu13
import Derived.Laws.StructEq
import Derived.BigQuiet
import Derived.Deep.RegionHeld3
import Derived.Deep.Slices
import Derived.Deep.Fields
import Derived.ChangeSame
set_option linter.unusedVariables false
set_option linter.unusedSimpArgs false
namespace Go.Proofs.YtbdmmgmcbecolaaGreatDoor
open Go.RowKit
def FaultsPost (l : List Flt) (w : World) (e : Ending) (w' : World) : Prop :=
  ∃ a c, e = .returned (.slice a l.length c) ∧ w'.ownsRow w.heap.size 65 3 (.slice a l.length c) l.length (flts l) ∧ Below w.heap.size w w'
set_option maxRecDepth 100000 in
set_option maxHeartbeats 2000000 in
theorem law29_faults (v : Value) (l : List Flt) (w : World) (hv : HoldsC w v l) (hlen : l.length < 2147483647) :
    Calls Tryz.prog 37 #[v] w (FaultsPost l w) := by
  obtain ⟨a, c, rfl, hc, hx⟩ := hv
  have HX := Lib.hid hx
  clear hx
  go_enter Tryz.func37, Tryz.ntmps37
  go_wp2_with fail
  go_loopw [3, 4] (fun u i wr => ∃ k : Nat, k ≤ l.length ∧ i = .int .i64 k ∧ wr.ownsRow w.heap.size 65 3 u k (flts (l.take k)) ∧ Below w.heap.size w wr) (fun _ i _ => l.length - (intOf i).toNat)
  case atStart => exact ⟨0, by omega, rfl, World.ownsRow_nil _ _ _ _, Below.refl _ _⟩
  case round =>
    obtain ⟨k, hk, rfl, hown, hb⟩ := hrel
    by_cases hlt : k < l.length
    · obtain ⟨b, o, rfl, hbl, hcell⟩ := HX.out (fun e => by rw [e] at hlt; exact absurd hlt (Nat.not_lt_zero _))
      obtain ⟨y0, y1, y2⟩ := hcell k hlt
      rw [Nat.mul_comm 3 k] at y0 y1 y2
      have c0 := (hb.cell (p := ⟨b, o + k * 3, none⟩) hbl).trans y0
      have c1 := (hb.cell (p := ⟨b, o + k * 3 + 1, none⟩) hbl).trans y1
      have c2 := (hb.cell (p := ⟨b, o + k * 3 + 2, none⟩) hbl).trans y2
      have hstep : flts (l.take (k + 1)) = flts (l.take k) ++ [.int .u8 l[k].1, .int .i64 l[k].2.1, .string l[k].2.2] := by rw [List.take_succ_eq_append_getElem hlt, flts_append]; rfl
      obtain ⟨X, hX⟩ : ∃ X, l[k] = X := ⟨_, rfl⟩
      rw [hX] at c0 c1 c2 hstep
      obtain ⟨x1, x2, x3⟩ := X
      have hst := Lib.hid hstep
      clear hcell HX y0 y1 y2 hX hstep
      go_wp2_with (at_builtin; go_loud (refine append3 66 65 _ 32 Tryz.underlying66 info_flt rfl (by decide) wr (.int .u8 x1) (.int .i64 x2) (.string x3) rfl rfl rfl (by rfl) _ _ (by rfl) w.heap.size _ k _ (by rfl) hown (by rfl) (by omega) hb.size ?_); intro g cap w1 hown1 hg1 hd1)
      go_roundw
      case rel => exact ⟨k + 1, by omega, by go_num, by rw [hst.out]; exact hown1, below_ownF hb hg1 hown (Nat.le_refl _) hb.size⟩
      case measure => simp [intOf]; omega
    · obtain rfl : k = l.length := by omega
      rw [List.take_length] at hown
      obtain ⟨a', c', rfl⟩ := slice_of_own hown
      go_wp2_with fail
      go_ret
      exact ⟨_, _, rfl, hown, hb⟩
theorem info_revt : (Tryz.prog.info? 106).map (fun i => (i.zero, i.size, i.bytes)) = some (some (.agg #[.int .i64 0, .int .i64 0, .bool false]), 3, 24) := by kernel_rfl
def BackPost (l : List Evt) (w : World) (e : Ending) (w' : World) : Prop :=
  ∃ a c, e = .returned (.slice a l.length c) ∧ w'.ownsRow w.heap.size 106 3 (.slice a l.length c) l.length (evs l) ∧ Below w.heap.size w w'
theorem own_cells3 {w : World} {b0 n : Nat} {e : TypeId} {v : Value} {l : List Evt} (h : w.ownsRow b0 e 3 v n (evs l)) (k : Nat) (hk : k < l.length) : ∃ g c, v = .slice (some ⟨g, 0, none⟩) n c ∧ b0 ≤ g ∧ g < w.heap.size ∧ w.cell? ⟨g, k * 3, none⟩ = some (.int .i64 l[k].1) ∧ w.cell? ⟨g, k * 3 + 1, none⟩ = some (.int .i64 l[k].2.1) ∧ w.cell? ⟨g, k * 3 + 2, none⟩ = some (.bool l[k].2.2) := by
  rcases id h.2 with ⟨-, h0⟩ | ⟨g, cap, cur, rfl, -⟩
  · have := h.1; rw [evs_length] at this; omega
  · obtain ⟨x, y, z⟩ := evs_get l k hk
    rw [Nat.mul_comm 3 k] at x y z
    have e0 : ∀ i, (⟨g, 0, none⟩ : Addr).add i = ⟨g, i, none⟩ := fun i => by unfold Addr.add; split <;> simp_all
    have key : ∀ i u, (evs l)[i]? = some u → w.cell? ⟨g, i, none⟩ = some u := fun i u hu => by
      have := h.cells (g := g) rfl i u hu
      rwa [e0] at this
    exact ⟨g, cap, rfl, (h.lt g rfl).1, (h.lt g rfl).2, key _ _ x, key _ _ y, key _ _ z⟩
set_option maxRecDepth 100000 in
set_option maxHeartbeats 2000000 in
theorem law29_back (v : Value) (l : List Evt) (b0 : Nat) (w : World) (hv : w.ownsRow b0 107 3 v l.length (evs l)) (hlen : l.length < 2147483647) :
    Calls Tryz.prog 22 #[v] w (BackPost l w) := by
  have HX := Lib.hid (fun k hk => own_cells3 hv k hk)
  obtain ⟨a, c, rfl⟩ := slice_of_own hv
  clear hv
  go_enter Tryz.func22, Tryz.ntmps22
  go_wp2_with fail
  go_loopw [3, 4] (fun u i wr => ∃ k : Nat, k ≤ l.length ∧ i = .int .i64 k ∧ wr.ownsRow w.heap.size 106 3 u k (evs (l.take k)) ∧ Below w.heap.size w wr) (fun _ i _ => l.length - (intOf i).toNat)
  case atStart => exact ⟨0, by omega, rfl, World.ownsRow_nil _ _ _ _, Below.refl _ _⟩
  case round =>
    obtain ⟨k, hk, rfl, hown, hb⟩ := hrel
    by_cases hlt : k < l.length
    · obtain ⟨g0, c0', hvv, -, hbl, y0, y1, y2⟩ := HX.out k hlt
      injection hvv with e1 e2 e3
      subst e1 e3
      have c0 := (hb.cell (p := ⟨g0, k * 3, none⟩) hbl).trans y0
      have c1 := (hb.cell (p := ⟨g0, k * 3 + 1, none⟩) hbl).trans y1
      have c2 := (hb.cell (p := ⟨g0, k * 3 + 2, none⟩) hbl).trans y2
      have hstep : evs (l.take (k + 1)) = evs (l.take k) ++ [.int .i64 l[k].1, .int .i64 l[k].2.1, .bool l[k].2.2] := by rw [List.take_succ_eq_append_getElem hlt, evs_append]; rfl
      obtain ⟨X, hX⟩ : ∃ X, l[k] = X := ⟨_, rfl⟩
      rw [hX] at c0 c1 c2 hstep
      obtain ⟨x1, x2, x3⟩ := X
      have hst := Lib.hid hstep
      clear HX y0 y1 y2 hX hstep
      go_wp2_with (at_builtin; go_loud (refine append3 48 106 _ 24 Tryz.underlying48 info_revt rfl (by decide) wr (.int .i64 x1) (.int .i64 x2) (.bool x3) rfl rfl rfl (by rfl) _ _ (by rfl) w.heap.size _ k _ (by rfl) hown (by rfl) (by omega) hb.size ?_); intro g cap w1 hown1 hg1 hd1)
      go_roundw
      case rel => exact ⟨k + 1, by omega, by go_num, by rw [hst.out]; exact hown1, below_ownF hb hg1 hown (Nat.le_refl _) hb.size⟩
      case measure => simp [intOf]; omega
    · obtain rfl : k = l.length := by omega
      rw [List.take_length] at hown
      obtain ⟨a', c', rfl⟩ := slice_of_own hown
      go_wp2_with fail
      go_ret
      exact ⟨_, _, rfl, hown, hb⟩
end Go.Proofs.YtbdmmgmcbecolaaGreatDoor
namespace Go.Proofs.YtbdmmgmcbecolaaGreatDoor
open Go.RowKit
theorem neq_revt (a b : Int) (c : Bool) (w : World) : (binOp .neq 106 (.agg #[.int .i64 a, .int .i64 b, .bool c]) (.agg #[.int .i64 a, .int .i64 b, .bool c])).run Tryz.prog w = .ok (.bool false) w := by
  have u1 := Tryz.underlying3
  have u2 := Tryz.underlying4
  have hS : Tryz.prog.underlying 106 = some (.struct (Tryz.prog.fieldsOf 106)) := by kernel_rfl
  have hp : Tryz.prog.stoodInHeld 106 = false := by kernel_rfl
  rw [run_neq_struct, show (10000 : Nat) = 9998 + 2 from rfl, run_equalIn_agg w (9998 + 1) 106 _ _ hS hp]
  simp only [Program.fieldsOf, Tryz.underlying106]
  go_simp
theorem guard_revt (op : BinOp) (x y : Operand) (xs ys : Array Value) (w : World) : (eqGuard op 106 x y (.agg xs) (.agg ys)).run Tryz.prog w = .ok () w :=
  run_eqGuard_agg w op 106 x y xs ys (by kernel_rfl)
set_option maxRecDepth 100000 in
set_option maxHeartbeats 2000000 in
theorem same29 (va vb : Value) (b1 b2 : Nat) (l : List Evt) (w : World) (hA : w.ownsRow b1 106 3 va l.length (evs l)) (hB : w.ownsRow b2 106 3 vb l.length (evs l)) (hl : l.length ≤ 1000000) :
    Calls Tryz.prog 21 #[va, vb] w fun e w' => e = .returned (.bool true) ∧ Below w.heap.size w w' := by
  have HX := Lib.hid (fun k hk => own_cells3 hA k hk)
  have HY := Lib.hid (fun k hk => own_cells3 hB k hk)
  obtain ⟨a, c, rfl⟩ := slice_of_own hA
  obtain ⟨b, d, rfl⟩ := slice_of_own hB
  have hgd := guard_revt
  have hlI : ((l.length : Int) != (l.length : Int)) = false := by rw [bne_eq_false_iff_eq]
  clear hA hB
  go_enter Tryz.func21, Tryz.ntmps21
  go_wp2_with fail
  go_loopw [5] (fun j wr => ∃ k : Nat, k ≤ l.length ∧ j = .int .i64 k ∧ Below w.heap.size w wr) (fun j _ => l.length - (intOf j).toNat)
  case atStart => exact ⟨0, by omega, rfl, Below.refl _ _⟩
  case round =>
    obtain ⟨k, hk, rfl, hb⟩ := hrel
    by_cases hlt : k < l.length
    · obtain ⟨g0, c0', hvv, -, hbl, y0, y1, y2⟩ := HX.out k hlt
      injection hvv with e1 e2 e3
      subst e1 e3
      obtain ⟨g1, c1', hvv, -, hbl1, z0, z1, z2⟩ := HY.out k hlt
      injection hvv with e1 e2 e3
      subst e1 e3
      have c0 := (hb.cell (p := ⟨g0, k * 3, none⟩) hbl).trans y0
      have c1 := (hb.cell (p := ⟨g0, k * 3 + 1, none⟩) hbl).trans y1
      have c2 := (hb.cell (p := ⟨g0, k * 3 + 2, none⟩) hbl).trans y2
      have d0 := (hb.cell (p := ⟨g1, k * 3, none⟩) hbl1).trans z0
      have d1 := (hb.cell (p := ⟨g1, k * 3 + 1, none⟩) hbl1).trans z1
      have d2 := (hb.cell (p := ⟨g1, k * 3 + 2, none⟩) hbl1).trans z2
      obtain ⟨X, hX⟩ : ∃ X, l[k] = X := ⟨_, rfl⟩
      rw [hX] at c0 c1 c2 d0 d1 d2
      obtain ⟨x1, x2, x3⟩ := X
      have hne := neq_revt x1 x2 x3
      clear HX HY y0 y1 y2 z0 z1 z2 hX
      go_wp2_with fail
      go_quiet (fail)
      go_wp2_with fail
      go_roundw
      case rel => exact ⟨k + 1, by omega, by go_num, (hb.trans ⟨rfl, rfl, rfl, Nat.le_refl _, fun _ _ => rfl⟩)⟩
      case measure => simp [intOf]; omega
    · obtain rfl : k = l.length := by omega
      go_wp2_with fail
      go_ret
      exact ⟨rfl, hb⟩
end Go.Proofs.YtbdmmgmcbecolaaGreatDoor
namespace Go.Proofs.YtbdmmgmcbecolaaGreatDoor
open Go.RowKit
theorem grown_touch {w w' : World} {v : Value} (hg : w.grownBy w' v.ownBlock) : Touch (fun g => v.ownBlock = some g) w w' := Touch.of_grown hg (fun g h => .inl h)
/-- an owned row of another type grows beside a link -/
theorem KL.row {w0 w w' : World} {P : Nat} {h p f : ByteArray} {rest : List Flt} {log : List Evt} {n : Nat} {rv lv : Value} (k : KL w0 w P h p f rest log n rv lv) {b sz m : Nat} {e : TypeId} {v : Value} {xs : List Value} (ho : w.ownsRow b e sz v m xs) (h1 : e ≠ 97) (h2 : e ≠ 107) (h3 : e ≠ 65) (hlo : w0.heap.size ≤ b) (hg : w.grownBy w' v.ownBlock) : KL w0 w' P h p f rest log n rv lv := by
  have ht := grown_touch hg
  refine ⟨k.a.touch ht ?_ ?_ ?_, k.lo, k.bel.trans (ht.below (fun g hg => Nat.le_trans hlo (ho.lt g hg).1) k.bel.size)⟩
  · exact fun e1 => own_not_row ho k.a.blk h1 e1
  · intro b hb e1
    obtain ⟨C, hC⟩ := k.a.tag b hb
    exact own_not_row ho hC h3 e1
  · intro g hg e1
    exact (own_apart ho k.a.own h2).elim (fun e3 => by rw [e1] at e3; cases e3) (fun e3 => e3 (by rw [e1, hg]))
theorem K2.row {w0 w w' : World} {P Q : Nat} {h p f : ByteArray} {r1 r2 : List Flt} {g1 g2 : List Evt} {n1 n2 : Nat} {rv1 rv2 lv1 lv2 : Value} (k : K2 w0 w P Q h p f r1 r2 g1 g2 n1 n2 rv1 rv2 lv1 lv2) {b sz m : Nat} {e : TypeId} {v : Value} {xs : List Value} (ho : w.ownsRow b e sz v m xs) (h1 : e ≠ 97) (h2 : e ≠ 107) (h3 : e ≠ 65) (hlo : w0.heap.size ≤ b) (hg : w.grownBy w' v.ownBlock) : K2 w0 w' P Q h p f r1 r2 g1 g2 n1 n2 rv1 rv2 lv1 lv2 :=
  ⟨k.a.row ho h1 h2 h3 hlo hg, k.b.row ho h1 h2 h3 hlo hg, k.ne, k.ap⟩
end Go.Proofs.YtbdmmgmcbecolaaGreatDoor
namespace Go.Proofs.YtbdmmgmcbecolaaGreatDoor
open Go.RowKit
end Go.Proofs.YtbdmmgmcbecolaaGreatDoor
namespace Go.Proofs.YtbdmmgmcbecolaaGreatDoor
open Go.RowKit
end Go.Proofs.YtbdmmgmcbecolaaGreatDoor
namespace Go.Proofs.YtbdmmgmcbecolaaGreatDoor
open Go.RowKit

theorem len_two {α : Type} {l : List α} (h : l.length = 2) : ∃ a b, l = [a, b] := by
  cases l with
  | nil => simp at h
  | cons a t => cases t with
    | nil => simp at h
    | cons b u => cases u with
      | nil => exact ⟨a, b, rfl⟩
      | cons c v => simp at h
end Go.Proofs.YtbdmmgmcbecolaaGreatDoor
namespace Go.Proofs.YtbdmmgmcbecolaaGreatDoor
open Go.RowKit
def HoldsR (w : World) (v : Value) (rs : List (Int × Int)) : Prop :=
  ∃ a c, v = .slice a rs.length c ∧ rs.length ≤ c ∧ (rs ≠ [] → ∃ b o, a = some ⟨b, o, none⟩ ∧ b < w.heap.size ∧ ∀ j (hj : j < rs.length), w.cell? ⟨b, o + j * 2, none⟩ = some (.int .i64 rs[j].1) ∧ w.cell? ⟨b, o + j * 2 + 1, none⟩ = some (.int .i64 rs[j].2))
theorem HoldsR.nil (w : World) (a : Option Addr) (c : Nat) : HoldsR w (.slice a 0 c) [] := ⟨a, c, rfl, Nat.zero_le _, fun h => absurd rfl h⟩
def RangesArg (W : World) (v : Value) (rs : List (Int × Int)) : Prop := HoldsR W v rs ∧ (∀ r ∈ rs, (Lit.int .i64 r.1).wf = true ∧ (Lit.int .i64 r.2).wf = true) ∧ rs.length ≤ maxLen
theorem int_cell {H : Type} {enc : TypeId × Value → H} {W : World} {n : Nat} {cs : List Value} {x : DataW H × List MemPlace} (h : DataW.trod enc Tryz.prog W 0 (fun _ => true) true n 3 cs = some x) : ∃ k : Int, cs = [.int .i64 k] ∧ (Lit.int .i64 k).wf = true := by
  obtain ⟨k, h1, h2, h3⟩ := DataW.trod_int Tryz.underlying3 h
  exact ⟨k, h1, h3⟩
set_option maxRecDepth 10000 in
theorem rangesArg_of {H : Type} {enc : TypeId × Value → H} {W : World} {b : Option Addr} {n c : Nat} {d : DataW H} {p : List MemPlace}
    (h : DataW.Trod enc Tryz.prog W 0 (fun _ => true) true 42 (.slice b n c) d p) : ∃ fs, RangesArg W (.slice b n c) fs := by
  obtain ⟨fuel, hf⟩ := h
  rcases Go.Deep.open_slice Tryz.underlying42 hf with ⟨hcs, _⟩ | ⟨a, len, cap, m, q, D, Pl, hcs, _, hl, hm, hmm, _, hi⟩
  · simp [Value.cells] at hcs
    obtain ⟨rfl, rfl, rfl⟩ := hcs
    exact ⟨[], HoldsR.nil W none 0, fun f hf => by simp at hf, by unfold maxLen; simp⟩
  · simp [Value.cells] at hcs
    obtain ⟨rfl, rfl, rfl⟩ := hcs
    have hC : Tryz.prog.cellsOf 23 = 2 := by kernel_rfl
    have hS : Tryz.prog.cellsOf 3 = 1 := by kernel_rfl
    have key : ∀ i, ∃ f : Int × Int, i < n → W.cell? (a.add (i * 2)) = some (.int .i64 f.1) ∧ W.cell? (a.add (i * 2 + 1)) = some (.int .i64 f.2) ∧ (Lit.int .i64 f.1).wf = true ∧ (Lit.int .i64 f.2).wf = true := by
      intro i
      by_cases hin : i < n
      · obtain ⟨cs', hc', ht⟩ := hi i (by rw [hmm]; simp; omega)
        rw [hC] at hc'
        obtain ⟨_, hcl, hcell⟩ := World.cells?_some hc'
        obtain ⟨xs, k, _, _, hcl2, hxl, hg⟩ := DataW.trod_struct Tryz.underlying23 ht
        obtain ⟨u0, u1, rfl⟩ := len_two hcl
        have hxl2 : xs.length = 2 := hxl
        obtain ⟨z0, z1, rfl⟩ := len_two hxl2
        have g0 : DataW.trod enc Tryz.prog W 0 (fun _ => true) true k 3 (([u0, u1].drop 0).take (Tryz.prog.cellsOf 3)) = some z0 := hg 0 _ rfl
        have g1 : DataW.trod enc Tryz.prog W 0 (fun _ => true) true k 3 (([u0, u1].drop 1).take (Tryz.prog.cellsOf 3)) = some z1 := hg 1 _ rfl
        rw [hS] at g0 g1
        obtain ⟨l0, e0, b0⟩ := int_cell g0
        obtain ⟨l1, e1, b1⟩ := int_cell g1
        have c0 := hcell 0 (by omega)
        have c1 := hcell 1 (by omega)
        rw [Go.Deep.add_add] at c0 c1
        simp at e0 e1 c0 c1
        subst e0 e1
        exact ⟨(l0, l1), fun _ => ⟨c0, c1, b0, b1⟩⟩
      · exact ⟨(0, 0), fun h => absurd h hin⟩
    obtain ⟨g, hg⟩ := Classical.skolem.1 key
    have hlen : ((List.range n).map g).length = n := by simp
    refine ⟨(List.range n).map g, ⟨some a, c, by rw [hlen], by rw [hlen]; exact hl, fun hne => ?_⟩, ?_, by rw [hlen]; omega⟩
    · have hpos : 0 < n := by
        rcases Nat.eq_zero_or_pos n with h0 | h0
        · subst h0; simp at hne
        · exact h0
      have h0 := (hg 0 hpos).1
      obtain ⟨b, o, sp⟩ := a
      have hsp : sp = none := by simpa [Addr.add] using World.cell?_spot h0
      subst hsp
      have ea : ∀ k, (⟨b, o, none⟩ : Addr).add k = ⟨b, o + k, none⟩ := fun k => by unfold Addr.add; split <;> simp_all
      refine ⟨b, o, rfl, by have := World.block_lt_of_cell? _ _ h0; simpa [Addr.add] using this, fun j hj => ?_⟩
      rw [hlen] at hj
      have hj2 := hg j hj
      rw [ea, ea] at hj2
      rw [List.getElem_map, List.getElem_range]
      exact ⟨hj2.1, hj2.2.1⟩
    · intro f hf
      obtain ⟨i, hi', rfl⟩ := List.mem_map.1 hf
      exact (hg i (List.mem_range.1 hi')).2.2
end Go.Proofs.YtbdmmgmcbecolaaGreatDoor
namespace Go.Proofs.YtbdmmgmcbecolaaGreatDoor
open Go.RowKit
/-- the slice v reads as the faults l, each within the bounds of its type -/
def FaultsArg (W : World) (v : Value) (l : List Flt) : Prop := HoldsC W v l ∧ (∀ x ∈ l, (Lit.int .u8 x.1).wf = true ∧ (Lit.int .i64 x.2.1).wf = true) ∧ l.length ≤ maxLen
theorem u8_cell {H : Type} {enc : TypeId × Value → H} {W : World} {n : Nat} {cs : List Value} {x : DataW H × List MemPlace} (h : DataW.trod enc Tryz.prog W 0 (fun _ => true) true n 5 cs = some x) : ∃ k : Int, cs = [.int .u8 k] ∧ (Lit.int .u8 k).wf = true := by
  obtain ⟨k, h1, h2, h3⟩ := DataW.trod_int Tryz.underlying5 h
  exact ⟨k, h1, h3⟩
theorem str_cell {H : Type} {enc : TypeId × Value → H} {W : World} {n : Nat} {cs : List Value} {x : DataW H × List MemPlace} (h : DataW.trod enc Tryz.prog W 0 (fun _ => true) true n 9 cs = some x) : ∃ s : ByteArray, cs = [.string s] ∧ s.size ≤ maxLen := by
  obtain ⟨k, h1, h2, h3⟩ := DataW.trod_string Tryz.underlying9 h
  exact ⟨k, h1, h3⟩
theorem len_3 {α : Type} {l : List α} (h : l.length = 3) : ∃ a b c, l = [a, b, c] := by
  match l, h with
  | [a, b, c], _ => exact ⟨a, b, c, rfl⟩
set_option maxRecDepth 10000 in
theorem faultsArg_of {H : Type} {enc : TypeId × Value → H} {W : World} {b : Option Addr} {n c : Nat} {d : DataW H} {p : List MemPlace}
    (h : DataW.Trod enc Tryz.prog W 0 (fun _ => true) true 39 (.slice b n c) d p) : ∃ fs, FaultsArg W (.slice b n c) fs := by
  obtain ⟨fuel, hf⟩ := h
  rcases Go.Deep.open_slice Tryz.underlying39 hf with ⟨hcs, _⟩ | ⟨a, len, cap, m, q, D, Pl, hcs, _, hl, hm, hmm, _, hi⟩
  · simp [Value.cells] at hcs
    obtain ⟨rfl, rfl, rfl⟩ := hcs
    exact ⟨[], HoldsC.empty W none 0, fun f hf => by simp at hf, by unfold maxLen; simp⟩
  · simp [Value.cells] at hcs
    obtain ⟨rfl, rfl, rfl⟩ := hcs
    have hC : Tryz.prog.cellsOf 148 = 3 := by kernel_rfl
    have hS0 : Tryz.prog.cellsOf 5 = 1 := by kernel_rfl
    have hS1 : Tryz.prog.cellsOf 3 = 1 := by kernel_rfl
    have hS2 : Tryz.prog.cellsOf 9 = 1 := by kernel_rfl
    have key : ∀ i, ∃ f : Flt, i < n → W.cell? (a.add (i * 3)) = some (.int .u8 f.1) ∧ W.cell? (a.add (i * 3 + 1)) = some (.int .i64 f.2.1) ∧ W.cell? (a.add (i * 3 + 2)) = some (.string f.2.2) ∧ (Lit.int .u8 f.1).wf = true ∧ (Lit.int .i64 f.2.1).wf = true := by
      intro i
      by_cases hin : i < n
      · obtain ⟨cs', hc', ht⟩ := hi i (by rw [hmm]; simp; omega)
        rw [hC] at hc'
        obtain ⟨_, hcl, hcell⟩ := World.cells?_some hc'
        obtain ⟨xs, k, _, _, hcl2, hxl, hg⟩ := DataW.trod_struct Tryz.underlying148 ht
        obtain ⟨u0, u1, u2, rfl⟩ := len_3 hcl
        have hxl2 : xs.length = 3 := hxl
        obtain ⟨z0, z1, z2, rfl⟩ := len_3 hxl2
        have g0 : DataW.trod enc Tryz.prog W 0 (fun _ => true) true k 5 (([u0, u1, u2].drop 0).take (Tryz.prog.cellsOf 5)) = some z0 := hg 0 _ rfl
        have g1 : DataW.trod enc Tryz.prog W 0 (fun _ => true) true k 3 (([u0, u1, u2].drop 1).take (Tryz.prog.cellsOf 3)) = some z1 := hg 1 _ rfl
        have g2 : DataW.trod enc Tryz.prog W 0 (fun _ => true) true k 9 (([u0, u1, u2].drop 2).take (Tryz.prog.cellsOf 9)) = some z2 := hg 2 _ rfl
        rw [hS0] at g0
        rw [hS1] at g1
        rw [hS2] at g2
        obtain ⟨l0, e0, b0⟩ := u8_cell g0
        obtain ⟨l1, e1, b1⟩ := int_cell g1
        obtain ⟨l2, e2, b2⟩ := str_cell g2
        have c0 := hcell 0 (by omega)
        have c1 := hcell 1 (by omega)
        have c2 := hcell 2 (by omega)
        rw [Go.Deep.add_add] at c0 c1 c2
        simp at e0 e1 e2 c0 c1 c2
        subst e0 e1 e2
        exact ⟨(l0, l1, l2), fun _ => ⟨c0, c1, c2, b0, b1⟩⟩
      · exact ⟨(0, 0, ⟨#[]⟩), fun h => absurd h hin⟩
    obtain ⟨g, hg⟩ := Classical.skolem.1 key
    have hlen : ((List.range n).map g).length = n := by simp
    refine ⟨(List.range n).map g, ⟨some a, c, by rw [hlen], by rw [hlen]; exact hl, fun hne => ?_⟩, ?_, by rw [hlen]; omega⟩
    · have hpos : 0 < n := by
        rcases Nat.eq_zero_or_pos n with h0 | h0
        · subst h0; simp at hne
        · exact h0
      have h0 := (hg 0 hpos).1
      obtain ⟨b, o, sp⟩ := a
      have hsp : sp = none := by simpa [Addr.add] using World.cell?_spot h0
      subst hsp
      have ea : ∀ k, (⟨b, o, none⟩ : Addr).add k = ⟨b, o + k, none⟩ := fun k => by unfold Addr.add; split <;> simp_all
      refine ⟨b, o, rfl, by have := World.block_lt_of_cell? _ _ h0; simpa [Addr.add] using this, fun j hj => ?_⟩
      rw [hlen] at hj
      have hj2 := hg j hj
      rw [ea, ea, ea, Nat.mul_comm j 3] at hj2
      rw [List.getElem_map, List.getElem_range]
      exact ⟨hj2.1, hj2.2.1, hj2.2.2.1⟩
    · intro f hf
      obtain ⟨i, hi', rfl⟩ := List.mem_map.1 hf
      exact (hg i (List.mem_range.1 hi')).2.2.2
def overC (l : List Flt) (most : Nat) : Bool := l.any (fun x => decide (300 < x.2.2.size)) || decide (most < l.length)
theorem overC_ok {l : List Flt} {most : Nat} (h : overC l most = false) : l.length ≤ most ∧ ∀ x ∈ l, x.2.2.size ≤ 300 := by
  unfold overC at h
  rw [Bool.or_eq_false_iff, decide_eq_false_iff_not, List.any_eq_false] at h
  exact ⟨by omega, fun x hx => by have := h.1 x hx; simpa using this⟩
set_option maxRecDepth 100000 in
set_option maxHeartbeats 1000000 in
theorem over28s (v : Value) (l : List Flt) (N : Nat) (w : World) (hN : N ≤ 100000) (hv : HoldsC w v l) (hl : l.length ≤ maxLen) :
    Calls Tryz.prog 36 #[v, .int .i64 (N : Nat)] w fun e w' => e = .returned (.bool (overC l N)) ∧ w' = w := by
  obtain ⟨a, c, rfl, hc, hx⟩ := hv
  unfold maxLen at hl
  have HX := Lib.hid hx
  have HT : Hid (∀ k (hk : k < l.length), 300 < l[k].2.2.size → overC l N = true) := Lib.hid (fun k hk h => by unfold overC; rw [List.any_eq_true.2 ⟨l[k], List.getElem_mem hk, decide_eq_true h⟩]; rfl)
  have HE : Hid ((∀ k (hk : k < l.length), ¬ 300 < l[k].2.2.size) → overC l N = decide (N < l.length)) := Lib.hid (fun h => by
    unfold overC
    rw [List.any_eq_false.2 (fun x hx => by obtain ⟨j, hj, rfl⟩ := List.getElem_of_mem hx; have := h j hj; simpa using this), Bool.false_or])
  clear hx
  generalize overC l N = B at HT HE ⊢
  go_enter Tryz.func36, Tryz.ntmps36
  go_wp2_with fail
  go_loop [5] (fun i => ∃ k : Nat, k ≤ l.length ∧ i = .int .i64 k ∧ Hid (∀ j (hj : j < l.length), j < k → ¬ 300 < l[j].2.2.size)) (fun i => l.length - (intOf i).toNat)
  case atStart => exact ⟨0, by omega, rfl, Lib.hid (fun j hj h => absurd h (Nat.not_lt_zero _))⟩
  case round =>
    obtain ⟨k, hk, rfl, HK⟩ := hrel
    by_cases hlt : k < l.length
    · obtain ⟨b, o, rfl, hbl, hcell⟩ := HX.out (fun e => by rw [e] at hlt; exact absurd hlt (Nat.not_lt_zero _))
      obtain ⟨-, -, c2⟩ := hcell k hlt
      rw [Nat.mul_comm 3 k] at c2
      have hT := Lib.hid (HT.out k hlt)
      have HK1 : ¬ 300 < l[k].2.2.size → Hid (∀ j (hj : j < l.length), j < k + 1 → ¬ 300 < l[j].2.2.size) := fun h => Lib.hid (fun j hj hjk => by
        by_cases e : j = k
        · subst e; exact h
        · exact HK.out j hj (by omega))
      clear hcell HX HT HK
      generalize l[k].2.2 = X at c2 hT HK1
      by_cases hbig : 300 < X.size
      · have t1 : decide ((X.size : Int) > 300) = true := decide_eq_true (by omega)
        have HB := Lib.hid (hT.out hbig)
        clear hT HK1
        go_wp2_with fail
        go_ret
        exact ⟨by rw [HB.out]; rfl, rfl⟩
      · have t1 : decide ((X.size : Int) > 300) = false := decide_eq_false (by omega)
        have HK2 := HK1 hbig
        clear hT HK1
        go_wp2_with fail
        go_round
        case rel => exact ⟨k + 1, by omega, by go_num, HK2⟩
        case measure => simp [intOf]; omega
    · obtain rfl : k = l.length := by omega
      have HB := Lib.hid (HE.out (fun j hj => HK.out j hj hj))
      clear HE HT HX HK
      go_wp2_with fail
      go_ret
      exact ⟨by rw [HB.out]; rfl, rfl⟩
end Go.Proofs.YtbdmmgmcbecolaaGreatDoor
namespace Go.Proofs.YtbdmmgmcbecolaaGreatDoor
open Go.RowKit
theorem load_rlink (w : World) (b : Nat) (t : TypeId) (x0 x1 x2 x3 x4 x5 : Value) (h : w.heap[b]? = some (.cells #[x0, x1, x2, x3, x4, x5] t (0, 0))) : (loadVar 50 ⟨b, 0, none⟩).run Tryz.prog w = .ok (.agg #[x0, x1, x2, x3, x4, x5]) w :=
  run_loadVar_row w b t 50 #[x0, x1, x2, x3, x4, x5] (0, 0) _ h Tryz.underlying50 rfl (by kernel_rfl)
def RAsk (w0 : World) (h p f : ByteArray) (rest : List Flt) (log : List Evt) (n : Nat) (s : ByteArray) (w : World) (e : Ending) (w' : World) : Prop :=
  ∃ rv' lv', e = .returned (.tuple #[.agg #[.string h, .string p, .string f, rv', lv', .int .i64 ((n + oneK (hurtK h p f (rest.headD noF) s) : Nat) : Int)], .string (gotK h p f (rest.headD noF) s)]) ∧ HoldsC w0 rv' rest.tail ∧ w'.ownsRow w.heap.size 106 3 lv' (log ++ [evK h p f (rest.headD noF) s]).length (evs (log ++ [evK h p f (rest.headD noF) s])) ∧ Below w.heap.size w w'
/-- the blocks of the reference's Ask -/
def rlW (w : World) (h p f : ByteArray) (V lv : Value) (n : Nat) (x : Flt) : World :=
  ((w.alloc (.cells #[.string h, .string p, .string f, V, lv, .int .i64 (n : Int)] 50)).alloc (.cells #[.string ⟨#[]⟩, .string ⟨#[]⟩, .string ⟨#[]⟩, .slice none 0 0, .slice none 0 0, .int .i64 0] 50)).alloc (.cells #[.int .u8 x.1, .int .i64 x.2.1, .string x.2.2] 148)
structure RLS (w W : World) (h p f : ByteArray) (V lv : Value) (n : Nat) (x : Flt) (rest : List Flt) (log : List Evt) (b0 : Nat) : Prop where
  a : W.heap[w.heap.size]? = some (.cells #[.string h, .string p, .string f, V, lv, .int .i64 (n : Int)] 50 (0, 0))
  z : W.heap[w.heap.size + 1]? = some (.cells #[.string ⟨#[]⟩, .string ⟨#[]⟩, .string ⟨#[]⟩, .slice none 0 0, .slice none 0 0, .int .i64 0] 50 (0, 0))
  x : W.heap[w.heap.size + 1 + 1]? = some (.cells #[.int .u8 x.1, .int .i64 x.2.1, .string x.2.2] 148 (0, 0))
  b : Below w.heap.size w W
  s : w.heap.size + 3 ≤ W.heap.size
  r : HoldsC W V rest
  o : W.ownsRow b0 106 3 lv log.length (evs log)
theorem RLS.start {w : World} {h p f : ByteArray} {V lv : Value} {n : Nat} {x : Flt} {rest : List Flt} {log : List Evt} {b0 : Nat} (hr : HoldsC w V rest) (ho : w.ownsRow b0 106 3 lv log.length (evs log)) : RLS w (rlW w h p f V lv n x) h p f V lv n x rest log b0 := by
  obtain ⟨h1, h2, h3, h4⟩ := alloc3_facts w (.cells #[.string h, .string p, .string f, V, lv, .int .i64 (n : Int)] 50) (.cells #[.string ⟨#[]⟩, .string ⟨#[]⟩, .string ⟨#[]⟩, .slice none 0 0, .slice none 0 0, .int .i64 0] 50) (.cells #[.int .u8 x.1, .int .i64 x.2.1, .string x.2.2] 148)
  exact ⟨h1, h2, h3, h4, by unfold rlW; simp, hr.below h4, own_of_block ho (fun g hg => h4.block g (ho.lt g hg).2)⟩
theorem RLS.below {w W W' : World} {h p f : ByteArray} {V lv : Value} {n : Nat} {x : Flt} {rest : List Flt} {log : List Evt} {b0 : Nat} (k : RLS w W h p f V lv n x rest log b0) (hb : Below W.heap.size W W') : RLS w W' h p f V lv n x rest log b0 := by
  have hs := k.s
  exact ⟨(hb.block _ (by omega)).trans k.a, (hb.block _ (by omega)).trans k.z, (hb.block _ (by omega)).trans k.x, bstep k.b hb, Nat.le_trans hs hb.size, k.r.below hb, own_of_block k.o (fun g hg => hb.block g (k.o.lt g hg).2)⟩
theorem rl_fin {w W : World} {V L : Value} {tl : List Flt} {m : Nat} {ys : List Evt} {x0 x1 x2 x3 x4 x5 : Value} (hZ : W.heap[w.heap.size + 1]? = some (.cells #[x0, x1, x2, x3, x4, x5] 50 (0, 0))) (hb : Below w.heap.size w W) (hr : HoldsC w V tl) (ho : W.ownsRow w.heap.size 106 3 L m (evs ys)) (y0 y1 y2 y3 y4 y5 : Value) :
    HoldsC ((((((W.setCell ⟨w.heap.size + 1, 0, none⟩ y0).setCell ⟨w.heap.size + 1, 1, none⟩ y1).setCell ⟨w.heap.size + 1, 2, none⟩ y2).setCell ⟨w.heap.size + 1, 3, none⟩ y3).setCell ⟨w.heap.size + 1, 4, none⟩ y4).setCell ⟨w.heap.size + 1, 5, none⟩ y5) V tl ∧
    ((((((W.setCell ⟨w.heap.size + 1, 0, none⟩ y0).setCell ⟨w.heap.size + 1, 1, none⟩ y1).setCell ⟨w.heap.size + 1, 2, none⟩ y2).setCell ⟨w.heap.size + 1, 3, none⟩ y3).setCell ⟨w.heap.size + 1, 4, none⟩ y4).setCell ⟨w.heap.size + 1, 5, none⟩ y5).ownsRow w.heap.size 106 3 L m (evs ys) ∧
    Below w.heap.size w ((((((W.setCell ⟨w.heap.size + 1, 0, none⟩ y0).setCell ⟨w.heap.size + 1, 1, none⟩ y1).setCell ⟨w.heap.size + 1, 2, none⟩ y2).setCell ⟨w.heap.size + 1, 3, none⟩ y3).setCell ⟨w.heap.size + 1, 4, none⟩ y4).setCell ⟨w.heap.size + 1, 5, none⟩ y5) := by
  have hB := six_below hb (w.heap.size + 1) (by omega) y0 y1 y2 y3 y4 y5
  refine ⟨hr.below hB, own_of_block ho (fun g hg => ?_), hB⟩
  have hne : g ≠ w.heap.size + 1 := fun e => own_not_row ho hZ (by decide) (by rw [hg]; exact congrArg some e)
  rw [set_far6 hne, set_far6 hne, set_far6 hne, set_far6 hne, set_far6 hne, set_far6 hne]
theorem own_far {w : World} {b0 n : Nat} {L : Value} {xs : List Value} {X : Nat} {ca : Array Value} (ho : w.ownsRow b0 106 3 L n xs) (hX : w.heap[X]? = some (.cells ca 50 (0, 0))) (o : Nat) (y : Value) : (w.setCell ⟨X, o, none⟩ y).ownsRow b0 106 3 L n xs :=
  own_of_block ho (fun g hg => set_far6 (fun e => own_not_row ho hX (by decide) (by rw [hg]; exact congrArg some e)))
set_option maxRecDepth 100000 in
set_option maxHeartbeats 4000000 in
theorem ref_lask (h p f : ByteArray) (rest : List Flt) (log : List Evt) (n : Nat) (s : ByteArray) (rv lv : Value) (b0 : Nat) (w0 w : World) (hr0 : HoldsC w0 rv rest) (hb0 : Below w0.heap.size w0 w) (ho : w.ownsRow b0 106 3 lv log.length (evs log)) (hx : FltOk (rest.headD noF)) (hs : s.size ≤ 1000000) (hh' : h.size ≤ 1000000) (hp : p.size ≤ 1000000) (hf : f.size ≤ 100000) (hn : n ≤ 1000000) (hll : log.length ≤ 1000000) :
    Calls Tryz.prog 42 #[.agg #[.string h, .string p, .string f, rv, lv, .int .i64 (n : Int)], .string s] w (RAsk w0 h p f rest log n s w) := by
  have hr := hr0.below hb0
  obtain ⟨ar, cr, hrv, -⟩ := hr.len
  obtain ⟨al, cl, hlv⟩ := slice_of_own ho
  subst hrv hlv
  unfold RAsk
  obtain ⟨X, hX⟩ : ∃ X, rest.headD noF = X := ⟨_, rfl⟩
  obtain ⟨tl, htl⟩ : ∃ tl, rest.tail = tl := ⟨_, rfl⟩
  have hws := whole_size h p f s (by omega)
  have hht := hurt_eq h p f X s
  rw [hX] at hx ⊢
  have HA : Hid (∀ W, Calls Tryz.prog 69 #[.agg #[.string h, .string p, .string f], .string s] W fun e w' => e = .returned (.string (wholeK h p f s)) ∧ Below W.heap.size W w') := Lib.hid (fun W => ref_oAnswer h p f s W (by omega) (by omega) hs (by omega))
  have HAP : Hid (∀ W, Calls Tryz.prog 70 #[.agg #[.int .u8 X.1, .int .i64 X.2.1, .string X.2.2], .string (wholeK h p f s)] W fun e w' => e = .returned (.string (gotK h p f X s)) ∧ Below W.heap.size W w') := Lib.hid (fun W => ref_apply X.1 X.2.1 X.2.2 (wholeK h p f s) W hx.n0 hx.n1 hx.t (by omega))
  have HEV : Hid (evK h p f X s = ((s.size : Int), ((gotK h p f X s).size : Int), hurtK h p f X s)) := Lib.hid rfl
  generalize evK h p f X s = EV at HEV ⊢
  generalize wholeK h p f s = Wh at hws hht HA HAP
  generalize gotK h p f X s = G at hht HAP HEV ⊢
  generalize hurtK h p f X s = hb at hht HEV ⊢
  have HBs := Lib.hid (And.intro hll hn)
  have tw : IntKind.i64.wrap ((n : Int) + 1) = (n : Int) + 1 := by rw [IntKind.wrap_i64]; omega
  have HEVT : Hid (evs (log ++ [EV]) = evs log ++ [.int .i64 (s.size : Int), .int .i64 (G.size : Int), .bool hb]) := Lib.hid (by rw [evs_append, HEV.out]; rfl)
  cases rest with
  | nil =>
    have hX' : noF = X := hX
    have htl' : [] = tl := htl
    subst hX' htl'
    have HH0 := Lib.hid hr
    have HH1 := Lib.hid (HoldsC.empty w0 ar cr)
    have HR : Hid (RLS w (rlW w h p f (.slice ar 0 cr) (.slice al log.length cl) n noF) h p f (.slice ar 0 cr) (.slice al log.length cl) n noF [] log b0) := Lib.hid (RLS.start hr ho)
    simp only [List.length_nil] at hr ⊢
    clear hr hr0 hb0 ho hx hX htl hws hs hh' hp hf hn hll HEV
    go_enter Tryz.func42, Tryz.ntmps42
    go_wp2_with fail
    refine (HA.out _).mono ?_
    rintro e w1 ⟨rfl, hb1⟩
    have HR1 := Lib.hid (HR.out.below hb1)
    clear hb1 HR
    obtain ⟨⟨a0, a1, a2, a3, a4, a5⟩, -, -, a6⟩ := six_facts HR1.out.a
    obtain ⟨x0, x1, x2, -, -, -⟩ := three_facts HR1.out.x
    go_wp2_with fail
    refine (HAP.out _).mono ?_
    rintro e w2 ⟨rfl, hb2⟩
    have HR2 := Lib.hid (HR1.out.below hb2)
    clear hb2 HR1 a0 a1 a2 a3 a4 a5 a6 x0 x1 x2
    obtain ⟨⟨a0, a1, a2, a3, a4, a5⟩, -, -, a6⟩ := six_facts HR2.out.a
    cases hb with
    | true =>
      have hq : (G.toList == Wh.toList) = false := by rw [eq_comm, Bool.not_eq_true'] at hht; exact hht
      have hq2 : ¬ (G.toList = Wh.toList) := by rw [beq_eq_false_iff_ne] at hq; exact hq
      clear hht
      go_wp2_with (at_builtin; first
        | (refine append_row3 48 106 _ 24 Tryz.underlying48 info_revt rfl (by decide) w2 (by rfl) _ _ (by rfl) w.heap.size (.slice none 0 0) 0 [] (by rfl) (World.ownsRow_nil _ _ _ _) b0 _ log.length (evs log) (by rfl) HR2.out.o (evs_one log) (by have := HBs.out.1; omega) HR2.out.b.size ?_; intro v1 c1 w3 ho3 hg3; rw [Nat.zero_add, List.nil_append] at ho3; have HO3 := Lib.hid ho3; have HR3 := Lib.hid (HR2.out.below ⟨hg3.os, hg3.tape, hg3.output, hg3.size, fun j hj => hg3.block j hj (by simp [Value.ownBlock])⟩); clear ho3 hg3 a0 a1 a2 a3 a4 a5 a6)
        | (refine append3 48 106 _ 24 Tryz.underlying48 info_revt rfl (by decide) w3 (.int .i64 (s.size : Int)) (.int .i64 (G.size : Int)) (.bool true) rfl rfl rfl (by rfl) _ _ (by rfl) w.heap.size _ log.length (evs log) (by rfl) HO3.out (by rfl) (by have := HBs.out.1; omega) HR3.out.b.size ?_; intro g cap w4 ho4 hg4 hd4; have HO4 := Lib.hid ho4; have HX4 := Lib.hid ((hg4.block _ (by have := HR3.out.s; omega) (fun e => own_not_row HO3.out HR3.out.a (by decide) e.symm)).trans HR3.out.a); have HZ4 := Lib.hid ((hg4.block _ (by have := HR3.out.s; omega) (fun e => own_not_row HO3.out HR3.out.z (by decide) e.symm)).trans HR3.out.z); have HB4 := Lib.hid (HR3.out.b.grown hg4 HR3.out.b.size (fun j hj => (HO3.out.lt j hj).1)); obtain ⟨⟨q0, q1, q2, q3, q4, q5⟩, u3, u4, u5⟩ := six_facts HX4.out; obtain ⟨z0, z1, z2, z3, z4, z5⟩ := six_free HZ4.out; obtain ⟨⟨r0, r1, r2, r3, r4, r5⟩, -⟩ := six_facts HZ4.out; clear ho4 hg4 hd4))
      have hne : w.heap.size + 1 ≠ w.heap.size := by omega
      have HOW := Lib.hid (own_far (own_far HO4.out HX4.out 4 (.slice (some ⟨g, 0, none⟩) (log.length + 1) cap)) (six_set4 HX4.out (.slice (some ⟨g, 0, none⟩) (log.length + 1) cap)) 5 (.int .i64 ((n : Int) + 1)))
      have HZW : Hid (((w4.setCell ⟨w.heap.size, 4, none⟩ (.slice (some ⟨g, 0, none⟩) (log.length + 1) cap)).setCell ⟨w.heap.size, 5, none⟩ (.int .i64 ((n : Int) + 1))).heap[w.heap.size + 1]? = _) := Lib.hid ((set_far6 hne).trans ((set_far6 hne).trans HZ4.out))
      have HBW := Lib.hid ((HB4.out.setCell (p := ⟨w.heap.size, 4, none⟩) (Nat.le_refl _) (.slice (some ⟨g, 0, none⟩) (log.length + 1) cap)).setCell (p := ⟨w.heap.size, 5, none⟩) (Nat.le_refl _) (.int .i64 ((n : Int) + 1)))
      refine ret_cell2 (A := ⟨w.heap.size + 1, 0, none⟩) rfl (load_rlink _ _ _ _ _ _ _ _ _ (six_all HZW.out _ _ _ _ _ _)) rfl rfl rfl ?_
      obtain ⟨f1, f2, f3⟩ := rl_fin HZW.out HBW.out HH0.out (ys := log ++ [EV]) (by rw [HEVT.out]; exact HOW.out) (.string h) (.string p) (.string f) (.slice ar 0 cr) (.slice (some ⟨g, 0, none⟩) (log.length + 1) cap) (.int .i64 ((n : Int) + 1))
      exact ⟨_, _, rfl, HH1.out, by rw [List.length_append]; exact f2, f3⟩
    | false =>
      have hq : (G.toList == Wh.toList) = true := by rw [eq_comm, Bool.not_eq_false'] at hht; exact hht
      have hq2 : G.toList = Wh.toList := by rw [beq_iff_eq] at hq; exact hq
      clear hht
      go_wp2_with (at_builtin; first
        | (refine append_row3 48 106 _ 24 Tryz.underlying48 info_revt rfl (by decide) w2 (by rfl) _ _ (by rfl) w.heap.size (.slice none 0 0) 0 [] (by rfl) (World.ownsRow_nil _ _ _ _) b0 _ log.length (evs log) (by rfl) HR2.out.o (evs_one log) (by have := HBs.out.1; omega) HR2.out.b.size ?_; intro v1 c1 w3 ho3 hg3; rw [Nat.zero_add, List.nil_append] at ho3; have HO3 := Lib.hid ho3; have HR3 := Lib.hid (HR2.out.below ⟨hg3.os, hg3.tape, hg3.output, hg3.size, fun j hj => hg3.block j hj (by simp [Value.ownBlock])⟩); clear ho3 hg3 a0 a1 a2 a3 a4 a5 a6)
        | (refine append3 48 106 _ 24 Tryz.underlying48 info_revt rfl (by decide) w3 (.int .i64 (s.size : Int)) (.int .i64 (G.size : Int)) (.bool false) rfl rfl rfl (by rfl) _ _ (by rfl) w.heap.size _ log.length (evs log) (by rfl) HO3.out (by rfl) (by have := HBs.out.1; omega) HR3.out.b.size ?_; intro g cap w4 ho4 hg4 hd4; have HO4 := Lib.hid ho4; have HX4 := Lib.hid ((hg4.block _ (by have := HR3.out.s; omega) (fun e => own_not_row HO3.out HR3.out.a (by decide) e.symm)).trans HR3.out.a); have HZ4 := Lib.hid ((hg4.block _ (by have := HR3.out.s; omega) (fun e => own_not_row HO3.out HR3.out.z (by decide) e.symm)).trans HR3.out.z); have HB4 := Lib.hid (HR3.out.b.grown hg4 HR3.out.b.size (fun j hj => (HO3.out.lt j hj).1)); obtain ⟨⟨q0, q1, q2, q3, q4, q5⟩, u3, u4, u5⟩ := six_facts HX4.out; obtain ⟨z0, z1, z2, z3, z4, z5⟩ := six_free HZ4.out; obtain ⟨⟨r0, r1, r2, r3, r4, r5⟩, -⟩ := six_facts HZ4.out; clear ho4 hg4 hd4))
      have hne : w.heap.size + 1 ≠ w.heap.size := by omega
      have HOW := Lib.hid (own_far HO4.out HX4.out 4 (.slice (some ⟨g, 0, none⟩) (log.length + 1) cap))
      have HZW : Hid ((w4.setCell ⟨w.heap.size, 4, none⟩ (.slice (some ⟨g, 0, none⟩) (log.length + 1) cap)).heap[w.heap.size + 1]? = _) := Lib.hid ((set_far6 hne).trans HZ4.out)
      have HBW := Lib.hid (HB4.out.setCell (p := ⟨w.heap.size, 4, none⟩) (Nat.le_refl _) (.slice (some ⟨g, 0, none⟩) (log.length + 1) cap))
      refine ret_cell2 (A := ⟨w.heap.size + 1, 0, none⟩) rfl (load_rlink _ _ _ _ _ _ _ _ _ (six_all HZW.out _ _ _ _ _ _)) rfl rfl rfl ?_
      obtain ⟨f1, f2, f3⟩ := rl_fin HZW.out HBW.out HH0.out (ys := log ++ [EV]) (by rw [HEVT.out]; exact HOW.out) (.string h) (.string p) (.string f) (.slice ar 0 cr) (.slice (some ⟨g, 0, none⟩) (log.length + 1) cap) (.int .i64 (n : Int))
      exact ⟨_, _, rfl, HH1.out, by rw [List.length_append]; exact f2, f3⟩
  | cons x t =>
    have hX' : x = X := hX
    have htl' : t = tl := htl
    subst hX' htl'
    obtain ⟨x1, x2, x3⟩ := x
    obtain ⟨-, -, -, hB⟩ := alloc3_facts w (.cells #[.string h, .string p, .string f, .slice ar (t.length + 1) cr, .slice al log.length cl, .int .i64 (n : Int)] 50) (.cells #[.string ⟨#[]⟩, .string ⟨#[]⟩, .string ⟨#[]⟩, .slice none 0 0, .slice none 0 0, .int .i64 0] 50) (.cells #[.int .u8 0, .int .i64 0, .string ⟨#[]⟩] 148)
    obtain ⟨b, o, c, hrv, hc, -, -, -, -, hh⟩ := hr.first
    injection hrv with e1 e2 e3
    subst e1 e3
    obtain ⟨b', o', c', hrv, -, -, y0, y1, y2, -⟩ := (hr.below hB).first
    injection hrv with e1 e2' e3
    injection e1 with e1
    injection e1 with e1 e4
    subst e1 e3 e4
    obtain ⟨b2, o2, c2, hrv, -, -, -, -, -, hh1⟩ := hr0.first
    injection hrv with e1 e2'' e3
    injection e1 with e1
    injection e1 with e1 e4
    subst e1 e3 e4
    clear e2''
    have hle : (1 : Int) ≤ (t.length : Int) + 1 := by omega
    have hz : ¬ ((0 : Int) = (t.length : Int) + 1) := by omega
    have hlt0 : (0 : Int) < (t.length : Int) + 1 := by omega
    have hgt : decide ((t.length : Int) + 1 > 0) = true := decide_eq_true (by omega)
    by_cases hc1 : cr = 1
    · subst hc1
      obtain rfl : t = [] := List.length_eq_zero_iff.1 (by omega)
      rw [if_pos rfl] at hh
      simp only [List.length_nil, Nat.sub_self] at hh hr ⊢
      simp only [List.length_nil, Nat.zero_add] at y0 y1 y2
      have HH0 := Lib.hid hh
      have HH1 := Lib.hid (HoldsC.empty w0 (some ⟨b, o, none⟩) 0)
      clear hh1
      have HR : Hid (RLS w (rlW w h p f (.slice (some ⟨b, o, none⟩) 0 0) (.slice al log.length cl) n (x1, x2, x3)) h p f (.slice (some ⟨b, o, none⟩) 0 0) (.slice al log.length cl) n (x1, x2, x3) [] log b0) := Lib.hid (RLS.start hh ho)
      clear hr hr0 hb0 ho hx hX htl hws hs hh' hp hf hn hll HEV hh hB e2 e2'
      go_enter Tryz.func42, Tryz.ntmps42
      go_wp2_with fail
      refine (HA.out _).mono ?_
      rintro e w1 ⟨rfl, hb1⟩
      have HR1 := Lib.hid (HR.out.below hb1)
      clear hb1 HR
      obtain ⟨⟨a0, a1, a2, a3, a4, a5⟩, -, -, a6⟩ := six_facts HR1.out.a
      obtain ⟨x0, x1, x2, -, -, -⟩ := three_facts HR1.out.x
      go_wp2_with fail
      refine (HAP.out _).mono ?_
      rintro e w2 ⟨rfl, hb2⟩
      have HR2 := Lib.hid (HR1.out.below hb2)
      clear hb2 HR1 a0 a1 a2 a3 a4 a5 a6 x0 x1 x2
      obtain ⟨⟨a0, a1, a2, a3, a4, a5⟩, -, -, a6⟩ := six_facts HR2.out.a
      cases hb with
      | true =>
        have hq : (G.toList == Wh.toList) = false := by rw [eq_comm, Bool.not_eq_true'] at hht; exact hht
        have hq2 : ¬ (G.toList = Wh.toList) := by rw [beq_eq_false_iff_ne] at hq; exact hq
        clear hht
        go_wp2_with (at_builtin; first
          | (refine append_row3 48 106 _ 24 Tryz.underlying48 info_revt rfl (by decide) w2 (by rfl) _ _ (by rfl) w.heap.size (.slice none 0 0) 0 [] (by rfl) (World.ownsRow_nil _ _ _ _) b0 _ log.length (evs log) (by rfl) HR2.out.o (evs_one log) (by have := HBs.out.1; omega) HR2.out.b.size ?_; intro v1 c1 w3 ho3 hg3; rw [Nat.zero_add, List.nil_append] at ho3; have HO3 := Lib.hid ho3; have HR3 := Lib.hid (HR2.out.below ⟨hg3.os, hg3.tape, hg3.output, hg3.size, fun j hj => hg3.block j hj (by simp [Value.ownBlock])⟩); clear ho3 hg3 a0 a1 a2 a3 a4 a5 a6)
          | (refine append3 48 106 _ 24 Tryz.underlying48 info_revt rfl (by decide) w3 (.int .i64 (s.size : Int)) (.int .i64 (G.size : Int)) (.bool true) rfl rfl rfl (by rfl) _ _ (by rfl) w.heap.size _ log.length (evs log) (by rfl) HO3.out (by rfl) (by have := HBs.out.1; omega) HR3.out.b.size ?_; intro g cap w4 ho4 hg4 hd4; have HO4 := Lib.hid ho4; have HX4 := Lib.hid ((hg4.block _ (by have := HR3.out.s; omega) (fun e => own_not_row HO3.out HR3.out.a (by decide) e.symm)).trans HR3.out.a); have HZ4 := Lib.hid ((hg4.block _ (by have := HR3.out.s; omega) (fun e => own_not_row HO3.out HR3.out.z (by decide) e.symm)).trans HR3.out.z); have HB4 := Lib.hid (HR3.out.b.grown hg4 HR3.out.b.size (fun j hj => (HO3.out.lt j hj).1)); obtain ⟨⟨q0, q1, q2, q3, q4, q5⟩, u3, u4, u5⟩ := six_facts HX4.out; obtain ⟨z0, z1, z2, z3, z4, z5⟩ := six_free HZ4.out; obtain ⟨⟨r0, r1, r2, r3, r4, r5⟩, -⟩ := six_facts HZ4.out; clear ho4 hg4 hd4))
        have hne : w.heap.size + 1 ≠ w.heap.size := by omega
        have HOW := Lib.hid (own_far (own_far HO4.out HX4.out 4 (.slice (some ⟨g, 0, none⟩) (log.length + 1) cap)) (six_set4 HX4.out (.slice (some ⟨g, 0, none⟩) (log.length + 1) cap)) 5 (.int .i64 ((n : Int) + 1)))
        have HZW : Hid (((w4.setCell ⟨w.heap.size, 4, none⟩ (.slice (some ⟨g, 0, none⟩) (log.length + 1) cap)).setCell ⟨w.heap.size, 5, none⟩ (.int .i64 ((n : Int) + 1))).heap[w.heap.size + 1]? = _) := Lib.hid ((set_far6 hne).trans ((set_far6 hne).trans HZ4.out))
        have HBW := Lib.hid ((HB4.out.setCell (p := ⟨w.heap.size, 4, none⟩) (Nat.le_refl _) (.slice (some ⟨g, 0, none⟩) (log.length + 1) cap)).setCell (p := ⟨w.heap.size, 5, none⟩) (Nat.le_refl _) (.int .i64 ((n : Int) + 1)))
        refine ret_cell2 (A := ⟨w.heap.size + 1, 0, none⟩) rfl (load_rlink _ _ _ _ _ _ _ _ _ (six_all HZW.out _ _ _ _ _ _)) rfl rfl rfl ?_
        obtain ⟨f1, f2, f3⟩ := rl_fin HZW.out HBW.out HH0.out (ys := log ++ [EV]) (by rw [HEVT.out]; exact HOW.out) (.string h) (.string p) (.string f) (.slice (some ⟨b, o, none⟩) 0 0) (.slice (some ⟨g, 0, none⟩) (log.length + 1) cap) (.int .i64 ((n : Int) + 1))
        exact ⟨_, _, rfl, HH1.out, by rw [List.length_append]; exact f2, f3⟩
      | false =>
        have hq : (G.toList == Wh.toList) = true := by rw [eq_comm, Bool.not_eq_false'] at hht; exact hht
        have hq2 : G.toList = Wh.toList := by rw [beq_iff_eq] at hq; exact hq
        clear hht
        go_wp2_with (at_builtin; first
          | (refine append_row3 48 106 _ 24 Tryz.underlying48 info_revt rfl (by decide) w2 (by rfl) _ _ (by rfl) w.heap.size (.slice none 0 0) 0 [] (by rfl) (World.ownsRow_nil _ _ _ _) b0 _ log.length (evs log) (by rfl) HR2.out.o (evs_one log) (by have := HBs.out.1; omega) HR2.out.b.size ?_; intro v1 c1 w3 ho3 hg3; rw [Nat.zero_add, List.nil_append] at ho3; have HO3 := Lib.hid ho3; have HR3 := Lib.hid (HR2.out.below ⟨hg3.os, hg3.tape, hg3.output, hg3.size, fun j hj => hg3.block j hj (by simp [Value.ownBlock])⟩); clear ho3 hg3 a0 a1 a2 a3 a4 a5 a6)
          | (refine append3 48 106 _ 24 Tryz.underlying48 info_revt rfl (by decide) w3 (.int .i64 (s.size : Int)) (.int .i64 (G.size : Int)) (.bool false) rfl rfl rfl (by rfl) _ _ (by rfl) w.heap.size _ log.length (evs log) (by rfl) HO3.out (by rfl) (by have := HBs.out.1; omega) HR3.out.b.size ?_; intro g cap w4 ho4 hg4 hd4; have HO4 := Lib.hid ho4; have HX4 := Lib.hid ((hg4.block _ (by have := HR3.out.s; omega) (fun e => own_not_row HO3.out HR3.out.a (by decide) e.symm)).trans HR3.out.a); have HZ4 := Lib.hid ((hg4.block _ (by have := HR3.out.s; omega) (fun e => own_not_row HO3.out HR3.out.z (by decide) e.symm)).trans HR3.out.z); have HB4 := Lib.hid (HR3.out.b.grown hg4 HR3.out.b.size (fun j hj => (HO3.out.lt j hj).1)); obtain ⟨⟨q0, q1, q2, q3, q4, q5⟩, u3, u4, u5⟩ := six_facts HX4.out; obtain ⟨z0, z1, z2, z3, z4, z5⟩ := six_free HZ4.out; obtain ⟨⟨r0, r1, r2, r3, r4, r5⟩, -⟩ := six_facts HZ4.out; clear ho4 hg4 hd4))
        have hne : w.heap.size + 1 ≠ w.heap.size := by omega
        have HOW := Lib.hid (own_far HO4.out HX4.out 4 (.slice (some ⟨g, 0, none⟩) (log.length + 1) cap))
        have HZW : Hid ((w4.setCell ⟨w.heap.size, 4, none⟩ (.slice (some ⟨g, 0, none⟩) (log.length + 1) cap)).heap[w.heap.size + 1]? = _) := Lib.hid ((set_far6 hne).trans HZ4.out)
        have HBW := Lib.hid (HB4.out.setCell (p := ⟨w.heap.size, 4, none⟩) (Nat.le_refl _) (.slice (some ⟨g, 0, none⟩) (log.length + 1) cap))
        refine ret_cell2 (A := ⟨w.heap.size + 1, 0, none⟩) rfl (load_rlink _ _ _ _ _ _ _ _ _ (six_all HZW.out _ _ _ _ _ _)) rfl rfl rfl ?_
        obtain ⟨f1, f2, f3⟩ := rl_fin HZW.out HBW.out HH0.out (ys := log ++ [EV]) (by rw [HEVT.out]; exact HOW.out) (.string h) (.string p) (.string f) (.slice (some ⟨b, o, none⟩) 0 0) (.slice (some ⟨g, 0, none⟩) (log.length + 1) cap) (.int .i64 (n : Int))
        exact ⟨_, _, rfl, HH1.out, by rw [List.length_append]; exact f2, f3⟩
    · rw [if_neg hc1] at hh hh1
      have HH0 := Lib.hid hh
      have HH1 := Lib.hid hh1
      clear hh1
      have HR : Hid (RLS w (rlW w h p f (.slice (some ⟨b, o + 3, none⟩) t.length (cr - 1)) (.slice al log.length cl) n (x1, x2, x3)) h p f (.slice (some ⟨b, o + 3, none⟩) t.length (cr - 1)) (.slice al log.length cl) n (x1, x2, x3) t log b0) := Lib.hid (RLS.start hh ho)
      simp only [List.length_cons] at hr ⊢
      clear hr hr0 hb0 ho hx hX htl hws hs hh' hp hf hn hll HEV hh hB e2 e2'
      go_enter Tryz.func42, Tryz.ntmps42
      go_wp2_with fail
      refine (HA.out _).mono ?_
      rintro e w1 ⟨rfl, hb1⟩
      have HR1 := Lib.hid (HR.out.below hb1)
      clear hb1 HR
      obtain ⟨⟨a0, a1, a2, a3, a4, a5⟩, -, -, a6⟩ := six_facts HR1.out.a
      obtain ⟨x0, x1, x2, -, -, -⟩ := three_facts HR1.out.x
      go_wp2_with fail
      refine (HAP.out _).mono ?_
      rintro e w2 ⟨rfl, hb2⟩
      have HR2 := Lib.hid (HR1.out.below hb2)
      clear hb2 HR1 a0 a1 a2 a3 a4 a5 a6 x0 x1 x2
      obtain ⟨⟨a0, a1, a2, a3, a4, a5⟩, -, -, a6⟩ := six_facts HR2.out.a
      cases hb with
      | true =>
        have hq : (G.toList == Wh.toList) = false := by rw [eq_comm, Bool.not_eq_true'] at hht; exact hht
        have hq2 : ¬ (G.toList = Wh.toList) := by rw [beq_eq_false_iff_ne] at hq; exact hq
        clear hht
        go_wp2_with (at_builtin; first
          | (refine append_row3 48 106 _ 24 Tryz.underlying48 info_revt rfl (by decide) w2 (by rfl) _ _ (by rfl) w.heap.size (.slice none 0 0) 0 [] (by rfl) (World.ownsRow_nil _ _ _ _) b0 _ log.length (evs log) (by rfl) HR2.out.o (evs_one log) (by have := HBs.out.1; omega) HR2.out.b.size ?_; intro v1 c1 w3 ho3 hg3; rw [Nat.zero_add, List.nil_append] at ho3; have HO3 := Lib.hid ho3; have HR3 := Lib.hid (HR2.out.below ⟨hg3.os, hg3.tape, hg3.output, hg3.size, fun j hj => hg3.block j hj (by simp [Value.ownBlock])⟩); clear ho3 hg3 a0 a1 a2 a3 a4 a5 a6)
          | (refine append3 48 106 _ 24 Tryz.underlying48 info_revt rfl (by decide) w3 (.int .i64 (s.size : Int)) (.int .i64 (G.size : Int)) (.bool true) rfl rfl rfl (by rfl) _ _ (by rfl) w.heap.size _ log.length (evs log) (by rfl) HO3.out (by rfl) (by have := HBs.out.1; omega) HR3.out.b.size ?_; intro g cap w4 ho4 hg4 hd4; have HO4 := Lib.hid ho4; have HX4 := Lib.hid ((hg4.block _ (by have := HR3.out.s; omega) (fun e => own_not_row HO3.out HR3.out.a (by decide) e.symm)).trans HR3.out.a); have HZ4 := Lib.hid ((hg4.block _ (by have := HR3.out.s; omega) (fun e => own_not_row HO3.out HR3.out.z (by decide) e.symm)).trans HR3.out.z); have HB4 := Lib.hid (HR3.out.b.grown hg4 HR3.out.b.size (fun j hj => (HO3.out.lt j hj).1)); obtain ⟨⟨q0, q1, q2, q3, q4, q5⟩, u3, u4, u5⟩ := six_facts HX4.out; obtain ⟨z0, z1, z2, z3, z4, z5⟩ := six_free HZ4.out; obtain ⟨⟨r0, r1, r2, r3, r4, r5⟩, -⟩ := six_facts HZ4.out; clear ho4 hg4 hd4))
        have hne : w.heap.size + 1 ≠ w.heap.size := by omega
        have HOW := Lib.hid (own_far (own_far HO4.out HX4.out 4 (.slice (some ⟨g, 0, none⟩) (log.length + 1) cap)) (six_set4 HX4.out (.slice (some ⟨g, 0, none⟩) (log.length + 1) cap)) 5 (.int .i64 ((n : Int) + 1)))
        have HZW : Hid (((w4.setCell ⟨w.heap.size, 4, none⟩ (.slice (some ⟨g, 0, none⟩) (log.length + 1) cap)).setCell ⟨w.heap.size, 5, none⟩ (.int .i64 ((n : Int) + 1))).heap[w.heap.size + 1]? = _) := Lib.hid ((set_far6 hne).trans ((set_far6 hne).trans HZ4.out))
        have HBW := Lib.hid ((HB4.out.setCell (p := ⟨w.heap.size, 4, none⟩) (Nat.le_refl _) (.slice (some ⟨g, 0, none⟩) (log.length + 1) cap)).setCell (p := ⟨w.heap.size, 5, none⟩) (Nat.le_refl _) (.int .i64 ((n : Int) + 1)))
        refine ret_cell2 (A := ⟨w.heap.size + 1, 0, none⟩) rfl (load_rlink _ _ _ _ _ _ _ _ _ (six_all HZW.out _ _ _ _ _ _)) rfl rfl rfl ?_
        obtain ⟨f1, f2, f3⟩ := rl_fin HZW.out HBW.out HH0.out (ys := log ++ [EV]) (by rw [HEVT.out]; exact HOW.out) (.string h) (.string p) (.string f) (.slice (some ⟨b, o + 3, none⟩) t.length (cr - 1)) (.slice (some ⟨g, 0, none⟩) (log.length + 1) cap) (.int .i64 ((n : Int) + 1))
        exact ⟨_, _, rfl, HH1.out, by rw [List.length_append]; exact f2, f3⟩
      | false =>
        have hq : (G.toList == Wh.toList) = true := by rw [eq_comm, Bool.not_eq_false'] at hht; exact hht
        have hq2 : G.toList = Wh.toList := by rw [beq_iff_eq] at hq; exact hq
        clear hht
        go_wp2_with (at_builtin; first
          | (refine append_row3 48 106 _ 24 Tryz.underlying48 info_revt rfl (by decide) w2 (by rfl) _ _ (by rfl) w.heap.size (.slice none 0 0) 0 [] (by rfl) (World.ownsRow_nil _ _ _ _) b0 _ log.length (evs log) (by rfl) HR2.out.o (evs_one log) (by have := HBs.out.1; omega) HR2.out.b.size ?_; intro v1 c1 w3 ho3 hg3; rw [Nat.zero_add, List.nil_append] at ho3; have HO3 := Lib.hid ho3; have HR3 := Lib.hid (HR2.out.below ⟨hg3.os, hg3.tape, hg3.output, hg3.size, fun j hj => hg3.block j hj (by simp [Value.ownBlock])⟩); clear ho3 hg3 a0 a1 a2 a3 a4 a5 a6)
          | (refine append3 48 106 _ 24 Tryz.underlying48 info_revt rfl (by decide) w3 (.int .i64 (s.size : Int)) (.int .i64 (G.size : Int)) (.bool false) rfl rfl rfl (by rfl) _ _ (by rfl) w.heap.size _ log.length (evs log) (by rfl) HO3.out (by rfl) (by have := HBs.out.1; omega) HR3.out.b.size ?_; intro g cap w4 ho4 hg4 hd4; have HO4 := Lib.hid ho4; have HX4 := Lib.hid ((hg4.block _ (by have := HR3.out.s; omega) (fun e => own_not_row HO3.out HR3.out.a (by decide) e.symm)).trans HR3.out.a); have HZ4 := Lib.hid ((hg4.block _ (by have := HR3.out.s; omega) (fun e => own_not_row HO3.out HR3.out.z (by decide) e.symm)).trans HR3.out.z); have HB4 := Lib.hid (HR3.out.b.grown hg4 HR3.out.b.size (fun j hj => (HO3.out.lt j hj).1)); obtain ⟨⟨q0, q1, q2, q3, q4, q5⟩, u3, u4, u5⟩ := six_facts HX4.out; obtain ⟨z0, z1, z2, z3, z4, z5⟩ := six_free HZ4.out; obtain ⟨⟨r0, r1, r2, r3, r4, r5⟩, -⟩ := six_facts HZ4.out; clear ho4 hg4 hd4))
        have hne : w.heap.size + 1 ≠ w.heap.size := by omega
        have HOW := Lib.hid (own_far HO4.out HX4.out 4 (.slice (some ⟨g, 0, none⟩) (log.length + 1) cap))
        have HZW : Hid ((w4.setCell ⟨w.heap.size, 4, none⟩ (.slice (some ⟨g, 0, none⟩) (log.length + 1) cap)).heap[w.heap.size + 1]? = _) := Lib.hid ((set_far6 hne).trans HZ4.out)
        have HBW := Lib.hid (HB4.out.setCell (p := ⟨w.heap.size, 4, none⟩) (Nat.le_refl _) (.slice (some ⟨g, 0, none⟩) (log.length + 1) cap))
        refine ret_cell2 (A := ⟨w.heap.size + 1, 0, none⟩) rfl (load_rlink _ _ _ _ _ _ _ _ _ (six_all HZW.out _ _ _ _ _ _)) rfl rfl rfl ?_
        obtain ⟨f1, f2, f3⟩ := rl_fin HZW.out HBW.out HH0.out (ys := log ++ [EV]) (by rw [HEVT.out]; exact HOW.out) (.string h) (.string p) (.string f) (.slice (some ⟨b, o + 3, none⟩) t.length (cr - 1)) (.slice (some ⟨g, 0, none⟩) (log.length + 1) cap) (.int .i64 (n : Int))
        exact ⟨_, _, rfl, HH1.out, by rw [List.length_append]; exact f2, f3⟩
end Go.Proofs.YtbdmmgmcbecolaaGreatDoor
namespace Go.Proofs.YtbdmmgmcbecolaaGreatDoor
open Go.RowKit
theorem flts_ok {l : List Flt} (h : ∀ x ∈ l, (Lit.int .u8 x.1).wf = true ∧ (Lit.int .i64 x.2.1).wf = true) (ht : ∀ x ∈ l, x.2.2.size ≤ 300) : ∀ x ∈ l, FltOk x := fun x hx => by
  obtain ⟨h1, h2⟩ := h x hx
  have a : IntKind.u8.min ≤ x.1 ∧ x.1 ≤ IntKind.u8.max := by simpa [Lit.wf] using h1
  have b : IntKind.i64.min ≤ x.2.1 ∧ x.2.1 ≤ IntKind.i64.max := by simpa [Lit.wf] using h2
  have := ht x hx
  exact ⟨a.1, b.1, b.2, by omega⟩
end Go.Proofs.YtbdmmgmcbecolaaGreatDoor
namespace Go.Proofs.YtbdmmgmcbecolaaGreatDoor
open Go.RowKit
/-- a store into a block of another type does nothing to a link -/
theorem KL.far {w0 w w' : World} {P : Nat} {h p f : ByteArray} {rest : List Flt} {log : List Evt} {n : Nat} {rv lv : Value} (k : KL w0 w P h p f rest log n rv lv) {X : Nat} {C : Array Value} {t : TypeId} (hX : w.heap[X]? = some (.cells C t (0, 0))) (h1 : t ≠ 97) (h2 : t ≠ 107) (h3 : t ≠ 65) (hlo : w0.heap.size ≤ X) (ht : Touch (fun g => g = X) w w') : KL w0 w' P h p f rest log n rv lv := by
  have hb : Below w0.heap.size w0 w' := k.bel.trans (ht.below (fun g hg => by rw [show g = X from hg]; exact hlo) k.bel.size)
  refine ⟨k.a.touch ht ?_ ?_ ?_, k.lo, hb⟩
  · intro e
    have e2 := k.a.blk
    rw [show _ = X from e, hX] at e2
    simp only [Option.some.injEq, Obj.cells.injEq] at e2
    exact h1 e2.2.1
  · intro b hb e
    obtain ⟨C', hC⟩ := k.a.tag b hb
    rw [show b = X from e, hX] at hC
    simp only [Option.some.injEq, Obj.cells.injEq] at hC
    exact h3 hC.2.1
  · intro b hb e
    exact own_not_row k.a.own hX h2.symm (by rw [hb]; exact congrArg some e)
/-- the state of LinkAsks' loop -/
structure SL (w1 wr : World) (P X : Nat) (h p f : ByteArray) (rest : List Flt) (log : List Evt) (n : Nat) (rv lv xr xl : Value) : Prop where
  k : KL w1 wr P h p f rest log n rv lv
  x : wr.heap[X]? = some (.cells #[.string h, .string p, .string f, xr, xl, .int .i64 (n : Int)] 50 (0, 0))
  hold : HoldsC w1 xr rest
  own : wr.ownsRow w1.heap.size 106 3 xl log.length (evs log)
  lo : w1.heap.size ≤ X
theorem SL.start {w1 wb : World} {P : Nat} {h p f : ByteArray} {rest : List Flt} {rv lv v : Value} (k : KL w1 wb P h p f rest [] 0 rv lv) (hv : HoldsC w1 v rest) : SL w1 (wb.alloc (.cells #[.string h, .string p, .string f, v, .slice none 0 0, .int .i64 0] 50)) P wb.heap.size h p f rest [] 0 rv lv v (.slice none 0 0) :=
  ⟨k.step ((Below.refl _ _).alloc (Nat.le_refl _) _), heap_alloc_new wb _, hv, World.ownsRow_nil _ _ _ _, k.bel.size⟩
/-- a block of another type stands beside a link's request -/
theorem blk_beside {w0 w w' : World} {P : Nat} {h p f : ByteArray} {rest : List Flt} {log : List Evt} {n : Nat} {rv lv : Value} (k : KL w0 w P h p f rest log n rv lv) {X : Nat} {C : Array Value} {t : TypeId} (hX : w.heap[X]? = some (.cells C t (0, 0))) (h1 : t ≠ 97) (h2 : t ≠ 107) (ht : Touch (LS P lv) w w') : w'.heap[X]? = some (.cells C t (0, 0)) := by
  refine (ht.block X (Array.getElem?_eq_some_iff.1 hX).1 ?_).trans hX
  rintro (e | e)
  · have e2 := k.a.blk
    rw [← e, hX] at e2
    simp only [Option.some.injEq, Obj.cells.injEq] at e2
    exact h1 e2.2.1
  · exact own_not_row k.a.own hX h2.symm e
end Go.Proofs.YtbdmmgmcbecolaaGreatDoor
namespace Go.Proofs.YtbdmmgmcbecolaaGreatDoor
open Go.RowKit
/-- why the bytes s tell nothing of the range a, b of t bytes; 0: they tell it -/
def judE (s : ByteArray) (a b t : Int) : Nat :=
  if s.size = 0 then 16
  else if takE s (rLen a b) ≠ 0 then takE s (rLen a b)
  else if takN s (rLen a b) < (s.size : Int) then 4
  else if takC s (rLen a b) ≠ 206 then 17
  else if getE (takF s (rLen a b)) crangeK ≠ 0 then getE (takF s (rLen a b)) crangeK
  else if tellE (getS (takF s (rLen a b)) crangeK) ≠ 0 then tellE (getS (takF s (rLen a b)) crangeK)
  else if tellA (getS (takF s (rLen a b)) crangeK) ≠ a ∨ tellB (getS (takF s (rLen a b)) crangeK) ≠ b ∨ tellC (getS (takF s (rLen a b)) crangeK) ≠ t then 19
  else if ((takB s (rLen a b)).length : Int) ≠ rLen a b then 18
  else 0
def judS (s : ByteArray) (a b t : Int) : List UInt8 := if judE s a b t = 0 then takB s (rLen a b) else []
theorem jud_made (s : ByteArray) (a b t : Int) (h1 : s.size ≠ 0) (h2 : takE s (rLen a b) = 0) (h3 : (s.size : Int) ≤ takN s (rLen a b)) (h4 : takC s (rLen a b) = 206) (h5 : getE (takF s (rLen a b)) crangeK = 0) (h6 : tellE (getS (takF s (rLen a b)) crangeK) = 0) (h7 : tellA (getS (takF s (rLen a b)) crangeK) = a ∧ tellB (getS (takF s (rLen a b)) crangeK) = b ∧ tellC (getS (takF s (rLen a b)) crangeK) = t) (h8 : ((takB s (rLen a b)).length : Int) = rLen a b) : judE s a b t = 0 := by
  unfold judE
  rw [if_neg h1, if_neg (fun e => e h2), if_neg (by omega), if_neg (fun e => e h4), if_neg (fun e => e h5), if_neg (fun e => e h6), if_neg (by rw [h7.1, h7.2.1, h7.2.2]; simp), if_neg (fun e => e h8)]
end Go.Proofs.YtbdmmgmcbecolaaGreatDoor
namespace Go.Proofs.YtbdmmgmcbecolaaGreatDoor
open Go.RowKit
/-- what comes back in round j, behind n requests -/
def gotN (h p f : ByteArray) (l : List Flt) (S : ByteArray) (n j : Nat) : ByteArray := gotK h p f ((l.drop (n + j)).headD noF) S
/-- the log behind the requests qs and m rounds -/
def lgN (h p f : ByteArray) (l : List Flt) (qs : List ByteArray) (S : ByteArray) (m : Nat) : List Evt := logK h p f l (qs ++ List.replicate m S)
theorem lgN_zero (h p f : ByteArray) (l : List Flt) (qs : List ByteArray) (S : ByteArray) : lgN h p f l qs S 0 = logK h p f l qs := by unfold lgN; simp
theorem lgN_step (h p f : ByteArray) (l : List Flt) (qs : List ByteArray) (S : ByteArray) (m : Nat) : lgN h p f l qs S (m + 1) = lgN h p f l qs S m ++ [evK h p f ((l.drop (qs.length + m)).headD noF) S] := by
  unfold lgN
  rw [List.replicate_succ', ← List.append_assoc, logK_snoc]
  have e : restK l (qs ++ List.replicate m S) = l.drop (qs.length + m) := by unfold restK; simp
  rw [e]
theorem logK_len (h p f : ByteArray) : ∀ (qs : List ByteArray) (l : List Flt), (logK h p f l qs).length = qs.length := by
  intro qs
  induction qs with
  | nil => intro l; rfl
  | cons a t ih => intro l; show (logK h p f l.tail t).length + 1 = _; rw [ih]; rfl
theorem lgN_len (h p f : ByteArray) (l : List Flt) (qs : List ByteArray) (S : ByteArray) (m : Nat) : (lgN h p f l qs S m).length = qs.length + m := by
  unfold lgN; rw [logK_len]; simp
theorem hmN_step (h p f : ByteArray) (l : List Flt) (qs : List ByteArray) (S : ByteArray) (m : Nat) : harmsK (lgN h p f l qs S (m + 1)) = harmsK (lgN h p f l qs S m) + oneK (hurtK h p f ((l.drop (qs.length + m)).headD noF) S) := by
  rw [lgN_step, harmsK_snoc]; rfl
theorem hmN_le (h p f : ByteArray) (l : List Flt) (qs : List ByteArray) (S : ByteArray) (m : Nat) : harmsK (lgN h p f l qs S m) ≤ qs.length + m := by
  have := harms_le (lgN h p f l qs S m)
  rwa [lgN_len] at this
/-- the first round in which the range was told -/
def runJ (e : Nat → Nat) (r : Nat) : Option Nat := (List.range (r + 1)).find? (fun j => e j == 0)
theorem runJ_some (e : Nat → Nat) (r i : Nat) (hi : i ≤ r) (h : ∀ j, j < i → e j ≠ 0) (h0 : e i = 0) : runJ e r = some i := by
  unfold runJ
  rw [List.find?_range_eq_some]
  refine ⟨by simp [h0], List.mem_range.2 (by omega), fun j hj => by simpa using h j hj⟩
theorem runJ_none (e : Nat → Nat) (r : Nat) (h : ∀ j, j ≤ r → e j ≠ 0) : runJ e r = none := by
  unfold runJ
  rw [List.find?_eq_none]
  intro j hj
  have := h j (by have := List.mem_range.1 hj; omega)
  simpa using this
/-- how many requests were asked; the last answer's error; the call's error; what it tells -/
def runA (e : Nat → Nat) (r : Nat) : Nat := match runJ e r with | some j => j + 1 | none => r + 1
def runL (e : Nat → Nat) (r : Nat) : Nat := match runJ e r with | some _ => 0 | none => e r
def runE (e : Nat → Nat) (r : Nat) : Nat := match runJ e r with | some _ => 0 | none => 23
def runB (e : Nat → Nat) (r : Nat) (B : Nat → List UInt8) : List UInt8 := match runJ e r with | some j => B j | none => []
theorem run_some (e : Nat → Nat) (r i : Nat) (B : Nat → List UInt8) (hi : i ≤ r) (h : ∀ j, j < i → e j ≠ 0) (h0 : e i = 0) : runA e r = i + 1 ∧ runL e r = 0 ∧ runE e r = 0 ∧ runB e r B = B i := by
  unfold runA runL runE runB
  rw [runJ_some e r i hi h h0]
  exact ⟨rfl, rfl, rfl, rfl⟩
theorem run_none (e : Nat → Nat) (r : Nat) (B : Nat → List UInt8) (h : ∀ j, j ≤ r → e j ≠ 0) : runA e r = r + 1 ∧ runL e r = e r ∧ runE e r = 23 ∧ runB e r B = [] := by
  unfold runA runL runE runB
  rw [runJ_none e r h]
  exact ⟨rfl, rfl, rfl, rfl⟩
theorem run_cases (e : Nat → Nat) (r : Nat) : (∃ i, i ≤ r ∧ (∀ j, j < i → e j ≠ 0) ∧ e i = 0) ∨ ∀ j, j ≤ r → e j ≠ 0 := by
  cases hJ : runJ e r with
  | none =>
    right
    intro j hj
    unfold runJ at hJ
    rw [List.find?_eq_none] at hJ
    have := hJ j (List.mem_range.2 (by omega))
    simpa using this
  | some i =>
    left
    unfold runJ at hJ
    rw [List.find?_range_eq_some] at hJ
    obtain ⟨h1, h2, h3⟩ := hJ
    exact ⟨i, by have := List.mem_range.1 h2; omega, fun j hj => by simpa using h3 j hj, by simpa using h1⟩
theorem runA_le (e : Nat → Nat) (r : Nat) : 1 ≤ runA e r ∧ runA e r ≤ r + 1 := by
  rcases run_cases e r with ⟨i, hi, h1, h2⟩ | h
  · rw [(run_some e r i (fun _ => []) hi h1 h2).1]; omega
  · rw [(run_none e r (fun _ => []) h).1]; omega
/-- the errors of a client's rounds -/
def errN (h p f : ByteArray) (l : List Flt) (S : ByteArray) (n : Nat) (a b t : Int) (j : Nat) : Nat := judE (gotN h p f l S n j) a b t
def bodN (h p f : ByteArray) (l : List Flt) (S : ByteArray) (n : Nat) (a b t : Int) (j : Nat) : List UInt8 := judS (gotN h p f l S n j) a b t
end Go.Proofs.YtbdmmgmcbecolaaGreatDoor
namespace Go.Proofs.YtbdmmgmcbecolaaGreatDoor
open Go.RowKit
theorem tellSplit (l : List UInt8) (R : List UInt8) (hR : R = if tellsL.isPrefixOf l = true then l.drop 6 else l) (R2 : List UInt8) (h2 : R2 = if hasB 45 R = true then behind 45 R else []) : tellOk l = (tellsL.isPrefixOf l && hasB 45 R && hasB 47 R2) := by
  unfold tellOk
  cases h : tellsL.isPrefixOf l
  · simp
  · rw [h, if_pos rfl] at hR
    subst hR
    cases hb : hasB 45 (l.drop 6)
    · simp
    · rw [hb, if_pos rfl] at h2
      rw [h2]
theorem threeE_nums (a b c : List UInt8) : numsE [a, b, c] = threeE a b c := by
  show (if numE a ≠ 0 then numE a else if numE b ≠ 0 then numE b else if numE c ≠ 0 then numE c else 0) = _
  unfold threeE
  split
  · rfl
  · split
    · rfl
    · split <;> omega
theorem tell_bad (l : List UInt8) (h : tellOk l = false) : tellE l = 4 ∧ tellA l = 0 ∧ tellB l = 0 ∧ tellC l = 0 := by
  have : tellE l = 4 := by unfold tellE; rw [if_pos h]
  unfold tellA tellB tellC; rw [this]; exact ⟨rfl, rfl, rfl, rfl⟩
theorem tell_no (l : List UInt8) (h : tellE l ≠ 0) : tellA l = 0 ∧ tellB l = 0 ∧ tellC l = 0 := by
  unfold tellA tellB tellC; rw [if_neg h, if_neg h, if_neg h]; exact ⟨rfl, rfl, rfl⟩
set_option maxRecDepth 100000 in
set_option maxHeartbeats 4000000 in
theorem ranges_tell (s : ByteArray) (w : World) (hs : s.size ≤ 1000000) (hE : EnvF w) :
    Calls Tryz.prog 48 #[.string s] w fun e w' => e = .returned (.tuple #[.agg #[.int .i64 (tellA s.data.toList), .int .i64 (tellB s.data.toList)], .int .i64 (tellC s.data.toList), .int .i64 (tellE s.data.toList : Nat)]) ∧ Below w.heap.size w w' := by
  obtain ⟨L, hL⟩ : ∃ L, s.data.toList = L := ⟨_, rfl⟩
  have hLl : L.length ≤ 1000000 := by rw [← hL, size_len]; exact hs
  have HP := Lib.hid (fun w => c_cutPre s ⟨#[98, 121, 116, 101, 115, 32]⟩ w)
  rw [hL, show (ByteArray.mk #[98, 121, 116, 101, 115, 32]).data.toList = tellsL from rfl] at HP
  rw [hL]
  obtain ⟨R, hR⟩ : ∃ R, bs (Lib.trimPrefix L tellsL) = R := ⟨_, rfl⟩
  have hRd : R.data.toList = if tellsL.isPrefixOf L = true then L.drop 6 else L := by rw [← hR, bs_data]; rfl
  have hRs : R.size ≤ 1000000 := by rw [← size_len, hRd]; split <;> (try rw [List.length_drop]) <;> omega
  rw [hR] at HP
  have HC := Lib.hid (fun w hE => c_cutAt R 45 w hRs hE)
  obtain ⟨R2, hR2⟩ : ∃ R2, bs (if hasB 45 R.data.toList = true then behind 45 R.data.toList else []) = R2 := ⟨_, rfl⟩
  have hR2d : R2.data.toList = if hasB 45 R.data.toList = true then behind 45 R.data.toList else [] := by rw [← hR2, bs_data]
  have hR2s : R2.size ≤ 1000000 := by
    rw [← size_len, hR2d]
    split
    · unfold behind; rw [List.length_drop, size_len]; omega
    · exact Nat.zero_le _
  rw [hR2] at HC
  have HC2 := Lib.hid (fun w hE => c_cutAt R2 47 w hR2s hE)
  have HE := Lib.hid (hE.below ((Below.refl _ _).alloc (Nat.le_refl _) (.cells #[.int .i64 0, .int .i64 0] 28)))
  have hok := tellSplit L R.data.toList hRd R2.data.toList hR2d
  by_cases hk : tellOk L = true
  case neg =>
    rw [Bool.not_eq_true] at hk
    have HA := Lib.hid (tell_bad L hk)
    rw [hk] at hok
    obtain ⟨p1, hp1⟩ : ∃ p1, tellsL.isPrefixOf L = p1 := ⟨_, rfl⟩
    obtain ⟨p2, hp2⟩ : ∃ p2, hasB 45 R.data.toList = p2 := ⟨_, rfl⟩
    obtain ⟨p3, hp3⟩ : ∃ p3, hasB 47 R2.data.toList = p3 := ⟨_, rfl⟩
    rw [hp1, hp2, hp3] at hok
    rw [hp1] at HP
    rw [hp2] at HC
    rw [hp3] at HC2
    generalize bs (if p2 = true then upTo 45 R.data.toList else R.data.toList) = X1 at HC
    generalize bs (if p3 = true then upTo 47 R2.data.toList else R2.data.toList) = X2 at HC2
    generalize bs (if p3 = true then behind 47 R2.data.toList else []) = X3 at HC2
    clear hp1 hp2 hp3 hRd hR2d hR hR2 hE hk hL
    cases p1 <;> cases p2 <;> cases p3
    case' true.true.true => exact absurd hok (by decide)
    all_goals
      clear hok
      go_enter Tryz.func48, Tryz.ntmps48
      go_wp2_with fail
      refine (HP.out _).mono ?_
      rintro e w' ⟨rfl, rfl⟩
      go_wp2_with fail
      refine (HC.out _ HE.out).mono ?_
      rintro e w1 ⟨rfl, hb1⟩
      have HE1 := Lib.hid (HE.out.below hb1)
      have HB1 := Lib.hid hb1
      clear hb1
      go_wp2_with fail
      refine (HC2.out _ HE1.out).mono ?_
      rintro e w2 ⟨rfl, hb2⟩
      have hb2' := bstep HB1.out hb2
      obtain ⟨k0, k1, f0, f1⟩ := two_of (two_box hb2')
      have HB2 := Lib.hid hb2'
      clear hb2 hb2'
      go_wp2_with fail
      refine ret_cell3 (A := ⟨w.heap.size, 0, none⟩) rfl (load_range _ _ _ _ _ (two_set (two_box HB2.out) _ _)) rfl rfl rfl rfl ?_
      refine ⟨?_, two_below (((Below.refl _ _).alloc (Nat.le_refl _) _).trans (HB2.out.mono (by simp))) _ (Nat.le_refl _) _ _⟩
      rw [HA.out.1, HA.out.2.1, HA.out.2.2.1, HA.out.2.2.2]; rfl
  rw [hk] at hok
  replace hok := hok.symm
  rw [Bool.and_eq_true, Bool.and_eq_true] at hok
  obtain ⟨⟨hp1, hp2⟩, hp3⟩ := hok
  rw [hp1, if_pos rfl] at hRd
  rw [hp1] at HP
  rw [hp2, if_pos rfl] at hR2d
  rw [hp2, if_pos rfl] at HC
  rw [hp3, if_pos rfl, if_pos rfl] at HC2
  rw [hRd] at hR2d HC
  rw [hR2d] at HC2
  obtain ⟨F, hF⟩ : ∃ F, upTo 45 (L.drop 6) = F := ⟨_, rfl⟩
  obtain ⟨T, hT⟩ : ∃ T, upTo 47 (behind 45 (L.drop 6)) = T := ⟨_, rfl⟩
  obtain ⟨N, hN⟩ : ∃ N, behind 47 (behind 45 (L.drop 6)) = N := ⟨_, rfl⟩
  have hFl : F.length ≤ 1000000 := by rw [← hF]; have := upTo_le 45 (L.drop 6); rw [List.length_drop] at this; omega
  have hBl : (behind 45 (L.drop 6)).length ≤ 1000000 := by unfold behind; rw [List.length_drop, List.length_drop]; omega
  have hTl : T.length ≤ 1000000 := by rw [← hT]; have := upTo_le 47 (behind 45 (L.drop 6)); omega
  have hNl : N.length ≤ 1000000 := by rw [← hN]; unfold behind at hBl ⊢; rw [List.length_drop]; omega
  have HA : Hid (tellE L = if threeE F T N ≠ 0 then threeE F T N else toldE (numV F : Nat) (numV T : Nat) (numV N : Nat)) := Lib.hid (by
    unfold tellE; rw [if_neg (by rw [hk]; decide)]
    unfold tellF tellT tellN
    rw [hF, hT, hN])
  have HAV : Hid (tellF L = numV F ∧ tellT L = numV T ∧ tellN L = numV N) := Lib.hid (by unfold tellF tellT tellN; rw [hF, hT, hN]; exact ⟨rfl, rfl, rfl⟩)
  rw [hF] at HC
  rw [hT, hN] at HC2
  have hnum := ranges_numbers (xs := [F, T, N]) (hne := by simp) (hlen := by simp) (hx := by intro x hx; simp at hx; rcases hx with rfl | rfl | rfl <;> assumption)
  have HN := Lib.hid hnum
  clear hp1 hp2 hp3 hRd hR2d hR hR2 hE hk hL hF hT hN hnum hBl
  by_cases hz : threeE F T N = 0
  case neg =>
    have HZ : Hid (numsE [F, T, N] = threeE F T N ∧ tellE L = threeE F T N ∧ tellA L = 0 ∧ tellB L = 0 ∧ tellC L = 0) := Lib.hid (by
      have e1 : tellE L = threeE F T N := by rw [HA.out, if_pos hz]
      exact ⟨threeE_nums F T N, e1, tell_no L (by rw [e1]; exact hz)⟩)
    have tz : ((threeE F T N : Int) != 0) = true := by rw [bne_iff_ne]; omega
    generalize threeE F T N = Z at HZ tz
    clear hz HA HAV
    go_enter Tryz.func48, Tryz.ntmps48
    go_wp2_with fail
    refine (HP.out _).mono ?_
    rintro e w' ⟨rfl, rfl⟩
    go_wp2_with fail
    refine (HC.out _ HE.out).mono ?_
    rintro e w1 ⟨rfl, hb1⟩
    have HE1 := Lib.hid (HE.out.below hb1)
    have HB1 := Lib.hid hb1
    clear hb1
    go_wp2_with fail
    refine (HC2.out _ HE1.out).mono ?_
    rintro e w2 ⟨rfl, hb2⟩
    have hbl : w.heap.size < w2.heap.size := by have := (bstep HB1.out hb2).size; simp at this; omega
    have HB2 := Lib.hid (bstep HB1.out hb2)
    have HE2 := Lib.hid (HE1.out.below hb2)
    clear hb2
    go_wp2_with fail
    have hS : HoldsS (w2.alloc (.cells #[.string (bs F), .string (bs T), .string (bs N)] 9)) (.slice (some ⟨w2.heap.size, 0, none⟩) 3 3) [F, T, N] := HoldsS.of_block (heap_alloc_new _ _) rfl rfl
    have hbA : Below w2.heap.size w2 (w2.alloc (.cells #[.string (bs F), .string (bs T), .string (bs N)] 9)) := (Below.refl _ _).alloc (Nat.le_refl _) _
    refine (HN.out _ _ hS (HE2.out.below hbA)).mono ?_
    rintro e w3 ⟨v, rfl, -, hb3⟩
    rw [HZ.out.1]
    have hb3' : Below (w.alloc (.cells #[.int .i64 0, .int .i64 0] 28)).heap.size (w.alloc (.cells #[.int .i64 0, .int .i64 0] 28)) w3 := bstep HB2.out (bstep hbA hb3)
    obtain ⟨k0, k1, f0, f1⟩ := two_of (two_box hb3')
    have HB3 := Lib.hid hb3'
    clear hb3 hbA hS hb3'
    go_wp2_with fail
    refine ret_cell3 (A := ⟨w.heap.size, 0, none⟩) rfl (load_range _ _ _ _ _ (two_set (two_box HB3.out) _ _)) rfl rfl rfl rfl ?_
    refine ⟨?_, two_below (((Below.refl _ _).alloc (Nat.le_refl _) _).trans (HB3.out.mono (by simp))) _ (Nat.le_refl _) _ _⟩
    rw [HZ.out.2.1, HZ.out.2.2.1, HZ.out.2.2.2.1, HZ.out.2.2.2.2]; rfl
  have HZ : Hid (numsE [F, T, N] = 0 ∧ tellE L = toldE (numV F : Nat) (numV T : Nat) (numV N : Nat)) := Lib.hid ⟨(threeE_nums F T N).trans hz, by rw [HA.out, if_neg (fun h => h hz)]⟩
  have HF : Hid (∀ b, numV b ≤ 9007199254740991) := Lib.hid numV_le'
  obtain ⟨P, hP⟩ : ∃ P, numV F = P := ⟨_, rfl⟩
  obtain ⟨Q, hQ⟩ : ∃ Q, numV T = Q := ⟨_, rfl⟩
  obtain ⟨M, hM⟩ : ∃ M, numV N = M := ⟨_, rfl⟩
  have hPl := HF.out F
  have hQl := HF.out T
  have hMl := HF.out N
  rw [hP] at HZ HAV hPl
  rw [hQ] at HZ HAV hQl
  rw [hM] at HZ HAV hMl
  have HI : Hid ([F, T, N].map numV = [P, Q, M]) := Lib.hid (by rw [← hP, ← hQ, ← hM]; rfl)
  have HCk := Lib.hid (fun w => told_wrong (P : Int) (Q : Int) (M : Int) w)
  clear hz HA HF hP hQ hM
  go_enter Tryz.func48, Tryz.ntmps48
  go_wp2_with fail
  refine (HP.out _).mono ?_
  rintro e w' ⟨rfl, rfl⟩
  go_wp2_with fail
  refine (HC.out _ HE.out).mono ?_
  rintro e w1 ⟨rfl, hb1⟩
  have HE1 := Lib.hid (HE.out.below hb1)
  have HB1 := Lib.hid hb1
  clear hb1
  go_wp2_with fail
  refine (HC2.out _ HE1.out).mono ?_
  rintro e w2 ⟨rfl, hb2⟩
  have hbl : w.heap.size < w2.heap.size := by have := (bstep HB1.out hb2).size; simp at this; omega
  have HB2 := Lib.hid (bstep HB1.out hb2)
  have HE2 := Lib.hid (HE1.out.below hb2)
  clear hb2
  go_wp2_with fail
  have hS : HoldsS (w2.alloc (.cells #[.string (bs F), .string (bs T), .string (bs N)] 9)) (.slice (some ⟨w2.heap.size, 0, none⟩) 3 3) [F, T, N] := HoldsS.of_block (heap_alloc_new _ _) rfl rfl
  have hbA : Below w2.heap.size w2 (w2.alloc (.cells #[.string (bs F), .string (bs T), .string (bs N)] 9)) := (Below.refl _ _).alloc (Nat.le_refl _) _
  refine (HN.out _ _ hS (HE2.out.below hbA)).mono ?_
  rintro e w3 ⟨v, rfl, hI, hb3⟩
  rw [HZ.out.1]
  have hI2 := hI HZ.out.1
  rw [HI.out] at hI2
  obtain ⟨g, c, hv, -, hg, -, hcell⟩ := hI2
  have c0 := hcell 0 (by simp)
  have c1 := hcell 1 (by simp)
  have c2 := hcell 2 (by simp)
  have hv2 : v = .slice (some ⟨g, 0, none⟩) 3 c := hv
  clear hcell hv hI
  subst hv2
  have hb3' : Below (w.alloc (.cells #[.int .i64 0, .int .i64 0] 28)).heap.size (w.alloc (.cells #[.int .i64 0, .int .i64 0] 28)) w3 := bstep HB2.out (bstep hbA hb3)
  clear hb3 hbA hS
  have HB3 := Lib.hid hb3'
  have hw3 : w.heap.size < w3.heap.size := by have := hb3'.size; simp at this; omega
  clear hb3'
  change w3.cell? ⟨g, 0, none⟩ = some (.int .i64 (P : Int)) at c0
  change w3.cell? ⟨g, 1, none⟩ = some (.int .i64 (Q : Int)) at c1
  change w3.cell? ⟨g, 2, none⟩ = some (.int .i64 (M : Int)) at c2
  go_wp2_with fail
  go_region
  all_goals go_wp2_with fail
  have hbR : Below w3.heap.size w3 (w3.alloc (.cells #[.int .i64 (P : Int), .int .i64 (Q : Int), .int .i64 (M : Int)] 169)).drew := ((Below.refl _ _).alloc (Nat.le_refl _) _).drew
  have hnR : (w3.alloc (.cells #[.int .i64 (P : Int), .int .i64 (Q : Int), .int .i64 (M : Int)] 169)).drew.heap[w3.heap.size]? = some (.cells #[.int .i64 (P : Int), .int .i64 (Q : Int), .int .i64 (M : Int)] 169 (0, 0)) := heap_alloc_new w3 _
  have hlR : w3.heap.size < (w3.alloc (.cells #[.int .i64 (P : Int), .int .i64 (Q : Int), .int .i64 (M : Int)] 169)).drew.heap.size := by simp
  refine (HCk.out _).mono ?_
  rintro e w4 ⟨rfl, hb4⟩
  have hj4 := (hb4.block _ hlR).trans hnR
  obtain ⟨j0, j1, j2, -, -, -⟩ := three_facts hj4
  have hb4' : Below (w.alloc (.cells #[.int .i64 0, .int .i64 0] 28)).heap.size (w.alloc (.cells #[.int .i64 0, .int .i64 0] 28)) w4 := bstep HB3.out (bstep hbR hb4)
  obtain ⟨k0, k1, f0, f1⟩ := two_of (two_box hb4')
  have hne : w.heap.size ≠ w3.heap.size := by omega
  have hl4 : w.heap.size < w4.heap.size := (Array.getElem?_eq_some_iff.1 (two_box hb4')).1
  clear hb4 hbR hnR hlR c0 c1 c2 hj4
  have HB4 := Lib.hid hb4'
  clear hb4'
  by_cases hr : toldE (P : Int) (Q : Int) (M : Int) = 0
  · have HR : Hid (tellE L = 0 ∧ tellA L = (P : Int) ∧ tellB L = (Q : Int) ∧ tellC L = (M : Int)) := Lib.hid (by
      have e1 : tellE L = 0 := by rw [HZ.out.2, hr]
      refine ⟨e1, ?_, ?_, ?_⟩
      · unfold tellA; rw [if_pos e1, HAV.out.1]
      · unfold tellB; rw [if_pos e1, HAV.out.2.1]
      · unfold tellC; rw [if_pos e1, HAV.out.2.2])
    rw [hr]
    clear hr
    go_wp2_with fail
    go_region
    all_goals
      go_wp2_with fail
      refine ret_cell3 (A := ⟨w.heap.size, 0, none⟩) rfl (load_range _ _ _ _ _ (two_set (two_box HB4.out) _ _)) rfl rfl rfl rfl ?_
      refine ⟨?_, (two_below (((Below.refl _ _).alloc (Nat.le_refl _) _).trans (HB4.out.mono (by simp))) _ (Nat.le_refl _) _ _).drew⟩
      rw [HR.out.1, HR.out.2.1, HR.out.2.2.1, HR.out.2.2.2]; rfl
  · have HR : Hid (tellE L = toldE (P : Int) (Q : Int) (M : Int) ∧ tellA L = 0 ∧ tellB L = 0 ∧ tellC L = 0) := Lib.hid ⟨HZ.out.2, tell_no L (by rw [HZ.out.2]; exact hr)⟩
    have tz : ((toldE (P : Int) (Q : Int) (M : Int) : Int) != 0) = true := by rw [bne_iff_ne]; omega
    generalize toldE (P : Int) (Q : Int) (M : Int) = Z at HR tz ⊢
    clear hr
    go_wp2_with fail
    refine ret_cell3 (A := ⟨w.heap.size, 0, none⟩) rfl (load_range _ _ _ _ _ (two_set (two_box HB4.out) _ _)) rfl rfl rfl rfl ?_
    refine ⟨?_, two_below (((Below.refl _ _).alloc (Nat.le_refl _) _).trans (HB4.out.mono (by simp))) _ (Nat.le_refl _) _ _⟩
    rw [HR.out.1, HR.out.2.1, HR.out.2.2.1, HR.out.2.2.2]; rfl
end Go.Proofs.YtbdmmgmcbecolaaGreatDoor
