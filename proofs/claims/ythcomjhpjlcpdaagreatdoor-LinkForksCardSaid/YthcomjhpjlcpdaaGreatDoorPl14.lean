/- over of the laws of layer 29. What Faults and Back of the laws of layer 29 return. Same of the reference of link, of logs that are the same. What a fork of a link is told, as a row of texts. The small example of the laws of layer 46. The small example of the laws of layer 29. The small example of the laws of layer 29: the walk. What an argument that is a slice of the reference's fields reads as. What an argument that is a slice of ranges reads as. What an argument that is a slice of the document's faults reads as; Over of them. What Ask of the reference of link returns. -/
import Derived.Test.YthcomjhpjlcpdaaGreatDoorPl13
import Derived.Laws.StructEq
import Derived.BigQuiet
import Derived.Deep.RegionHeld3
import Derived.Deep.Slices
import Derived.Deep.Fields
import Derived.ChangeSame
set_option linter.unusedVariables false
set_option linter.unusedSimpArgs false
namespace Go.Proofs.YthcomjhpjlcpdaaGreatDoor
open Go.RowKit Go.Shelf Go.Lib
set_option maxRecDepth 100000 in
set_option maxHeartbeats 1000000 in
theorem over29 (v : Value) (l : List (List UInt8)) (N M : Nat) (w : World) (hM : M ≤ 100000) (hN : N ≤ 100000) (hv : StrArg w v l) :
    Calls Tryz.prog 10 #[v, .int .i64 (N : Nat), .int .i64 (M : Nat)] w fun e w' => e = .returned (.bool (overB l N M)) ∧ w' = w := by
  obtain ⟨⟨a, c, rfl, hc, hx⟩, hsz, hll⟩ := hv
  unfold maxLen at hll
  have HX := Lib.hid hx
  have HZ := Lib.hid hsz
  have HT : Hid (∀ k (hk : k < l.length), M < offF l (k + 1) → overB l N M = true) := Lib.hid (fun k hk h => by unfold overB; rw [decide_eq_true (Nat.lt_of_lt_of_le h (offF_le l _))]; rfl)
  have HE : Hid (offF l l.length ≤ M → overB l N M = decide (N < l.length)) := Lib.hid (fun h => by
    rw [offF_all] at h
    unfold overB; rw [decide_eq_false (by omega), Bool.false_or])
  clear hx hsz
  generalize overB l N M = B at HT HE ⊢
  go_enter Tryz.func10, Tryz.ntmps10
  go_wp2_with fail
  go_loop [2, 7] (fun t i => ∃ k : Nat, k ≤ l.length ∧ i = .int .i64 k ∧ offF l k ≤ M ∧ t = .int .i64 ((M : Int) - (offF l k : Nat))) (fun _ i => l.length - (intOf i).toNat)
  case atStart => exact ⟨0, by omega, rfl, by rw [offF_zero]; omega, by rw [offF_zero]; simp⟩
  case round =>
    obtain ⟨k, hk, rfl, hle, rfl⟩ := hrel
    by_cases hlt : k < l.length
    · obtain ⟨b, o, rfl, hbl, hcell⟩ := HX.out (fun e => by rw [e] at hlt; exact absurd hlt (Nat.not_lt_zero _))
      have c0 := hcell k hlt
      have hs := offF_succ l k hlt
      have hz := HZ.out l[k] (List.getElem_mem hlt)
      unfold maxLen at hz
      have hbz := bs_size l[k]
      have hT := Lib.hid (HT.out k hlt)
      clear hcell HX HZ HT
      generalize bs l[k] = X at c0 hbz
      obtain ⟨n, hn⟩ : ∃ n, n = l[k].length := ⟨_, rfl⟩
      rw [← hn] at hs hz hbz
      clear hn
      obtain ⟨q, hq⟩ : ∃ q, q = offF l k := ⟨_, rfl⟩
      rw [← hq] at hs hle ⊢
      have Hs := Lib.hid hs
      clear hs hq
      by_cases hbig : M < q + n
      · have t1 : decide ((M : Int) - (q : Int) - (n : Int) < 0) = true := decide_eq_true (by omega)
        have HB := Lib.hid (hT.out (by rw [Hs.out]; exact hbig))
        clear hT
        go_wp2_with fail
        go_ret
        exact ⟨by rw [HB.out]; rfl, rfl⟩
      · have t1 : decide ((M : Int) - (q : Int) - (n : Int) < 0) = false := decide_eq_false (by omega)
        clear hT
        go_wp2_with fail
        go_round
        case rel => exact ⟨k + 1, by omega, by go_num, by rw [Hs.out]; omega, by rw [Hs.out]; congr 1; omega⟩
        case measure => simp [intOf]; omega
    · obtain rfl : k = l.length := by omega
      have HB := Lib.hid (HE.out hle)
      clear HE HT HX HZ
      go_wp2_with fail
      go_ret
      exact ⟨by rw [HB.out]; rfl, rfl⟩
theorem small29 (l : List (List UInt8)) (h : overB l 20 3000 = false) : l.length ≤ 20 ∧ l.flatten.length ≤ 3000 := by
  unfold overB at h
  rw [Bool.or_eq_false_iff, decide_eq_false_iff_not, decide_eq_false_iff_not] at h
  omega
end Go.Proofs.YthcomjhpjlcpdaaGreatDoor
namespace Go.Proofs.YthcomjhpjlcpdaaGreatDoor
open Go.RowKit
def FaultsPost (l : List Flt) (w : World) (e : Ending) (w' : World) : Prop :=
  ∃ a c, e = .returned (.slice a l.length c) ∧ w'.ownsRow w.heap.size 53 3 (.slice a l.length c) l.length (flts l) ∧ Below w.heap.size w w'
set_option maxRecDepth 100000 in
set_option maxHeartbeats 2000000 in
theorem law29_faults (v : Value) (l : List Flt) (w : World) (hv : HoldsC w v l) (hlen : l.length < 2147483647) :
    Calls Tryz.prog 13 #[v] w (FaultsPost l w) := by
  obtain ⟨a, c, rfl, hc, hx⟩ := hv
  have HX := Lib.hid hx
  clear hx
  go_enter Tryz.func13, Tryz.ntmps13
  go_wp2_with fail
  go_loopw [3, 4] (fun u i wr => ∃ k : Nat, k ≤ l.length ∧ i = .int .i64 k ∧ wr.ownsRow w.heap.size 53 3 u k (flts (l.take k)) ∧ Below w.heap.size w wr) (fun _ i _ => l.length - (intOf i).toNat)
  case atStart => exact ⟨0, by omega, rfl, World.ownsRow_nil _ _ _ _, Below.refl _ _⟩
  case round =>
    obtain ⟨k, hk, rfl, hown, hb⟩ := hrel
    by_cases hlt : k < l.length
    · obtain ⟨b, o, rfl, hbl, hcell⟩ := HX.out (fun e => by rw [e] at hlt; exact absurd hlt (Nat.not_lt_zero _))
      obtain ⟨y0, y1, y2⟩ := hcell k hlt
      rw [Nat.mul_comm 3 k] at y0 y1 y2
      have c0 := (hb.cell (p := ⟨b, o + k * 3, none⟩) hbl).trans y0
      have c1 := (hb.cell (p := ⟨b, o + k * 3 + 1, none⟩) hbl).trans y1
      have c2 := (hb.cell (p := ⟨b, o + k * 3 + 2, none⟩) hbl).trans y2
      have hstep : flts (l.take (k + 1)) = flts (l.take k) ++ [.int .u8 l[k].1, .int .i64 l[k].2.1, .string l[k].2.2] := by rw [List.take_succ_eq_append_getElem hlt, flts_append]; rfl
      obtain ⟨X, hX⟩ : ∃ X, l[k] = X := ⟨_, rfl⟩
      rw [hX] at c0 c1 c2 hstep
      obtain ⟨x1, x2, x3⟩ := X
      have hst := Lib.hid hstep
      clear hcell HX y0 y1 y2 hX hstep
      go_wp2_with (at_builtin; go_loud (refine append3 35 53 _ 32 Tryz.underlying35 info_flt rfl (by decide) wr (.int .u8 x1) (.int .i64 x2) (.string x3) rfl rfl rfl (by rfl) _ _ (by rfl) w.heap.size _ k _ (by rfl) hown (by rfl) (by omega) hb.size ?_); intro g cap w1 hown1 hg1 hd1)
      go_roundw
      case rel => exact ⟨k + 1, by omega, by go_num, by rw [hst.out]; exact hown1, below_ownF hb hg1 hown (Nat.le_refl _) hb.size⟩
      case measure => simp [intOf]; omega
    · obtain rfl : k = l.length := by omega
      rw [List.take_length] at hown
      obtain ⟨a', c', rfl⟩ := slice_of_own hown
      go_wp2_with fail
      go_ret
      exact ⟨_, _, rfl, hown, hb⟩
theorem info_revt : (Tryz.prog.info? 67).map (fun i => (i.zero, i.size, i.bytes)) = some (some (.agg #[.int .i64 0, .int .i64 0, .bool false]), 3, 24) := by kernel_rfl
def BackPost (l : List Evt) (w : World) (e : Ending) (w' : World) : Prop :=
  ∃ a c, e = .returned (.slice a l.length c) ∧ w'.ownsRow w.heap.size 67 3 (.slice a l.length c) l.length (evs l) ∧ Below w.heap.size w w'
theorem own_cells3 {w : World} {b0 n : Nat} {e : TypeId} {v : Value} {l : List Evt} (h : w.ownsRow b0 e 3 v n (evs l)) (k : Nat) (hk : k < l.length) : ∃ g c, v = .slice (some ⟨g, 0, none⟩) n c ∧ b0 ≤ g ∧ g < w.heap.size ∧ w.cell? ⟨g, k * 3, none⟩ = some (.int .i64 l[k].1) ∧ w.cell? ⟨g, k * 3 + 1, none⟩ = some (.int .i64 l[k].2.1) ∧ w.cell? ⟨g, k * 3 + 2, none⟩ = some (.bool l[k].2.2) := by
  rcases id h.2 with ⟨-, h0⟩ | ⟨g, cap, cur, rfl, -⟩
  · have := h.1; rw [evs_length] at this; omega
  · obtain ⟨x, y, z⟩ := evs_get l k hk
    rw [Nat.mul_comm 3 k] at x y z
    have e0 : ∀ i, (⟨g, 0, none⟩ : Addr).add i = ⟨g, i, none⟩ := fun i => by unfold Addr.add; split <;> simp_all
    have key : ∀ i u, (evs l)[i]? = some u → w.cell? ⟨g, i, none⟩ = some u := fun i u hu => by
      have := h.cells (g := g) rfl i u hu
      rwa [e0] at this
    exact ⟨g, cap, rfl, (h.lt g rfl).1, (h.lt g rfl).2, key _ _ x, key _ _ y, key _ _ z⟩
set_option maxRecDepth 100000 in
set_option maxHeartbeats 2000000 in
theorem law29_back (v : Value) (l : List Evt) (b0 : Nat) (w : World) (hv : w.ownsRow b0 56 3 v l.length (evs l)) (hlen : l.length < 2147483647) :
    Calls Tryz.prog 20 #[v] w (BackPost l w) := by
  have HX := Lib.hid (fun k hk => own_cells3 hv k hk)
  obtain ⟨a, c, rfl⟩ := slice_of_own hv
  clear hv
  go_enter Tryz.func20, Tryz.ntmps20
  go_wp2_with fail
  go_loopw [3, 4] (fun u i wr => ∃ k : Nat, k ≤ l.length ∧ i = .int .i64 k ∧ wr.ownsRow w.heap.size 67 3 u k (evs (l.take k)) ∧ Below w.heap.size w wr) (fun _ i _ => l.length - (intOf i).toNat)
  case atStart => exact ⟨0, by omega, rfl, World.ownsRow_nil _ _ _ _, Below.refl _ _⟩
  case round =>
    obtain ⟨k, hk, rfl, hown, hb⟩ := hrel
    by_cases hlt : k < l.length
    · obtain ⟨g0, c0', hvv, -, hbl, y0, y1, y2⟩ := HX.out k hlt
      injection hvv with e1 e2 e3
      subst e1 e3
      have c0 := (hb.cell (p := ⟨g0, k * 3, none⟩) hbl).trans y0
      have c1 := (hb.cell (p := ⟨g0, k * 3 + 1, none⟩) hbl).trans y1
      have c2 := (hb.cell (p := ⟨g0, k * 3 + 2, none⟩) hbl).trans y2
      have hstep : evs (l.take (k + 1)) = evs (l.take k) ++ [.int .i64 l[k].1, .int .i64 l[k].2.1, .bool l[k].2.2] := by rw [List.take_succ_eq_append_getElem hlt, evs_append]; rfl
      obtain ⟨X, hX⟩ : ∃ X, l[k] = X := ⟨_, rfl⟩
      rw [hX] at c0 c1 c2 hstep
      obtain ⟨x1, x2, x3⟩ := X
      have hst := Lib.hid hstep
      clear HX y0 y1 y2 hX hstep
      go_wp2_with (at_builtin; go_loud (refine append3 38 67 _ 24 Tryz.underlying38 info_revt rfl (by decide) wr (.int .i64 x1) (.int .i64 x2) (.bool x3) rfl rfl rfl (by rfl) _ _ (by rfl) w.heap.size _ k _ (by rfl) hown (by rfl) (by omega) hb.size ?_); intro g cap w1 hown1 hg1 hd1)
      go_roundw
      case rel => exact ⟨k + 1, by omega, by go_num, by rw [hst.out]; exact hown1, below_ownF hb hg1 hown (Nat.le_refl _) hb.size⟩
      case measure => simp [intOf]; omega
    · obtain rfl : k = l.length := by omega
      rw [List.take_length] at hown
      obtain ⟨a', c', rfl⟩ := slice_of_own hown
      go_wp2_with fail
      go_ret
      exact ⟨_, _, rfl, hown, hb⟩
end Go.Proofs.YthcomjhpjlcpdaaGreatDoor
namespace Go.Proofs.YthcomjhpjlcpdaaGreatDoor
open Go.RowKit
theorem neq_revt (a b : Int) (c : Bool) (w : World) : (binOp .neq 67 (.agg #[.int .i64 a, .int .i64 b, .bool c]) (.agg #[.int .i64 a, .int .i64 b, .bool c])).run Tryz.prog w = .ok (.bool false) w := by
  have u1 := Tryz.underlying3
  have u2 := Tryz.underlying4
  have hS : Tryz.prog.underlying 67 = some (.struct (Tryz.prog.fieldsOf 67)) := by kernel_rfl
  have hp : Tryz.prog.stoodInHeld 67 = false := by kernel_rfl
  rw [run_neq_struct, show (10000 : Nat) = 9998 + 2 from rfl, run_equalIn_agg w (9998 + 1) 67 _ _ hS hp]
  simp only [Program.fieldsOf, Tryz.underlying67]
  go_simp
theorem eq_levt (a b : Int) (c : Bool) (w : World) : (binOp .eql 56 (.agg #[.int .i64 a, .int .i64 b, .bool c]) (.agg #[.int .i64 a, .int .i64 b, .bool c])).run Tryz.prog w = .ok (.bool true) w := by
  have u1 := Tryz.underlying3
  have u2 := Tryz.underlying4
  have hS : Tryz.prog.underlying 56 = some (.struct (Tryz.prog.fieldsOf 56)) := by kernel_rfl
  have hp : Tryz.prog.stoodInHeld 56 = false := by kernel_rfl
  rw [run_eql_struct, show (10000 : Nat) = 9998 + 2 from rfl, run_equalIn_agg w (9998 + 1) 56 _ _ hS hp]
  simp only [Program.fieldsOf, Tryz.underlying56]
  go_simp
theorem guard_revt (op : BinOp) (x y : Operand) (xs ys : Array Value) (w : World) : (eqGuard op 67 x y (.agg xs) (.agg ys)).run Tryz.prog w = .ok () w :=
  run_eqGuard_agg w op 67 x y xs ys (by kernel_rfl)
theorem guard_levt (op : BinOp) (x y : Operand) (xs ys : Array Value) (w : World) : (eqGuard op 56 x y (.agg xs) (.agg ys)).run Tryz.prog w = .ok () w :=
  run_eqGuard_agg w op 56 x y xs ys (by kernel_rfl)
set_option maxRecDepth 100000 in
set_option maxHeartbeats 2000000 in
theorem same29 (va vb : Value) (b1 b2 : Nat) (l : List Evt) (w : World) (hA : w.ownsRow b1 67 3 va l.length (evs l)) (hB : w.ownsRow b2 67 3 vb l.length (evs l)) (hl : l.length ≤ 1000000) :
    Calls Tryz.prog 19 #[va, vb] w fun e w' => e = .returned (.bool true) ∧ Below w.heap.size w w' := by
  have HX := Lib.hid (fun k hk => own_cells3 hA k hk)
  have HY := Lib.hid (fun k hk => own_cells3 hB k hk)
  obtain ⟨a, c, rfl⟩ := slice_of_own hA
  obtain ⟨b, d, rfl⟩ := slice_of_own hB
  have hgd := guard_revt
  have hlI : ((l.length : Int) != (l.length : Int)) = false := by rw [bne_eq_false_iff_eq]
  clear hA hB
  go_enter Tryz.func19, Tryz.ntmps19
  go_wp2_with fail
  go_loopw [5] (fun j wr => ∃ k : Nat, k ≤ l.length ∧ j = .int .i64 k ∧ Below w.heap.size w wr) (fun j _ => l.length - (intOf j).toNat)
  case atStart => exact ⟨0, by omega, rfl, Below.refl _ _⟩
  case round =>
    obtain ⟨k, hk, rfl, hb⟩ := hrel
    by_cases hlt : k < l.length
    · obtain ⟨g0, c0', hvv, -, hbl, y0, y1, y2⟩ := HX.out k hlt
      injection hvv with e1 e2 e3
      subst e1 e3
      obtain ⟨g1, c1', hvv, -, hbl1, z0, z1, z2⟩ := HY.out k hlt
      injection hvv with e1 e2 e3
      subst e1 e3
      have c0 := (hb.cell (p := ⟨g0, k * 3, none⟩) hbl).trans y0
      have c1 := (hb.cell (p := ⟨g0, k * 3 + 1, none⟩) hbl).trans y1
      have c2 := (hb.cell (p := ⟨g0, k * 3 + 2, none⟩) hbl).trans y2
      have d0 := (hb.cell (p := ⟨g1, k * 3, none⟩) hbl1).trans z0
      have d1 := (hb.cell (p := ⟨g1, k * 3 + 1, none⟩) hbl1).trans z1
      have d2 := (hb.cell (p := ⟨g1, k * 3 + 2, none⟩) hbl1).trans z2
      obtain ⟨X, hX⟩ : ∃ X, l[k] = X := ⟨_, rfl⟩
      rw [hX] at c0 c1 c2 d0 d1 d2
      obtain ⟨x1, x2, x3⟩ := X
      have hne := neq_revt x1 x2 x3
      clear HX HY y0 y1 y2 z0 z1 z2 hX
      go_wp2_with fail
      go_quiet (fail)
      go_wp2_with fail
      go_roundw
      case rel => exact ⟨k + 1, by omega, by go_num, (hb.trans ⟨rfl, rfl, rfl, Nat.le_refl _, fun _ _ => rfl⟩)⟩
      case measure => simp [intOf]; omega
    · obtain rfl : k = l.length := by omega
      go_wp2_with fail
      go_ret
      exact ⟨rfl, hb⟩
end Go.Proofs.YthcomjhpjlcpdaaGreatDoor
namespace Go.Proofs.YthcomjhpjlcpdaaGreatDoor
open Go.RowKit
theorem strArg_low {w w' : World} {v : Value} {ls : List (List UInt8)} (h : StrArg w v ls) (hb : Below w.heap.size w w') : StrArg w' v ls := ⟨h.1.below hb, h.2.1, h.2.2⟩
def gotAt (h p f : ByteArray) (l : List Flt) (ls : List (List UInt8)) (j : Nat) : ByteArray := gotK h p f ((l.drop j).headD noF) (bs (ls.getD j []))
def heardL (h p f : ByteArray) (l : List Flt) (ls : List (List UInt8)) (half n : Nat) : List (List UInt8) := (List.range n).map fun j => (gotAt h p f l ls (half + j)).data.toList
theorem heardL_len (h p f : ByteArray) (l : List Flt) (ls : List (List UInt8)) (half n : Nat) : (heardL h p f l ls half n).length = n := by simp [heardL]
theorem heardL_succ (h p f : ByteArray) (l : List Flt) (ls : List (List UInt8)) (half n : Nat) : heardL h p f l ls half (n + 1) = heardL h p f l ls half n ++ [(gotAt h p f l ls (half + n)).data.toList] := by simp [heardL, List.range_succ]
theorem heardL_get (h p f : ByteArray) (l : List Flt) (ls : List (List UInt8)) (half n j : Nat) (hj : j < (heardL h p f l ls half n).length) : bs (heardL h p f l ls half n)[j] = gotAt h p f l ls (half + j) := by simp [heardL, bs_self]
theorem gotAt_eq (h p f : ByteArray) (l : List Flt) (ls : List (List UInt8)) (k : Nat) (hk : k < ls.length) : gotK h p f ((l.drop k).headD noF) (bs ls[k]) = gotAt h p f l ls k := by
  unfold gotAt
  rw [show ls.getD k [] = ls[k] by simp [hk]]
theorem ask_small (ls : List (List UInt8)) (hs : ls.flatten.length ≤ 3000) (k : Nat) (hk : k < ls.length) : (bs ls[k]).size ≤ 3000 := by
  rw [bs_size]
  have h1 := offF_succ ls k hk
  have h2 := offF_le ls (k + 1)
  omega
theorem own_cellsS {w : World} {b0 n : Nat} {e : TypeId} {v : Value} {xs : List (List UInt8)} (h : w.ownsRow b0 e 1 v n (strs xs)) (k : Nat) (hk : k < xs.length) : ∃ g c, v = .slice (some ⟨g, 0, none⟩) n c ∧ b0 ≤ g ∧ g < w.heap.size ∧ w.cell? ⟨g, k, none⟩ = some (.string (bs xs[k])) := by
  rcases id h.2 with ⟨-, h0⟩ | ⟨g, cap, cur, rfl, -⟩
  · have := h.1; rw [strs_length] at this; omega
  · have e0 : ∀ i, (⟨g, 0, none⟩ : Addr).add i = ⟨g, i, none⟩ := fun i => by unfold Addr.add; split <;> simp_all
    refine ⟨g, cap, rfl, (h.lt g rfl).1, (h.lt g rfl).2, ?_⟩
    have := h.cells (g := g) rfl k _ (strs_get xs k hk)
    rwa [e0] at this
/-- a row of another type stands beside a link's request -/
theorem row_beside {w0 w w' : World} {P : Nat} {h p f : ByteArray} {rest : List Flt} {log : List Evt} {n : Nat} {rv lv : Value} (k : KL w0 w P h p f rest log n rv lv) {b sz m : Nat} {e : TypeId} {v : Value} {xs : List Value} (ho : w.ownsRow b e sz v m xs) (h1 : e ≠ 63) (h2 : e ≠ 56) (ht : Touch (LS P lv) w w') : w'.ownsRow b e sz v m xs :=
  own_kept ho ht (fun g hg hS => hS.elim (fun e1 => own_not_row ho k.a.blk h1 (by rw [hg, e1])) (fun e2 => (own_apart ho k.a.own h2).elim (fun e3 => by rw [hg] at e3; cases e3) (fun e3 => e3 (by rw [hg, e2]))))
theorem grown_touch {w w' : World} {v : Value} (hg : w.grownBy w' v.ownBlock) : Touch (fun g => v.ownBlock = some g) w w' := Touch.of_grown hg (fun g h => .inl h)
/-- an owned row of another type grows beside a link -/
theorem KL.row {w0 w w' : World} {P : Nat} {h p f : ByteArray} {rest : List Flt} {log : List Evt} {n : Nat} {rv lv : Value} (k : KL w0 w P h p f rest log n rv lv) {b sz m : Nat} {e : TypeId} {v : Value} {xs : List Value} (ho : w.ownsRow b e sz v m xs) (h1 : e ≠ 63) (h2 : e ≠ 56) (h3 : e ≠ 53) (hlo : w0.heap.size ≤ b) (hg : w.grownBy w' v.ownBlock) : KL w0 w' P h p f rest log n rv lv := by
  have ht := grown_touch hg
  refine ⟨k.a.touch ht ?_ ?_ ?_, k.lo, k.bel.trans (ht.below (fun g hg => Nat.le_trans hlo (ho.lt g hg).1) k.bel.size)⟩
  · exact fun e1 => own_not_row ho k.a.blk h1 e1
  · intro b hb e1
    obtain ⟨C, hC⟩ := k.a.tag b hb
    exact own_not_row ho hC h3 e1
  · intro g hg e1
    exact (own_apart ho k.a.own h2).elim (fun e3 => by rw [e1] at e3; cases e3) (fun e3 => e3 (by rw [e1, hg]))
theorem K2.row {w0 w w' : World} {P Q : Nat} {h p f : ByteArray} {r1 r2 : List Flt} {g1 g2 : List Evt} {n1 n2 : Nat} {rv1 rv2 lv1 lv2 : Value} (k : K2 w0 w P Q h p f r1 r2 g1 g2 n1 n2 rv1 rv2 lv1 lv2) {b sz m : Nat} {e : TypeId} {v : Value} {xs : List Value} (ho : w.ownsRow b e sz v m xs) (h1 : e ≠ 63) (h2 : e ≠ 56) (h3 : e ≠ 53) (hlo : w0.heap.size ≤ b) (hg : w.grownBy w' v.ownBlock) : K2 w0 w' P Q h p f r1 r2 g1 g2 n1 n2 rv1 rv2 lv1 lv2 :=
  ⟨k.a.row ho h1 h2 h3 hlo hg, k.b.row ho h1 h2 h3 hlo hg, k.ne, k.ap⟩
theorem row_row {w w' : World} {b sz m b' sz' m' : Nat} {e e' : TypeId} {v v' : Value} {xs xs' : List Value} (ho : w.ownsRow b e sz v m xs) (ho' : w.ownsRow b' e' sz' v' m' xs') (hne : e ≠ e') (hg : w.grownBy w' v'.ownBlock) : w'.ownsRow b e sz v m xs :=
  own_kept ho (grown_touch hg) (fun g hg e1 => (own_apart ho ho' hne).elim (fun e3 => by rw [hg] at e3; cases e3) (fun e3 => e3 (by rw [hg, e1])))
theorem row_step {w w' : World} {b sz m : Nat} {e : TypeId} {v : Value} {xs : List Value} (ho : w.ownsRow b e sz v m xs) (hb : Below w.heap.size w w') : w'.ownsRow b e sz v m xs := own_of_block ho (fun g hg => hb.block g (ho.lt g hg).2)
end Go.Proofs.YthcomjhpjlcpdaaGreatDoor
namespace Go.Proofs.YthcomjhpjlcpdaaGreatDoor
open Go.RowKit
def s46 : List UInt8 := [71, 69, 84, 32, 47, 102, 32, 72, 84, 84, 80, 47, 49, 46, 49, 13, 10, 72, 111, 115, 116, 58, 32, 104, 13, 10, 82, 97, 110, 103, 101, 58, 32, 98, 121, 116, 101, 115, 61, 49, 45, 49, 13, 10, 13, 10]
def x46 : List UInt8 := [120, 32, 121, 13, 10, 13, 10]
def g46 : List UInt8 := [71, 69, 84, 32, 47]
set_option maxRecDepth 100000 in
theorem aw46_a : askE (bs s46) = 0 ∧ askN (bs s46) = 46 := by decide +kernel
set_option maxRecDepth 100000 in
theorem aw46_b : askE (bs g46) = 3 := by decide +kernel
set_option maxRecDepth 100000 in
theorem aw46_c : askE (bs (g46 ++ x46)) ≠ 0 ∧ askE (bs (g46 ++ x46)) ≠ 3 := by decide +kernel
theorem aw46_e : orgE [104] [47, 102] = 0 := by decide
def A46 : List UInt8 := orgS [104] [47, 102] [97, 98, 99] (bs s46)
def B46 : List UInt8 := orgS [104] [47, 102] [97, 98, 99] (bs (g46 ++ x46))
theorem aw46_len : s46.length = 46 := by decide
theorem aw46_t (T : List UInt8) : srvOf [104] [47, 102] [97, 98, 99] (s46 ++ T) = (A46 ++ (srvOf [104] [47, 102] [97, 98, 99] T).1, (srvOf [104] [47, 102] [97, 98, 99] T).2.1, (srvOf [104] [47, 102] [97, 98, 99] T).2.2.1 + 1, (srvOf [104] [47, 102] [97, 98, 99] T).2.2.2) := by
  obtain ⟨k1, k2⟩ := ask_behind s46 T (by rw [aw46_a.1]; decide)
  rw [srv_more _ _ _ _ (k1.trans aw46_a.1), k2, aw46_a.2, show ((46 : Int)).toNat = s46.length from by rw [aw46_len]; rfl, List.drop_left, List.take_left]
  rfl
theorem aw46_1 : srvOf [104] [47, 102] [97, 98, 99] (s46 ++ s46 ++ g46) = (A46 ++ A46, g46, 2, false) := by
  rw [List.append_assoc, aw46_t, aw46_t, srv_short _ _ _ g46 aw46_b]
  simp
theorem aw46_2 : srvOf [104] [47, 102] [97, 98, 99] (g46 ++ x46) = (B46, [], 1, true) := srv_bad _ _ _ _ aw46_c.1 aw46_c.2
theorem st400 : (printOf 400).data.toList = [72, 84, 84, 80, 47, 49, 46, 49, 32, 52, 48, 48, 32, 66, 97, 100, 32, 82, 101, 113, 117, 101, 115, 116] := by
  rw [printOf_line 400 (by decide) (by decide)]
  exact (statusLine_data 400 (by decide) (by decide)).trans (by decide +kernel)
theorem aw46_p : Lib.hasPrefix (bs B46).data.toList [72, 84, 84, 80, 47, 49, 46, 49, 32, 52, 48, 48, 32] = true := by
  have hc : orgC [104] [47, 102] [97, 98, 99] (bs (g46 ++ x46)) = 400 := by unfold orgC; rw [if_pos (.inl aw46_c.1)]
  obtain ⟨h1, h2⟩ := orgF_other [104] [47, 102] [97, 98, 99] (bs (g46 ++ x46)) (by rw [hc]; decide)
  rw [bs_data]
  unfold B46
  rw [orgS_eq _ _ _ _ (by decide) aw46_e, hc, h1, h2]
  unfold repL repLines
  rw [st400, show (([] : List UInt8).length : Int) = ((0 : Nat) : Int) from rfl, digL_one 0 (by decide)]
  decide +kernel
theorem A46_len : A46.length ≤ 5000 := by
  have := orgS_len [104] [47, 102] [97, 98, 99] (bs s46) (by decide)
  unfold A46
  have h3 : ([97, 98, 99] : List UInt8).length = 3 := rfl
  omega
theorem env_touch {w w1 : World} {b : Nat} (hE : EnvF w) (hb : Below w.heap.size w w1) (hlt : w.heap.size ≤ b) : ∀ W, Touch (fun g => g = b) w1 W → EnvF W := fun W ht =>
  hE.below (hb.trans (ht.below (fun g hg => by rw [show g = b from hg]; exact hlt) hb.size))
theorem below_touch {w w1 w2 : World} {b : Nat} (hb : Below w.heap.size w w1) (ht : Touch (fun g => g = b) w1 w2) (hlt : w.heap.size ≤ b) : Below w.heap.size w w2 :=
  hb.trans (ht.below (fun g hg => by rw [show g = b from hg]; exact hlt) hb.size)
theorem aw46_ans (X : ByteArray) (hX : X = bs s46) (w : World) (hE : EnvF w) : Calls Tryz.prog 23 #[.agg #[.string ⟨#[104]⟩, .string ⟨#[47, 102]⟩, .string ⟨#[97, 98, 99]⟩], .string X] w fun e w' => e = .returned (.string (bs A46)) ∧ Below w.heap.size w w' := by
  subst hX
  exact origin_answer ⟨#[104]⟩ ⟨#[47, 102]⟩ ⟨#[97, 98, 99]⟩ (bs s46) w hE (by decide) (by decide)
end Go.Proofs.YthcomjhpjlcpdaaGreatDoor
namespace Go.Proofs.YthcomjhpjlcpdaaGreatDoor
open Go.RowKit
set_option maxRecDepth 100000 in
theorem aw29_a : askE (bs [120]) ≠ 0 := by decide +kernel
theorem aw29_e : orgE [104] [47] = 0 := by decide
theorem aw29_w : 0 < (wholeK ⟨#[104]⟩ ⟨#[47]⟩ ⟨#[]⟩ ⟨#[120]⟩).size := by
  have hc : orgC [104] [47] [] (bs [120]) = 400 := by unfold orgC; rw [if_pos (.inl aw29_a)]
  unfold wholeK
  rw [bs_size, show (ByteArray.mk #[104]).data.toList = [104] from rfl, show (ByteArray.mk #[47]).data.toList = [47] from rfl, show (ByteArray.mk #[]).data.toList = [] from rfl, show (ByteArray.mk #[120]) = bs [120] from rfl, orgS_eq _ _ _ _ (by decide) aw29_e, hc]
  unfold repL repLines
  rw [st400]
  simp
  omega
theorem aw29_1 : gotK ⟨#[104]⟩ ⟨#[47]⟩ ⟨#[]⟩ (1, 0, ⟨#[]⟩) ⟨#[120]⟩ = ⟨#[]⟩ := by
  unfold gotK applyF
  simp
  rfl
theorem aw29_2 : hurtK ⟨#[104]⟩ ⟨#[47]⟩ ⟨#[]⟩ (1, 0, ⟨#[]⟩) ⟨#[120]⟩ = true := by
  have h := aw29_w
  rw [hurt_eq, aw29_1]
  generalize wholeK ⟨#[104]⟩ ⟨#[47]⟩ ⟨#[]⟩ ⟨#[120]⟩ = S at h ⊢
  rw [Bool.not_eq_true', beq_eq_false_iff_ne]
  intro e
  rw [ByteArray.toList_eq, ByteArray.toList_eq] at e
  have : S.data.toList.length = 0 := by rw [← e]; rfl
  rw [size_len] at this
  omega
theorem size_ne {S : ByteArray} (h : 0 < S.size) : (S.toList == []) = false ∧ ¬ (S.toList = []) := by
  have : ¬ (S.toList = []) := fun e => by
    rw [ByteArray.toList_eq] at e
    have h2 := size_len S
    rw [e] at h2
    simp at h2
    omega
  exact ⟨beq_eq_false_iff_ne.2 this, this⟩
end Go.Proofs.YthcomjhpjlcpdaaGreatDoor
namespace Go.Proofs.YthcomjhpjlcpdaaGreatDoor
open Go.RowKit
def x29 : Flt := (1, 0, ⟨#[]⟩)
theorem x29_ok : FltOk x29 := ⟨by decide, by decide, by decide, by decide⟩
theorem holds_one {w : World} {B : Nat} {x : Flt} (h : w.heap[B]? = some (.cells #[.int .u8 x.1, .int .i64 x.2.1, .string x.2.2] 53 (0, 0))) : HoldsC w (.slice (some ⟨B, 0, none⟩) 1 1) [x] := by
  obtain ⟨x0, x1, x2, -, -, -⟩ := three_facts h
  refine ⟨_, 1, rfl, Nat.le_refl _, fun _ => ⟨B, 0, rfl, (Array.getElem?_eq_some_iff.1 h).1, fun j hj => ?_⟩⟩
  obtain rfl : j = 0 := by simp at hj; omega
  exact ⟨x0, x1, x2⟩
theorem aw29_ask1 {w0 w : World} {P : Nat} {rv : Value} (X : ByteArray) (hX : X = ⟨#[120]⟩) (hE : EnvF w0) (k : KL w0 w P ⟨#[104]⟩ ⟨#[47]⟩ ⟨#[]⟩ [x29] [] 0 rv (.slice none 0 0)) :
    Calls Tryz.prog 16 #[.pointer (some ⟨P, 0, none⟩), .string X] w fun e w' => e = .returned (.string ⟨#[]⟩) ∧ ∃ rv' lv', KL w0 w' P ⟨#[104]⟩ ⟨#[47]⟩ ⟨#[]⟩ [] [((1 : Int), (0 : Int), true)] 1 rv' lv' := by
  subst hX
  refine (k.ask hE ⟨#[120]⟩ (by decide) (by decide) x29_ok (by decide) (by decide) (by decide)).mono ?_
  rintro e w' ⟨rfl, rv', lv', k', -, -⟩
  rw [show ([x29] : List Flt).headD noF = (1, 0, ⟨#[]⟩) from rfl] at k' ⊢
  unfold evK at k'
  rw [aw29_1, aw29_2] at k'
  rw [aw29_1]
  exact ⟨rfl, rv', lv', k'⟩
theorem aw29_ask2 {w0 w : World} {P : Nat} {rv lv : Value} (X S : ByteArray) (hX : X = ⟨#[120]⟩) (hS : wholeK ⟨#[104]⟩ ⟨#[47]⟩ ⟨#[]⟩ ⟨#[120]⟩ = S) (hE : EnvF w0) (k : KL w0 w P ⟨#[104]⟩ ⟨#[47]⟩ ⟨#[]⟩ [] [((1 : Int), (0 : Int), true)] 1 rv lv) :
    Calls Tryz.prog 16 #[.pointer (some ⟨P, 0, none⟩), .string X] w fun e w' => e = .returned (.string S) ∧ ∃ rv' lv', KL w0 w' P ⟨#[104]⟩ ⟨#[47]⟩ ⟨#[]⟩ [] [((1 : Int), (0 : Int), true), ((1 : Int), (S.size : Int), false)] 1 rv' lv' := by
  subst hX
  refine (k.ask hE ⟨#[120]⟩ (by decide) (by decide) noF_ok (by decide) (by decide) (by decide)).mono ?_
  rintro e w' ⟨rfl, rv', lv', k', -, -⟩
  rw [show ([] : List Flt).headD noF = noF from rfl] at k' ⊢
  unfold evK at k'
  rw [got_none, hurt_none, hS] at k'
  rw [got_none, hS]
  exact ⟨rfl, rv', lv', k'⟩
set_option maxRecDepth 100000 in
set_option maxHeartbeats 4000000 in
theorem awake29 (w : World) (hE : EnvF w) : Calls Tryz.prog 11 #[] w fun e w' => e = .returned (.bool true) ∧ Below w.heap.size w w' := by
  have HE := Lib.hid hE
  have hB0 : Below w.heap.size w (w.alloc (.cells #[.int .u8 1, .int .i64 0, .string ⟨#[]⟩] 53)) := (Below.refl _ _).alloc (Nat.le_refl _) _
  have HB0 := Lib.hid hB0
  have HN := Lib.hid (link_new ⟨#[104]⟩ ⟨#[47]⟩ ⟨#[]⟩ (.slice (some ⟨w.heap.size, 0, none⟩) 1 1) [x29] (w.alloc (.cells #[.int .u8 1, .int .i64 0, .string ⟨#[]⟩] 53)) (show orgE [104] [47] = 0 from aw29_e) (holds_one (x := x29) (heap_alloc_new w _)) (by decide))
  have HZ := Lib.hid (fun w => link_new_bad ⟨#[]⟩ ⟨#[]⟩ ⟨#[]⟩ (.slice none 0 0) w (show orgE [] [] ≠ 0 by decide))
  have hW := aw29_w
  obtain ⟨S, hS⟩ : ∃ S, wholeK ⟨#[104]⟩ ⟨#[47]⟩ ⟨#[]⟩ ⟨#[120]⟩ = S := ⟨_, rfl⟩
  rw [hS] at hW
  have HSS := Lib.hid hS
  obtain ⟨q1, q2⟩ := size_ne hW
  have e1 := eq_levt 1 0 true
  have e2 := eq_levt 1 (S.size : Int) false
  have hgd := guard_levt
  clear hE hB0 hW hS
  go_enter Tryz.func11, Tryz.ntmps11
  go_wp2_with fail
  refine HN.out.mono ?_
  rintro e w1 hnew
  obtain ⟨P, rv, rfl, hP, hk1, hb1⟩ := KL.new HB0.out hnew
  have HK1 := Lib.hid hk1
  clear hnew hP hk1 hb1 HN
  go_wp2_with fail
  refine (aw29_ask1 _ (by rfl) HE.out HK1.out).mono ?_
  rintro e w2 ⟨rfl, rv2, lv2, hk2⟩
  have HK2 := Lib.hid hk2
  clear hk2 HK1
  go_wp2_with fail
  refine (aw29_ask2 _ S (by rfl) HSS.out HE.out HK2.out).mono ?_
  rintro e w3 ⟨rfl, rv3, lv3, hk3⟩
  have HK3 := Lib.hid hk3
  clear hk3 HK2
  go_wp2_with fail
  refine (link_log HK3.out.a (by simp)).mono ?_
  rintro e w4 ⟨a4, c4, rfl, ho4, hb4⟩
  have HK4 := Lib.hid (HK3.out.step hb4)
  have HO4 := Lib.hid ho4
  clear ho4 hb4 HK3
  go_wp2_with fail
  refine (HZ.out _).mono ?_
  rintro e w5 ⟨rfl, hb5⟩
  have HK5 := Lib.hid (HK4.out.step hb5)
  have ho5 := own_of_block HO4.out (fun g hg => hb5.block g (HO4.out.lt g hg).2)
  obtain ⟨g, c, hv, -, -, z0, z1, z2⟩ := own_cells3 ho5 0 (by simp)
  injection hv with e1' e2' e3'
  subst e1' e3'
  obtain ⟨g', c', hv, -, -, z3, z4, z5⟩ := own_cells3 ho5 1 (by simp)
  injection hv with e1' e2' e3'
  injection e1' with e1'
  injection e1' with e1'
  subst e1'
  clear hb5 HO4 HK4 ho5 HZ e2' e3'
  go_wp2_with fail
  refine (link_left HK5.out.a).mono ?_
  rintro e w' ⟨rfl, hww⟩
  obtain rfl := hww.symm
  clear hww
  go_wp2_with fail
  refine (link_harms HK5.out.a).mono ?_
  rintro e w' ⟨rfl, hww⟩
  obtain rfl := hww.symm
  clear hww
  go_wp2_with fail
  go_ret
  exact ⟨rfl, HK5.out.bel⟩
end Go.Proofs.YthcomjhpjlcpdaaGreatDoor
namespace Go.Proofs.YthcomjhpjlcpdaaGreatDoor
open Go.RowKit

def FieldArg (W : World) (v : Value) (fs : List (List UInt8 × List UInt8)) : Prop := HoldsF W v fs ∧ (∀ f ∈ fs, f.1.length ≤ maxLen ∧ f.2.length ≤ maxLen) ∧ fs.length ≤ maxLen
theorem len_two {α : Type} {l : List α} (h : l.length = 2) : ∃ a b, l = [a, b] := by
  cases l with
  | nil => simp at h
  | cons a t => cases t with
    | nil => simp at h
    | cons b u => cases u with
      | nil => exact ⟨a, b, rfl⟩
      | cons c v => simp at h
theorem string_cell {H : Type} {enc : TypeId × Value → H} {W : World} {n : Nat} {cs : List Value} {x : DataW H × List MemPlace} (h : DataW.trod enc Tryz.prog W 0 (fun _ => true) true n 9 cs = some x) : ∃ l : List UInt8, cs = [.string (bs l)] ∧ l.length ≤ maxLen := by
  obtain ⟨s, hs, _, hm⟩ := DataW.trod_string Tryz.underlying9 h
  exact ⟨s.data.toList, by rw [hs, bs_self], by rw [size_len]; exact hm⟩
set_option maxRecDepth 10000 in
theorem fieldArg_of {H : Type} {enc : TypeId × Value → H} {W : World} {b : Option Addr} {n c : Nat} {d : DataW H} {p : List MemPlace}
    (h : DataW.Trod enc Tryz.prog W 0 (fun _ => true) true 93 (.slice b n c) d p) : ∃ fs, FieldArg W (.slice b n c) fs := by
  obtain ⟨fuel, hf⟩ := h
  rcases Go.Deep.open_slice Tryz.underlying93 hf with ⟨hcs, _⟩ | ⟨a, len, cap, m, q, D, Pl, hcs, _, hl, hm, hmm, _, hi⟩
  · simp [Value.cells] at hcs
    obtain ⟨rfl, rfl, rfl⟩ := hcs
    exact ⟨[], HoldsF.nil W none 0, fun f hf => by simp at hf, by unfold maxLen; simp⟩
  · simp [Value.cells] at hcs
    obtain ⟨rfl, rfl, rfl⟩ := hcs
    have hC : Tryz.prog.cellsOf 102 = 2 := by kernel_rfl
    have hS : Tryz.prog.cellsOf 9 = 1 := by kernel_rfl
    have key : ∀ i, ∃ f : List UInt8 × List UInt8, i < n → W.cell? (a.add (i * 2)) = some (.string (bs f.1)) ∧ W.cell? (a.add (i * 2 + 1)) = some (.string (bs f.2)) ∧ f.1.length ≤ maxLen ∧ f.2.length ≤ maxLen := by
      intro i
      by_cases hin : i < n
      · obtain ⟨cs', hc', ht⟩ := hi i (by rw [hmm]; simp; omega)
        rw [hC] at hc'
        obtain ⟨_, hcl, hcell⟩ := World.cells?_some hc'
        obtain ⟨xs, k, _, _, hcl2, hxl, hg⟩ := DataW.trod_struct Tryz.underlying102 ht
        obtain ⟨u0, u1, rfl⟩ := len_two hcl
        have hxl2 : xs.length = 2 := hxl
        obtain ⟨z0, z1, rfl⟩ := len_two hxl2
        have g0 : DataW.trod enc Tryz.prog W 0 (fun _ => true) true k 9 (([u0, u1].drop 0).take (Tryz.prog.cellsOf 9)) = some z0 := hg 0 _ rfl
        have g1 : DataW.trod enc Tryz.prog W 0 (fun _ => true) true k 9 (([u0, u1].drop 1).take (Tryz.prog.cellsOf 9)) = some z1 := hg 1 _ rfl
        rw [hS] at g0 g1
        obtain ⟨l0, e0, b0⟩ := string_cell g0
        obtain ⟨l1, e1, b1⟩ := string_cell g1
        have c0 := hcell 0 (by omega)
        have c1 := hcell 1 (by omega)
        rw [Go.Deep.add_add] at c0 c1
        simp at e0 e1 c0 c1
        subst e0 e1
        exact ⟨(l0, l1), fun _ => ⟨c0, c1, b0, b1⟩⟩
      · exact ⟨([], []), fun h => absurd h hin⟩
    obtain ⟨g, hg⟩ := Classical.skolem.1 key
    have hlen : ((List.range n).map g).length = n := by simp
    refine ⟨(List.range n).map g, ⟨some a, c, by rw [hlen], by rw [hlen]; exact hl, fun hne => ?_⟩, ?_, by rw [hlen]; omega⟩
    · have hpos : 0 < n := by
        rcases Nat.eq_zero_or_pos n with h0 | h0
        · subst h0; simp at hne
        · exact h0
      have h0 := (hg 0 hpos).1
      obtain ⟨b, o, sp⟩ := a
      have hsp : sp = none := by simpa [Addr.add] using World.cell?_spot h0
      subst hsp
      have ea : ∀ k, (⟨b, o, none⟩ : Addr).add k = ⟨b, o + k, none⟩ := fun k => by unfold Addr.add; split <;> simp_all
      refine ⟨b, o, rfl, by have := World.block_lt_of_cell? _ _ h0; simpa [Addr.add] using this, fun j hj => ?_⟩
      rw [hlen] at hj
      have hj2 := hg j hj
      rw [ea, ea] at hj2
      rw [List.getElem_map, List.getElem_range]
      exact ⟨hj2.1, hj2.2.1⟩
    · intro f hf
      obtain ⟨i, hi', rfl⟩ := List.mem_map.1 hf
      exact (hg i (List.mem_range.1 hi')).2.2
end Go.Proofs.YthcomjhpjlcpdaaGreatDoor
namespace Go.Proofs.YthcomjhpjlcpdaaGreatDoor
open Go.RowKit
def HoldsR (w : World) (v : Value) (rs : List (Int × Int)) : Prop :=
  ∃ a c, v = .slice a rs.length c ∧ rs.length ≤ c ∧ (rs ≠ [] → ∃ b o, a = some ⟨b, o, none⟩ ∧ b < w.heap.size ∧ ∀ j (hj : j < rs.length), w.cell? ⟨b, o + j * 2, none⟩ = some (.int .i64 rs[j].1) ∧ w.cell? ⟨b, o + j * 2 + 1, none⟩ = some (.int .i64 rs[j].2))
theorem HoldsR.nil (w : World) (a : Option Addr) (c : Nat) : HoldsR w (.slice a 0 c) [] := ⟨a, c, rfl, Nat.zero_le _, fun h => absurd rfl h⟩
def RangesArg (W : World) (v : Value) (rs : List (Int × Int)) : Prop := HoldsR W v rs ∧ (∀ r ∈ rs, (Lit.int .i64 r.1).wf = true ∧ (Lit.int .i64 r.2).wf = true) ∧ rs.length ≤ maxLen
theorem int_cell {H : Type} {enc : TypeId × Value → H} {W : World} {n : Nat} {cs : List Value} {x : DataW H × List MemPlace} (h : DataW.trod enc Tryz.prog W 0 (fun _ => true) true n 3 cs = some x) : ∃ k : Int, cs = [.int .i64 k] ∧ (Lit.int .i64 k).wf = true := by
  obtain ⟨k, h1, h2, h3⟩ := DataW.trod_int Tryz.underlying3 h
  exact ⟨k, h1, h3⟩
end Go.Proofs.YthcomjhpjlcpdaaGreatDoor
namespace Go.Proofs.YthcomjhpjlcpdaaGreatDoor
open Go.RowKit
/-- the slice v reads as the faults l, each within the bounds of its type -/
def FaultsArg (W : World) (v : Value) (l : List Flt) : Prop := HoldsC W v l ∧ (∀ x ∈ l, (Lit.int .u8 x.1).wf = true ∧ (Lit.int .i64 x.2.1).wf = true) ∧ l.length ≤ maxLen
theorem u8_cell {H : Type} {enc : TypeId × Value → H} {W : World} {n : Nat} {cs : List Value} {x : DataW H × List MemPlace} (h : DataW.trod enc Tryz.prog W 0 (fun _ => true) true n 5 cs = some x) : ∃ k : Int, cs = [.int .u8 k] ∧ (Lit.int .u8 k).wf = true := by
  obtain ⟨k, h1, h2, h3⟩ := DataW.trod_int Tryz.underlying5 h
  exact ⟨k, h1, h3⟩
theorem str_cell {H : Type} {enc : TypeId × Value → H} {W : World} {n : Nat} {cs : List Value} {x : DataW H × List MemPlace} (h : DataW.trod enc Tryz.prog W 0 (fun _ => true) true n 9 cs = some x) : ∃ s : ByteArray, cs = [.string s] ∧ s.size ≤ maxLen := by
  obtain ⟨k, h1, h2, h3⟩ := DataW.trod_string Tryz.underlying9 h
  exact ⟨k, h1, h3⟩
theorem len_3 {α : Type} {l : List α} (h : l.length = 3) : ∃ a b c, l = [a, b, c] := by
  match l, h with
  | [a, b, c], _ => exact ⟨a, b, c, rfl⟩
set_option maxRecDepth 10000 in
theorem faultsArg_of {H : Type} {enc : TypeId × Value → H} {W : World} {b : Option Addr} {n c : Nat} {d : DataW H} {p : List MemPlace}
    (h : DataW.Trod enc Tryz.prog W 0 (fun _ => true) true 24 (.slice b n c) d p) : ∃ fs, FaultsArg W (.slice b n c) fs := by
  obtain ⟨fuel, hf⟩ := h
  rcases Go.Deep.open_slice Tryz.underlying24 hf with ⟨hcs, _⟩ | ⟨a, len, cap, m, q, D, Pl, hcs, _, hl, hm, hmm, _, hi⟩
  · simp [Value.cells] at hcs
    obtain ⟨rfl, rfl, rfl⟩ := hcs
    exact ⟨[], HoldsC.empty W none 0, fun f hf => by simp at hf, by unfold maxLen; simp⟩
  · simp [Value.cells] at hcs
    obtain ⟨rfl, rfl, rfl⟩ := hcs
    have hC : Tryz.prog.cellsOf 54 = 3 := by kernel_rfl
    have hS0 : Tryz.prog.cellsOf 5 = 1 := by kernel_rfl
    have hS1 : Tryz.prog.cellsOf 3 = 1 := by kernel_rfl
    have hS2 : Tryz.prog.cellsOf 9 = 1 := by kernel_rfl
    have key : ∀ i, ∃ f : Flt, i < n → W.cell? (a.add (i * 3)) = some (.int .u8 f.1) ∧ W.cell? (a.add (i * 3 + 1)) = some (.int .i64 f.2.1) ∧ W.cell? (a.add (i * 3 + 2)) = some (.string f.2.2) ∧ (Lit.int .u8 f.1).wf = true ∧ (Lit.int .i64 f.2.1).wf = true := by
      intro i
      by_cases hin : i < n
      · obtain ⟨cs', hc', ht⟩ := hi i (by rw [hmm]; simp; omega)
        rw [hC] at hc'
        obtain ⟨_, hcl, hcell⟩ := World.cells?_some hc'
        obtain ⟨xs, k, _, _, hcl2, hxl, hg⟩ := DataW.trod_struct Tryz.underlying54 ht
        obtain ⟨u0, u1, u2, rfl⟩ := len_3 hcl
        have hxl2 : xs.length = 3 := hxl
        obtain ⟨z0, z1, z2, rfl⟩ := len_3 hxl2
        have g0 : DataW.trod enc Tryz.prog W 0 (fun _ => true) true k 5 (([u0, u1, u2].drop 0).take (Tryz.prog.cellsOf 5)) = some z0 := hg 0 _ rfl
        have g1 : DataW.trod enc Tryz.prog W 0 (fun _ => true) true k 3 (([u0, u1, u2].drop 1).take (Tryz.prog.cellsOf 3)) = some z1 := hg 1 _ rfl
        have g2 : DataW.trod enc Tryz.prog W 0 (fun _ => true) true k 9 (([u0, u1, u2].drop 2).take (Tryz.prog.cellsOf 9)) = some z2 := hg 2 _ rfl
        rw [hS0] at g0
        rw [hS1] at g1
        rw [hS2] at g2
        obtain ⟨l0, e0, b0⟩ := u8_cell g0
        obtain ⟨l1, e1, b1⟩ := int_cell g1
        obtain ⟨l2, e2, b2⟩ := str_cell g2
        have c0 := hcell 0 (by omega)
        have c1 := hcell 1 (by omega)
        have c2 := hcell 2 (by omega)
        rw [Go.Deep.add_add] at c0 c1 c2
        simp at e0 e1 e2 c0 c1 c2
        subst e0 e1 e2
        exact ⟨(l0, l1, l2), fun _ => ⟨c0, c1, c2, b0, b1⟩⟩
      · exact ⟨(0, 0, ⟨#[]⟩), fun h => absurd h hin⟩
    obtain ⟨g, hg⟩ := Classical.skolem.1 key
    have hlen : ((List.range n).map g).length = n := by simp
    refine ⟨(List.range n).map g, ⟨some a, c, by rw [hlen], by rw [hlen]; exact hl, fun hne => ?_⟩, ?_, by rw [hlen]; omega⟩
    · have hpos : 0 < n := by
        rcases Nat.eq_zero_or_pos n with h0 | h0
        · subst h0; simp at hne
        · exact h0
      have h0 := (hg 0 hpos).1
      obtain ⟨b, o, sp⟩ := a
      have hsp : sp = none := by simpa [Addr.add] using World.cell?_spot h0
      subst hsp
      have ea : ∀ k, (⟨b, o, none⟩ : Addr).add k = ⟨b, o + k, none⟩ := fun k => by unfold Addr.add; split <;> simp_all
      refine ⟨b, o, rfl, by have := World.block_lt_of_cell? _ _ h0; simpa [Addr.add] using this, fun j hj => ?_⟩
      rw [hlen] at hj
      have hj2 := hg j hj
      rw [ea, ea, ea, Nat.mul_comm j 3] at hj2
      rw [List.getElem_map, List.getElem_range]
      exact ⟨hj2.1, hj2.2.1, hj2.2.2.1⟩
    · intro f hf
      obtain ⟨i, hi', rfl⟩ := List.mem_map.1 hf
      exact (hg i (List.mem_range.1 hi')).2.2.2
def overC (l : List Flt) (most : Nat) : Bool := l.any (fun x => decide (300 < x.2.2.size)) || decide (most < l.length)
theorem overC_ok {l : List Flt} {most : Nat} (h : overC l most = false) : l.length ≤ most ∧ ∀ x ∈ l, x.2.2.size ≤ 300 := by
  unfold overC at h
  rw [Bool.or_eq_false_iff, decide_eq_false_iff_not, List.any_eq_false] at h
  exact ⟨by omega, fun x hx => by have := h.1 x hx; simpa using this⟩
set_option maxRecDepth 100000 in
set_option maxHeartbeats 1000000 in
theorem over28s (v : Value) (l : List Flt) (N : Nat) (w : World) (hN : N ≤ 100000) (hv : HoldsC w v l) (hl : l.length ≤ maxLen) :
    Calls Tryz.prog 9 #[v, .int .i64 (N : Nat)] w fun e w' => e = .returned (.bool (overC l N)) ∧ w' = w := by
  obtain ⟨a, c, rfl, hc, hx⟩ := hv
  unfold maxLen at hl
  have HX := Lib.hid hx
  have HT : Hid (∀ k (hk : k < l.length), 300 < l[k].2.2.size → overC l N = true) := Lib.hid (fun k hk h => by unfold overC; rw [List.any_eq_true.2 ⟨l[k], List.getElem_mem hk, decide_eq_true h⟩]; rfl)
  have HE : Hid ((∀ k (hk : k < l.length), ¬ 300 < l[k].2.2.size) → overC l N = decide (N < l.length)) := Lib.hid (fun h => by
    unfold overC
    rw [List.any_eq_false.2 (fun x hx => by obtain ⟨j, hj, rfl⟩ := List.getElem_of_mem hx; have := h j hj; simpa using this), Bool.false_or])
  clear hx
  generalize overC l N = B at HT HE ⊢
  go_enter Tryz.func9, Tryz.ntmps9
  go_wp2_with fail
  go_loop [5] (fun i => ∃ k : Nat, k ≤ l.length ∧ i = .int .i64 k ∧ Hid (∀ j (hj : j < l.length), j < k → ¬ 300 < l[j].2.2.size)) (fun i => l.length - (intOf i).toNat)
  case atStart => exact ⟨0, by omega, rfl, Lib.hid (fun j hj h => absurd h (Nat.not_lt_zero _))⟩
  case round =>
    obtain ⟨k, hk, rfl, HK⟩ := hrel
    by_cases hlt : k < l.length
    · obtain ⟨b, o, rfl, hbl, hcell⟩ := HX.out (fun e => by rw [e] at hlt; exact absurd hlt (Nat.not_lt_zero _))
      obtain ⟨-, -, c2⟩ := hcell k hlt
      rw [Nat.mul_comm 3 k] at c2
      have hT := Lib.hid (HT.out k hlt)
      have HK1 : ¬ 300 < l[k].2.2.size → Hid (∀ j (hj : j < l.length), j < k + 1 → ¬ 300 < l[j].2.2.size) := fun h => Lib.hid (fun j hj hjk => by
        by_cases e : j = k
        · subst e; exact h
        · exact HK.out j hj (by omega))
      clear hcell HX HT HK
      generalize l[k].2.2 = X at c2 hT HK1
      by_cases hbig : 300 < X.size
      · have t1 : decide ((X.size : Int) > 300) = true := decide_eq_true (by omega)
        have HB := Lib.hid (hT.out hbig)
        clear hT HK1
        go_wp2_with fail
        go_ret
        exact ⟨by rw [HB.out]; rfl, rfl⟩
      · have t1 : decide ((X.size : Int) > 300) = false := decide_eq_false (by omega)
        have HK2 := HK1 hbig
        clear hT HK1
        go_wp2_with fail
        go_round
        case rel => exact ⟨k + 1, by omega, by go_num, HK2⟩
        case measure => simp [intOf]; omega
    · obtain rfl : k = l.length := by omega
      have HB := Lib.hid (HE.out (fun j hj => HK.out j hj hj))
      clear HE HT HX HK
      go_wp2_with fail
      go_ret
      exact ⟨by rw [HB.out]; rfl, rfl⟩
end Go.Proofs.YthcomjhpjlcpdaaGreatDoor
namespace Go.Proofs.YthcomjhpjlcpdaaGreatDoor
open Go.RowKit
theorem load_rlink (w : World) (b : Nat) (t : TypeId) (x0 x1 x2 x3 x4 x5 : Value) (h : w.heap[b]? = some (.cells #[x0, x1, x2, x3, x4, x5] t (0, 0))) : (loadVar 40 ⟨b, 0, none⟩).run Tryz.prog w = .ok (.agg #[x0, x1, x2, x3, x4, x5]) w :=
  run_loadVar_row w b t 40 #[x0, x1, x2, x3, x4, x5] (0, 0) _ h Tryz.underlying40 rfl (by kernel_rfl)
def RAsk (w0 : World) (h p f : ByteArray) (rest : List Flt) (log : List Evt) (n : Nat) (s : ByteArray) (w : World) (e : Ending) (w' : World) : Prop :=
  ∃ rv' lv', e = .returned (.tuple #[.agg #[.string h, .string p, .string f, rv', lv', .int .i64 ((n + oneK (hurtK h p f (rest.headD noF) s) : Nat) : Int)], .string (gotK h p f (rest.headD noF) s)]) ∧ HoldsC w0 rv' rest.tail ∧ w'.ownsRow w.heap.size 67 3 lv' (log ++ [evK h p f (rest.headD noF) s]).length (evs (log ++ [evK h p f (rest.headD noF) s])) ∧ Below w.heap.size w w'
/-- the blocks of the reference's Ask -/
def rlW (w : World) (h p f : ByteArray) (V lv : Value) (n : Nat) (x : Flt) : World :=
  ((w.alloc (.cells #[.string h, .string p, .string f, V, lv, .int .i64 (n : Int)] 40)).alloc (.cells #[.string ⟨#[]⟩, .string ⟨#[]⟩, .string ⟨#[]⟩, .slice none 0 0, .slice none 0 0, .int .i64 0] 40)).alloc (.cells #[.int .u8 x.1, .int .i64 x.2.1, .string x.2.2] 54)
structure RLS (w W : World) (h p f : ByteArray) (V lv : Value) (n : Nat) (x : Flt) (rest : List Flt) (log : List Evt) (b0 : Nat) : Prop where
  a : W.heap[w.heap.size]? = some (.cells #[.string h, .string p, .string f, V, lv, .int .i64 (n : Int)] 40 (0, 0))
  z : W.heap[w.heap.size + 1]? = some (.cells #[.string ⟨#[]⟩, .string ⟨#[]⟩, .string ⟨#[]⟩, .slice none 0 0, .slice none 0 0, .int .i64 0] 40 (0, 0))
  x : W.heap[w.heap.size + 1 + 1]? = some (.cells #[.int .u8 x.1, .int .i64 x.2.1, .string x.2.2] 54 (0, 0))
  b : Below w.heap.size w W
  s : w.heap.size + 3 ≤ W.heap.size
  r : HoldsC W V rest
  o : W.ownsRow b0 67 3 lv log.length (evs log)
theorem RLS.start {w : World} {h p f : ByteArray} {V lv : Value} {n : Nat} {x : Flt} {rest : List Flt} {log : List Evt} {b0 : Nat} (hr : HoldsC w V rest) (ho : w.ownsRow b0 67 3 lv log.length (evs log)) : RLS w (rlW w h p f V lv n x) h p f V lv n x rest log b0 := by
  obtain ⟨h1, h2, h3, h4⟩ := alloc3_facts w (.cells #[.string h, .string p, .string f, V, lv, .int .i64 (n : Int)] 40) (.cells #[.string ⟨#[]⟩, .string ⟨#[]⟩, .string ⟨#[]⟩, .slice none 0 0, .slice none 0 0, .int .i64 0] 40) (.cells #[.int .u8 x.1, .int .i64 x.2.1, .string x.2.2] 54)
  exact ⟨h1, h2, h3, h4, by unfold rlW; simp, hr.below h4, own_of_block ho (fun g hg => h4.block g (ho.lt g hg).2)⟩
theorem RLS.below {w W W' : World} {h p f : ByteArray} {V lv : Value} {n : Nat} {x : Flt} {rest : List Flt} {log : List Evt} {b0 : Nat} (k : RLS w W h p f V lv n x rest log b0) (hb : Below W.heap.size W W') : RLS w W' h p f V lv n x rest log b0 := by
  have hs := k.s
  exact ⟨(hb.block _ (by omega)).trans k.a, (hb.block _ (by omega)).trans k.z, (hb.block _ (by omega)).trans k.x, bstep k.b hb, Nat.le_trans hs hb.size, k.r.below hb, own_of_block k.o (fun g hg => hb.block g (k.o.lt g hg).2)⟩
theorem rl_fin {w W : World} {V L : Value} {tl : List Flt} {m : Nat} {ys : List Evt} {x0 x1 x2 x3 x4 x5 : Value} (hZ : W.heap[w.heap.size + 1]? = some (.cells #[x0, x1, x2, x3, x4, x5] 40 (0, 0))) (hb : Below w.heap.size w W) (hr : HoldsC w V tl) (ho : W.ownsRow w.heap.size 67 3 L m (evs ys)) (y0 y1 y2 y3 y4 y5 : Value) :
    HoldsC ((((((W.setCell ⟨w.heap.size + 1, 0, none⟩ y0).setCell ⟨w.heap.size + 1, 1, none⟩ y1).setCell ⟨w.heap.size + 1, 2, none⟩ y2).setCell ⟨w.heap.size + 1, 3, none⟩ y3).setCell ⟨w.heap.size + 1, 4, none⟩ y4).setCell ⟨w.heap.size + 1, 5, none⟩ y5) V tl ∧
    ((((((W.setCell ⟨w.heap.size + 1, 0, none⟩ y0).setCell ⟨w.heap.size + 1, 1, none⟩ y1).setCell ⟨w.heap.size + 1, 2, none⟩ y2).setCell ⟨w.heap.size + 1, 3, none⟩ y3).setCell ⟨w.heap.size + 1, 4, none⟩ y4).setCell ⟨w.heap.size + 1, 5, none⟩ y5).ownsRow w.heap.size 67 3 L m (evs ys) ∧
    Below w.heap.size w ((((((W.setCell ⟨w.heap.size + 1, 0, none⟩ y0).setCell ⟨w.heap.size + 1, 1, none⟩ y1).setCell ⟨w.heap.size + 1, 2, none⟩ y2).setCell ⟨w.heap.size + 1, 3, none⟩ y3).setCell ⟨w.heap.size + 1, 4, none⟩ y4).setCell ⟨w.heap.size + 1, 5, none⟩ y5) := by
  have hB := six_below hb (w.heap.size + 1) (by omega) y0 y1 y2 y3 y4 y5
  refine ⟨hr.below hB, own_of_block ho (fun g hg => ?_), hB⟩
  have hne : g ≠ w.heap.size + 1 := fun e => own_not_row ho hZ (by decide) (by rw [hg]; exact congrArg some e)
  rw [set_far6 hne, set_far6 hne, set_far6 hne, set_far6 hne, set_far6 hne, set_far6 hne]
theorem own_far {w : World} {b0 n : Nat} {L : Value} {xs : List Value} {X : Nat} {ca : Array Value} (ho : w.ownsRow b0 67 3 L n xs) (hX : w.heap[X]? = some (.cells ca 40 (0, 0))) (o : Nat) (y : Value) : (w.setCell ⟨X, o, none⟩ y).ownsRow b0 67 3 L n xs :=
  own_of_block ho (fun g hg => set_far6 (fun e => own_not_row ho hX (by decide) (by rw [hg]; exact congrArg some e)))
set_option maxRecDepth 100000 in
set_option maxHeartbeats 4000000 in
theorem ref_lask (h p f : ByteArray) (rest : List Flt) (log : List Evt) (n : Nat) (s : ByteArray) (rv lv : Value) (b0 : Nat) (w0 w : World) (hr0 : HoldsC w0 rv rest) (hb0 : Below w0.heap.size w0 w) (ho : w.ownsRow b0 67 3 lv log.length (evs log)) (hx : FltOk (rest.headD noF)) (hs : s.size ≤ 1000000) (hh' : h.size ≤ 1000000) (hp : p.size ≤ 1000000) (hf : f.size ≤ 100000) (hn : n ≤ 1000000) (hll : log.length ≤ 1000000) :
    Calls Tryz.prog 15 #[.agg #[.string h, .string p, .string f, rv, lv, .int .i64 (n : Int)], .string s] w (RAsk w0 h p f rest log n s w) := by
  have hr := hr0.below hb0
  obtain ⟨ar, cr, hrv, -⟩ := hr.len
  obtain ⟨al, cl, hlv⟩ := slice_of_own ho
  subst hrv hlv
  unfold RAsk
  obtain ⟨X, hX⟩ : ∃ X, rest.headD noF = X := ⟨_, rfl⟩
  obtain ⟨tl, htl⟩ : ∃ tl, rest.tail = tl := ⟨_, rfl⟩
  have hws := whole_size h p f s (by omega)
  have hht := hurt_eq h p f X s
  rw [hX] at hx ⊢
  have HA : Hid (∀ W, Calls Tryz.prog 29 #[.agg #[.string h, .string p, .string f], .string s] W fun e w' => e = .returned (.string (wholeK h p f s)) ∧ Below W.heap.size W w') := Lib.hid (fun W => ref_oAnswer h p f s W (by omega) (by omega) hs (by omega))
  have HAP : Hid (∀ W, Calls Tryz.prog 30 #[.agg #[.int .u8 X.1, .int .i64 X.2.1, .string X.2.2], .string (wholeK h p f s)] W fun e w' => e = .returned (.string (gotK h p f X s)) ∧ Below W.heap.size W w') := Lib.hid (fun W => ref_apply X.1 X.2.1 X.2.2 (wholeK h p f s) W hx.n0 hx.n1 hx.t (by omega))
  have HEV : Hid (evK h p f X s = ((s.size : Int), ((gotK h p f X s).size : Int), hurtK h p f X s)) := Lib.hid rfl
  generalize evK h p f X s = EV at HEV ⊢
  generalize wholeK h p f s = Wh at hws hht HA HAP
  generalize gotK h p f X s = G at hht HAP HEV ⊢
  generalize hurtK h p f X s = hb at hht HEV ⊢
  have HBs := Lib.hid (And.intro hll hn)
  have tw : IntKind.i64.wrap ((n : Int) + 1) = (n : Int) + 1 := by rw [IntKind.wrap_i64]; omega
  have HEVT : Hid (evs (log ++ [EV]) = evs log ++ [.int .i64 (s.size : Int), .int .i64 (G.size : Int), .bool hb]) := Lib.hid (by rw [evs_append, HEV.out]; rfl)
  cases rest with
  | nil =>
    have hX' : noF = X := hX
    have htl' : [] = tl := htl
    subst hX' htl'
    have HH0 := Lib.hid hr
    have HH1 := Lib.hid (HoldsC.empty w0 ar cr)
    have HR : Hid (RLS w (rlW w h p f (.slice ar 0 cr) (.slice al log.length cl) n noF) h p f (.slice ar 0 cr) (.slice al log.length cl) n noF [] log b0) := Lib.hid (RLS.start hr ho)
    simp only [List.length_nil] at hr ⊢
    clear hr hr0 hb0 ho hx hX htl hws hs hh' hp hf hn hll HEV
    go_enter Tryz.func15, Tryz.ntmps15
    go_wp2_with fail
    refine (HA.out _).mono ?_
    rintro e w1 ⟨rfl, hb1⟩
    have HR1 := Lib.hid (HR.out.below hb1)
    clear hb1 HR
    obtain ⟨⟨a0, a1, a2, a3, a4, a5⟩, -, -, a6⟩ := six_facts HR1.out.a
    obtain ⟨x0, x1, x2, -, -, -⟩ := three_facts HR1.out.x
    go_wp2_with fail
    refine (HAP.out _).mono ?_
    rintro e w2 ⟨rfl, hb2⟩
    have HR2 := Lib.hid (HR1.out.below hb2)
    clear hb2 HR1 a0 a1 a2 a3 a4 a5 a6 x0 x1 x2
    obtain ⟨⟨a0, a1, a2, a3, a4, a5⟩, -, -, a6⟩ := six_facts HR2.out.a
    cases hb with
    | true =>
      have hq : (G.toList == Wh.toList) = false := by rw [eq_comm, Bool.not_eq_true'] at hht; exact hht
      have hq2 : ¬ (G.toList = Wh.toList) := by rw [beq_eq_false_iff_ne] at hq; exact hq
      clear hht
      go_wp2_with (at_builtin; first
        | (refine append_row3 38 67 _ 24 Tryz.underlying38 info_revt rfl (by decide) w2 (by rfl) _ _ (by rfl) w.heap.size (.slice none 0 0) 0 [] (by rfl) (World.ownsRow_nil _ _ _ _) b0 _ log.length (evs log) (by rfl) HR2.out.o (evs_one log) (by have := HBs.out.1; omega) HR2.out.b.size ?_; intro v1 c1 w3 ho3 hg3; rw [Nat.zero_add, List.nil_append] at ho3; have HO3 := Lib.hid ho3; have HR3 := Lib.hid (HR2.out.below ⟨hg3.os, hg3.tape, hg3.output, hg3.size, fun j hj => hg3.block j hj (by simp [Value.ownBlock])⟩); clear ho3 hg3 a0 a1 a2 a3 a4 a5 a6)
        | (refine append3 38 67 _ 24 Tryz.underlying38 info_revt rfl (by decide) w3 (.int .i64 (s.size : Int)) (.int .i64 (G.size : Int)) (.bool true) rfl rfl rfl (by rfl) _ _ (by rfl) w.heap.size _ log.length (evs log) (by rfl) HO3.out (by rfl) (by have := HBs.out.1; omega) HR3.out.b.size ?_; intro g cap w4 ho4 hg4 hd4; have HO4 := Lib.hid ho4; have HX4 := Lib.hid ((hg4.block _ (by have := HR3.out.s; omega) (fun e => own_not_row HO3.out HR3.out.a (by decide) e.symm)).trans HR3.out.a); have HZ4 := Lib.hid ((hg4.block _ (by have := HR3.out.s; omega) (fun e => own_not_row HO3.out HR3.out.z (by decide) e.symm)).trans HR3.out.z); have HB4 := Lib.hid (HR3.out.b.grown hg4 HR3.out.b.size (fun j hj => (HO3.out.lt j hj).1)); obtain ⟨⟨q0, q1, q2, q3, q4, q5⟩, u3, u4, u5⟩ := six_facts HX4.out; obtain ⟨z0, z1, z2, z3, z4, z5⟩ := six_free HZ4.out; obtain ⟨⟨r0, r1, r2, r3, r4, r5⟩, -⟩ := six_facts HZ4.out; clear ho4 hg4 hd4))
      have hne : w.heap.size + 1 ≠ w.heap.size := by omega
      have HOW := Lib.hid (own_far (own_far HO4.out HX4.out 4 (.slice (some ⟨g, 0, none⟩) (log.length + 1) cap)) (six_set4 HX4.out (.slice (some ⟨g, 0, none⟩) (log.length + 1) cap)) 5 (.int .i64 ((n : Int) + 1)))
      have HZW : Hid (((w4.setCell ⟨w.heap.size, 4, none⟩ (.slice (some ⟨g, 0, none⟩) (log.length + 1) cap)).setCell ⟨w.heap.size, 5, none⟩ (.int .i64 ((n : Int) + 1))).heap[w.heap.size + 1]? = _) := Lib.hid ((set_far6 hne).trans ((set_far6 hne).trans HZ4.out))
      have HBW := Lib.hid ((HB4.out.setCell (p := ⟨w.heap.size, 4, none⟩) (Nat.le_refl _) (.slice (some ⟨g, 0, none⟩) (log.length + 1) cap)).setCell (p := ⟨w.heap.size, 5, none⟩) (Nat.le_refl _) (.int .i64 ((n : Int) + 1)))
      refine ret_cell2 (A := ⟨w.heap.size + 1, 0, none⟩) rfl (load_rlink _ _ _ _ _ _ _ _ _ (six_all HZW.out _ _ _ _ _ _)) rfl rfl rfl ?_
      obtain ⟨f1, f2, f3⟩ := rl_fin HZW.out HBW.out HH0.out (ys := log ++ [EV]) (by rw [HEVT.out]; exact HOW.out) (.string h) (.string p) (.string f) (.slice ar 0 cr) (.slice (some ⟨g, 0, none⟩) (log.length + 1) cap) (.int .i64 ((n : Int) + 1))
      exact ⟨_, _, rfl, HH1.out, by rw [List.length_append]; exact f2, f3⟩
    | false =>
      have hq : (G.toList == Wh.toList) = true := by rw [eq_comm, Bool.not_eq_false'] at hht; exact hht
      have hq2 : G.toList = Wh.toList := by rw [beq_iff_eq] at hq; exact hq
      clear hht
      go_wp2_with (at_builtin; first
        | (refine append_row3 38 67 _ 24 Tryz.underlying38 info_revt rfl (by decide) w2 (by rfl) _ _ (by rfl) w.heap.size (.slice none 0 0) 0 [] (by rfl) (World.ownsRow_nil _ _ _ _) b0 _ log.length (evs log) (by rfl) HR2.out.o (evs_one log) (by have := HBs.out.1; omega) HR2.out.b.size ?_; intro v1 c1 w3 ho3 hg3; rw [Nat.zero_add, List.nil_append] at ho3; have HO3 := Lib.hid ho3; have HR3 := Lib.hid (HR2.out.below ⟨hg3.os, hg3.tape, hg3.output, hg3.size, fun j hj => hg3.block j hj (by simp [Value.ownBlock])⟩); clear ho3 hg3 a0 a1 a2 a3 a4 a5 a6)
        | (refine append3 38 67 _ 24 Tryz.underlying38 info_revt rfl (by decide) w3 (.int .i64 (s.size : Int)) (.int .i64 (G.size : Int)) (.bool false) rfl rfl rfl (by rfl) _ _ (by rfl) w.heap.size _ log.length (evs log) (by rfl) HO3.out (by rfl) (by have := HBs.out.1; omega) HR3.out.b.size ?_; intro g cap w4 ho4 hg4 hd4; have HO4 := Lib.hid ho4; have HX4 := Lib.hid ((hg4.block _ (by have := HR3.out.s; omega) (fun e => own_not_row HO3.out HR3.out.a (by decide) e.symm)).trans HR3.out.a); have HZ4 := Lib.hid ((hg4.block _ (by have := HR3.out.s; omega) (fun e => own_not_row HO3.out HR3.out.z (by decide) e.symm)).trans HR3.out.z); have HB4 := Lib.hid (HR3.out.b.grown hg4 HR3.out.b.size (fun j hj => (HO3.out.lt j hj).1)); obtain ⟨⟨q0, q1, q2, q3, q4, q5⟩, u3, u4, u5⟩ := six_facts HX4.out; obtain ⟨z0, z1, z2, z3, z4, z5⟩ := six_free HZ4.out; obtain ⟨⟨r0, r1, r2, r3, r4, r5⟩, -⟩ := six_facts HZ4.out; clear ho4 hg4 hd4))
      have hne : w.heap.size + 1 ≠ w.heap.size := by omega
      have HOW := Lib.hid (own_far HO4.out HX4.out 4 (.slice (some ⟨g, 0, none⟩) (log.length + 1) cap))
      have HZW : Hid ((w4.setCell ⟨w.heap.size, 4, none⟩ (.slice (some ⟨g, 0, none⟩) (log.length + 1) cap)).heap[w.heap.size + 1]? = _) := Lib.hid ((set_far6 hne).trans HZ4.out)
      have HBW := Lib.hid (HB4.out.setCell (p := ⟨w.heap.size, 4, none⟩) (Nat.le_refl _) (.slice (some ⟨g, 0, none⟩) (log.length + 1) cap))
      refine ret_cell2 (A := ⟨w.heap.size + 1, 0, none⟩) rfl (load_rlink _ _ _ _ _ _ _ _ _ (six_all HZW.out _ _ _ _ _ _)) rfl rfl rfl ?_
      obtain ⟨f1, f2, f3⟩ := rl_fin HZW.out HBW.out HH0.out (ys := log ++ [EV]) (by rw [HEVT.out]; exact HOW.out) (.string h) (.string p) (.string f) (.slice ar 0 cr) (.slice (some ⟨g, 0, none⟩) (log.length + 1) cap) (.int .i64 (n : Int))
      exact ⟨_, _, rfl, HH1.out, by rw [List.length_append]; exact f2, f3⟩
  | cons x t =>
    have hX' : x = X := hX
    have htl' : t = tl := htl
    subst hX' htl'
    obtain ⟨x1, x2, x3⟩ := x
    obtain ⟨-, -, -, hB⟩ := alloc3_facts w (.cells #[.string h, .string p, .string f, .slice ar (t.length + 1) cr, .slice al log.length cl, .int .i64 (n : Int)] 40) (.cells #[.string ⟨#[]⟩, .string ⟨#[]⟩, .string ⟨#[]⟩, .slice none 0 0, .slice none 0 0, .int .i64 0] 40) (.cells #[.int .u8 0, .int .i64 0, .string ⟨#[]⟩] 54)
    obtain ⟨b, o, c, hrv, hc, -, -, -, -, hh⟩ := hr.first
    injection hrv with e1 e2 e3
    subst e1 e3
    obtain ⟨b', o', c', hrv, -, -, y0, y1, y2, -⟩ := (hr.below hB).first
    injection hrv with e1 e2' e3
    injection e1 with e1
    injection e1 with e1 e4
    subst e1 e3 e4
    obtain ⟨b2, o2, c2, hrv, -, -, -, -, -, hh1⟩ := hr0.first
    injection hrv with e1 e2'' e3
    injection e1 with e1
    injection e1 with e1 e4
    subst e1 e3 e4
    clear e2''
    have hle : (1 : Int) ≤ (t.length : Int) + 1 := by omega
    have hz : ¬ ((0 : Int) = (t.length : Int) + 1) := by omega
    have hlt0 : (0 : Int) < (t.length : Int) + 1 := by omega
    have hgt : decide ((t.length : Int) + 1 > 0) = true := decide_eq_true (by omega)
    by_cases hc1 : cr = 1
    · subst hc1
      obtain rfl : t = [] := List.length_eq_zero_iff.1 (by omega)
      rw [if_pos rfl] at hh
      simp only [List.length_nil, Nat.sub_self] at hh hr ⊢
      simp only [List.length_nil, Nat.zero_add] at y0 y1 y2
      have HH0 := Lib.hid hh
      have HH1 := Lib.hid (HoldsC.empty w0 (some ⟨b, o, none⟩) 0)
      clear hh1
      have HR : Hid (RLS w (rlW w h p f (.slice (some ⟨b, o, none⟩) 0 0) (.slice al log.length cl) n (x1, x2, x3)) h p f (.slice (some ⟨b, o, none⟩) 0 0) (.slice al log.length cl) n (x1, x2, x3) [] log b0) := Lib.hid (RLS.start hh ho)
      clear hr hr0 hb0 ho hx hX htl hws hs hh' hp hf hn hll HEV hh hB e2 e2'
      go_enter Tryz.func15, Tryz.ntmps15
      go_wp2_with fail
      refine (HA.out _).mono ?_
      rintro e w1 ⟨rfl, hb1⟩
      have HR1 := Lib.hid (HR.out.below hb1)
      clear hb1 HR
      obtain ⟨⟨a0, a1, a2, a3, a4, a5⟩, -, -, a6⟩ := six_facts HR1.out.a
      obtain ⟨x0, x1, x2, -, -, -⟩ := three_facts HR1.out.x
      go_wp2_with fail
      refine (HAP.out _).mono ?_
      rintro e w2 ⟨rfl, hb2⟩
      have HR2 := Lib.hid (HR1.out.below hb2)
      clear hb2 HR1 a0 a1 a2 a3 a4 a5 a6 x0 x1 x2
      obtain ⟨⟨a0, a1, a2, a3, a4, a5⟩, -, -, a6⟩ := six_facts HR2.out.a
      cases hb with
      | true =>
        have hq : (G.toList == Wh.toList) = false := by rw [eq_comm, Bool.not_eq_true'] at hht; exact hht
        have hq2 : ¬ (G.toList = Wh.toList) := by rw [beq_eq_false_iff_ne] at hq; exact hq
        clear hht
        go_wp2_with (at_builtin; first
          | (refine append_row3 38 67 _ 24 Tryz.underlying38 info_revt rfl (by decide) w2 (by rfl) _ _ (by rfl) w.heap.size (.slice none 0 0) 0 [] (by rfl) (World.ownsRow_nil _ _ _ _) b0 _ log.length (evs log) (by rfl) HR2.out.o (evs_one log) (by have := HBs.out.1; omega) HR2.out.b.size ?_; intro v1 c1 w3 ho3 hg3; rw [Nat.zero_add, List.nil_append] at ho3; have HO3 := Lib.hid ho3; have HR3 := Lib.hid (HR2.out.below ⟨hg3.os, hg3.tape, hg3.output, hg3.size, fun j hj => hg3.block j hj (by simp [Value.ownBlock])⟩); clear ho3 hg3 a0 a1 a2 a3 a4 a5 a6)
          | (refine append3 38 67 _ 24 Tryz.underlying38 info_revt rfl (by decide) w3 (.int .i64 (s.size : Int)) (.int .i64 (G.size : Int)) (.bool true) rfl rfl rfl (by rfl) _ _ (by rfl) w.heap.size _ log.length (evs log) (by rfl) HO3.out (by rfl) (by have := HBs.out.1; omega) HR3.out.b.size ?_; intro g cap w4 ho4 hg4 hd4; have HO4 := Lib.hid ho4; have HX4 := Lib.hid ((hg4.block _ (by have := HR3.out.s; omega) (fun e => own_not_row HO3.out HR3.out.a (by decide) e.symm)).trans HR3.out.a); have HZ4 := Lib.hid ((hg4.block _ (by have := HR3.out.s; omega) (fun e => own_not_row HO3.out HR3.out.z (by decide) e.symm)).trans HR3.out.z); have HB4 := Lib.hid (HR3.out.b.grown hg4 HR3.out.b.size (fun j hj => (HO3.out.lt j hj).1)); obtain ⟨⟨q0, q1, q2, q3, q4, q5⟩, u3, u4, u5⟩ := six_facts HX4.out; obtain ⟨z0, z1, z2, z3, z4, z5⟩ := six_free HZ4.out; obtain ⟨⟨r0, r1, r2, r3, r4, r5⟩, -⟩ := six_facts HZ4.out; clear ho4 hg4 hd4))
        have hne : w.heap.size + 1 ≠ w.heap.size := by omega
        have HOW := Lib.hid (own_far (own_far HO4.out HX4.out 4 (.slice (some ⟨g, 0, none⟩) (log.length + 1) cap)) (six_set4 HX4.out (.slice (some ⟨g, 0, none⟩) (log.length + 1) cap)) 5 (.int .i64 ((n : Int) + 1)))
        have HZW : Hid (((w4.setCell ⟨w.heap.size, 4, none⟩ (.slice (some ⟨g, 0, none⟩) (log.length + 1) cap)).setCell ⟨w.heap.size, 5, none⟩ (.int .i64 ((n : Int) + 1))).heap[w.heap.size + 1]? = _) := Lib.hid ((set_far6 hne).trans ((set_far6 hne).trans HZ4.out))
        have HBW := Lib.hid ((HB4.out.setCell (p := ⟨w.heap.size, 4, none⟩) (Nat.le_refl _) (.slice (some ⟨g, 0, none⟩) (log.length + 1) cap)).setCell (p := ⟨w.heap.size, 5, none⟩) (Nat.le_refl _) (.int .i64 ((n : Int) + 1)))
        refine ret_cell2 (A := ⟨w.heap.size + 1, 0, none⟩) rfl (load_rlink _ _ _ _ _ _ _ _ _ (six_all HZW.out _ _ _ _ _ _)) rfl rfl rfl ?_
        obtain ⟨f1, f2, f3⟩ := rl_fin HZW.out HBW.out HH0.out (ys := log ++ [EV]) (by rw [HEVT.out]; exact HOW.out) (.string h) (.string p) (.string f) (.slice (some ⟨b, o, none⟩) 0 0) (.slice (some ⟨g, 0, none⟩) (log.length + 1) cap) (.int .i64 ((n : Int) + 1))
        exact ⟨_, _, rfl, HH1.out, by rw [List.length_append]; exact f2, f3⟩
      | false =>
        have hq : (G.toList == Wh.toList) = true := by rw [eq_comm, Bool.not_eq_false'] at hht; exact hht
        have hq2 : G.toList = Wh.toList := by rw [beq_iff_eq] at hq; exact hq
        clear hht
        go_wp2_with (at_builtin; first
          | (refine append_row3 38 67 _ 24 Tryz.underlying38 info_revt rfl (by decide) w2 (by rfl) _ _ (by rfl) w.heap.size (.slice none 0 0) 0 [] (by rfl) (World.ownsRow_nil _ _ _ _) b0 _ log.length (evs log) (by rfl) HR2.out.o (evs_one log) (by have := HBs.out.1; omega) HR2.out.b.size ?_; intro v1 c1 w3 ho3 hg3; rw [Nat.zero_add, List.nil_append] at ho3; have HO3 := Lib.hid ho3; have HR3 := Lib.hid (HR2.out.below ⟨hg3.os, hg3.tape, hg3.output, hg3.size, fun j hj => hg3.block j hj (by simp [Value.ownBlock])⟩); clear ho3 hg3 a0 a1 a2 a3 a4 a5 a6)
          | (refine append3 38 67 _ 24 Tryz.underlying38 info_revt rfl (by decide) w3 (.int .i64 (s.size : Int)) (.int .i64 (G.size : Int)) (.bool false) rfl rfl rfl (by rfl) _ _ (by rfl) w.heap.size _ log.length (evs log) (by rfl) HO3.out (by rfl) (by have := HBs.out.1; omega) HR3.out.b.size ?_; intro g cap w4 ho4 hg4 hd4; have HO4 := Lib.hid ho4; have HX4 := Lib.hid ((hg4.block _ (by have := HR3.out.s; omega) (fun e => own_not_row HO3.out HR3.out.a (by decide) e.symm)).trans HR3.out.a); have HZ4 := Lib.hid ((hg4.block _ (by have := HR3.out.s; omega) (fun e => own_not_row HO3.out HR3.out.z (by decide) e.symm)).trans HR3.out.z); have HB4 := Lib.hid (HR3.out.b.grown hg4 HR3.out.b.size (fun j hj => (HO3.out.lt j hj).1)); obtain ⟨⟨q0, q1, q2, q3, q4, q5⟩, u3, u4, u5⟩ := six_facts HX4.out; obtain ⟨z0, z1, z2, z3, z4, z5⟩ := six_free HZ4.out; obtain ⟨⟨r0, r1, r2, r3, r4, r5⟩, -⟩ := six_facts HZ4.out; clear ho4 hg4 hd4))
        have hne : w.heap.size + 1 ≠ w.heap.size := by omega
        have HOW := Lib.hid (own_far HO4.out HX4.out 4 (.slice (some ⟨g, 0, none⟩) (log.length + 1) cap))
        have HZW : Hid ((w4.setCell ⟨w.heap.size, 4, none⟩ (.slice (some ⟨g, 0, none⟩) (log.length + 1) cap)).heap[w.heap.size + 1]? = _) := Lib.hid ((set_far6 hne).trans HZ4.out)
        have HBW := Lib.hid (HB4.out.setCell (p := ⟨w.heap.size, 4, none⟩) (Nat.le_refl _) (.slice (some ⟨g, 0, none⟩) (log.length + 1) cap))
        refine ret_cell2 (A := ⟨w.heap.size + 1, 0, none⟩) rfl (load_rlink _ _ _ _ _ _ _ _ _ (six_all HZW.out _ _ _ _ _ _)) rfl rfl rfl ?_
        obtain ⟨f1, f2, f3⟩ := rl_fin HZW.out HBW.out HH0.out (ys := log ++ [EV]) (by rw [HEVT.out]; exact HOW.out) (.string h) (.string p) (.string f) (.slice (some ⟨b, o, none⟩) 0 0) (.slice (some ⟨g, 0, none⟩) (log.length + 1) cap) (.int .i64 (n : Int))
        exact ⟨_, _, rfl, HH1.out, by rw [List.length_append]; exact f2, f3⟩
    · rw [if_neg hc1] at hh hh1
      have HH0 := Lib.hid hh
      have HH1 := Lib.hid hh1
      clear hh1
      have HR : Hid (RLS w (rlW w h p f (.slice (some ⟨b, o + 3, none⟩) t.length (cr - 1)) (.slice al log.length cl) n (x1, x2, x3)) h p f (.slice (some ⟨b, o + 3, none⟩) t.length (cr - 1)) (.slice al log.length cl) n (x1, x2, x3) t log b0) := Lib.hid (RLS.start hh ho)
      simp only [List.length_cons] at hr ⊢
      clear hr hr0 hb0 ho hx hX htl hws hs hh' hp hf hn hll HEV hh hB e2 e2'
      go_enter Tryz.func15, Tryz.ntmps15
      go_wp2_with fail
      refine (HA.out _).mono ?_
      rintro e w1 ⟨rfl, hb1⟩
      have HR1 := Lib.hid (HR.out.below hb1)
      clear hb1 HR
      obtain ⟨⟨a0, a1, a2, a3, a4, a5⟩, -, -, a6⟩ := six_facts HR1.out.a
      obtain ⟨x0, x1, x2, -, -, -⟩ := three_facts HR1.out.x
      go_wp2_with fail
      refine (HAP.out _).mono ?_
      rintro e w2 ⟨rfl, hb2⟩
      have HR2 := Lib.hid (HR1.out.below hb2)
      clear hb2 HR1 a0 a1 a2 a3 a4 a5 a6 x0 x1 x2
      obtain ⟨⟨a0, a1, a2, a3, a4, a5⟩, -, -, a6⟩ := six_facts HR2.out.a
      cases hb with
      | true =>
        have hq : (G.toList == Wh.toList) = false := by rw [eq_comm, Bool.not_eq_true'] at hht; exact hht
        have hq2 : ¬ (G.toList = Wh.toList) := by rw [beq_eq_false_iff_ne] at hq; exact hq
        clear hht
        go_wp2_with (at_builtin; first
          | (refine append_row3 38 67 _ 24 Tryz.underlying38 info_revt rfl (by decide) w2 (by rfl) _ _ (by rfl) w.heap.size (.slice none 0 0) 0 [] (by rfl) (World.ownsRow_nil _ _ _ _) b0 _ log.length (evs log) (by rfl) HR2.out.o (evs_one log) (by have := HBs.out.1; omega) HR2.out.b.size ?_; intro v1 c1 w3 ho3 hg3; rw [Nat.zero_add, List.nil_append] at ho3; have HO3 := Lib.hid ho3; have HR3 := Lib.hid (HR2.out.below ⟨hg3.os, hg3.tape, hg3.output, hg3.size, fun j hj => hg3.block j hj (by simp [Value.ownBlock])⟩); clear ho3 hg3 a0 a1 a2 a3 a4 a5 a6)
          | (refine append3 38 67 _ 24 Tryz.underlying38 info_revt rfl (by decide) w3 (.int .i64 (s.size : Int)) (.int .i64 (G.size : Int)) (.bool true) rfl rfl rfl (by rfl) _ _ (by rfl) w.heap.size _ log.length (evs log) (by rfl) HO3.out (by rfl) (by have := HBs.out.1; omega) HR3.out.b.size ?_; intro g cap w4 ho4 hg4 hd4; have HO4 := Lib.hid ho4; have HX4 := Lib.hid ((hg4.block _ (by have := HR3.out.s; omega) (fun e => own_not_row HO3.out HR3.out.a (by decide) e.symm)).trans HR3.out.a); have HZ4 := Lib.hid ((hg4.block _ (by have := HR3.out.s; omega) (fun e => own_not_row HO3.out HR3.out.z (by decide) e.symm)).trans HR3.out.z); have HB4 := Lib.hid (HR3.out.b.grown hg4 HR3.out.b.size (fun j hj => (HO3.out.lt j hj).1)); obtain ⟨⟨q0, q1, q2, q3, q4, q5⟩, u3, u4, u5⟩ := six_facts HX4.out; obtain ⟨z0, z1, z2, z3, z4, z5⟩ := six_free HZ4.out; obtain ⟨⟨r0, r1, r2, r3, r4, r5⟩, -⟩ := six_facts HZ4.out; clear ho4 hg4 hd4))
        have hne : w.heap.size + 1 ≠ w.heap.size := by omega
        have HOW := Lib.hid (own_far (own_far HO4.out HX4.out 4 (.slice (some ⟨g, 0, none⟩) (log.length + 1) cap)) (six_set4 HX4.out (.slice (some ⟨g, 0, none⟩) (log.length + 1) cap)) 5 (.int .i64 ((n : Int) + 1)))
        have HZW : Hid (((w4.setCell ⟨w.heap.size, 4, none⟩ (.slice (some ⟨g, 0, none⟩) (log.length + 1) cap)).setCell ⟨w.heap.size, 5, none⟩ (.int .i64 ((n : Int) + 1))).heap[w.heap.size + 1]? = _) := Lib.hid ((set_far6 hne).trans ((set_far6 hne).trans HZ4.out))
        have HBW := Lib.hid ((HB4.out.setCell (p := ⟨w.heap.size, 4, none⟩) (Nat.le_refl _) (.slice (some ⟨g, 0, none⟩) (log.length + 1) cap)).setCell (p := ⟨w.heap.size, 5, none⟩) (Nat.le_refl _) (.int .i64 ((n : Int) + 1)))
        refine ret_cell2 (A := ⟨w.heap.size + 1, 0, none⟩) rfl (load_rlink _ _ _ _ _ _ _ _ _ (six_all HZW.out _ _ _ _ _ _)) rfl rfl rfl ?_
        obtain ⟨f1, f2, f3⟩ := rl_fin HZW.out HBW.out HH0.out (ys := log ++ [EV]) (by rw [HEVT.out]; exact HOW.out) (.string h) (.string p) (.string f) (.slice (some ⟨b, o + 3, none⟩) t.length (cr - 1)) (.slice (some ⟨g, 0, none⟩) (log.length + 1) cap) (.int .i64 ((n : Int) + 1))
        exact ⟨_, _, rfl, HH1.out, by rw [List.length_append]; exact f2, f3⟩
      | false =>
        have hq : (G.toList == Wh.toList) = true := by rw [eq_comm, Bool.not_eq_false'] at hht; exact hht
        have hq2 : G.toList = Wh.toList := by rw [beq_iff_eq] at hq; exact hq
        clear hht
        go_wp2_with (at_builtin; first
          | (refine append_row3 38 67 _ 24 Tryz.underlying38 info_revt rfl (by decide) w2 (by rfl) _ _ (by rfl) w.heap.size (.slice none 0 0) 0 [] (by rfl) (World.ownsRow_nil _ _ _ _) b0 _ log.length (evs log) (by rfl) HR2.out.o (evs_one log) (by have := HBs.out.1; omega) HR2.out.b.size ?_; intro v1 c1 w3 ho3 hg3; rw [Nat.zero_add, List.nil_append] at ho3; have HO3 := Lib.hid ho3; have HR3 := Lib.hid (HR2.out.below ⟨hg3.os, hg3.tape, hg3.output, hg3.size, fun j hj => hg3.block j hj (by simp [Value.ownBlock])⟩); clear ho3 hg3 a0 a1 a2 a3 a4 a5 a6)
          | (refine append3 38 67 _ 24 Tryz.underlying38 info_revt rfl (by decide) w3 (.int .i64 (s.size : Int)) (.int .i64 (G.size : Int)) (.bool false) rfl rfl rfl (by rfl) _ _ (by rfl) w.heap.size _ log.length (evs log) (by rfl) HO3.out (by rfl) (by have := HBs.out.1; omega) HR3.out.b.size ?_; intro g cap w4 ho4 hg4 hd4; have HO4 := Lib.hid ho4; have HX4 := Lib.hid ((hg4.block _ (by have := HR3.out.s; omega) (fun e => own_not_row HO3.out HR3.out.a (by decide) e.symm)).trans HR3.out.a); have HZ4 := Lib.hid ((hg4.block _ (by have := HR3.out.s; omega) (fun e => own_not_row HO3.out HR3.out.z (by decide) e.symm)).trans HR3.out.z); have HB4 := Lib.hid (HR3.out.b.grown hg4 HR3.out.b.size (fun j hj => (HO3.out.lt j hj).1)); obtain ⟨⟨q0, q1, q2, q3, q4, q5⟩, u3, u4, u5⟩ := six_facts HX4.out; obtain ⟨z0, z1, z2, z3, z4, z5⟩ := six_free HZ4.out; obtain ⟨⟨r0, r1, r2, r3, r4, r5⟩, -⟩ := six_facts HZ4.out; clear ho4 hg4 hd4))
        have hne : w.heap.size + 1 ≠ w.heap.size := by omega
        have HOW := Lib.hid (own_far HO4.out HX4.out 4 (.slice (some ⟨g, 0, none⟩) (log.length + 1) cap))
        have HZW : Hid ((w4.setCell ⟨w.heap.size, 4, none⟩ (.slice (some ⟨g, 0, none⟩) (log.length + 1) cap)).heap[w.heap.size + 1]? = _) := Lib.hid ((set_far6 hne).trans HZ4.out)
        have HBW := Lib.hid (HB4.out.setCell (p := ⟨w.heap.size, 4, none⟩) (Nat.le_refl _) (.slice (some ⟨g, 0, none⟩) (log.length + 1) cap))
        refine ret_cell2 (A := ⟨w.heap.size + 1, 0, none⟩) rfl (load_rlink _ _ _ _ _ _ _ _ _ (six_all HZW.out _ _ _ _ _ _)) rfl rfl rfl ?_
        obtain ⟨f1, f2, f3⟩ := rl_fin HZW.out HBW.out HH0.out (ys := log ++ [EV]) (by rw [HEVT.out]; exact HOW.out) (.string h) (.string p) (.string f) (.slice (some ⟨b, o + 3, none⟩) t.length (cr - 1)) (.slice (some ⟨g, 0, none⟩) (log.length + 1) cap) (.int .i64 (n : Int))
        exact ⟨_, _, rfl, HH1.out, by rw [List.length_append]; exact f2, f3⟩
end Go.Proofs.YthcomjhpjlcpdaaGreatDoor
