/- What first and Fields of the reference of asking return. -/
import Derived.Test.YtgaojfebmcmpaaaGreatDoorAskParse
import Derived.Test.YtgaojfebmcmpaaaGreatDoorFieldsRefParse
namespace Go.Proofs.YtgaojfebmcmpaaaGreatDoor
open Go.RowKit

set_option maxRecDepth 100000 in
set_option maxHeartbeats 2000000 in
theorem ref_first (w : World) (v : Value) (ws : List (List UInt8)) (hv : HoldsS w v ws) (hx : ∀ x ∈ ws, x.length ≤ 1000000) :
    Calls Tryz.prog 65 #[v] w fun e w' => e = .returned (.int .i64 (firstW ws : Nat)) ∧ w' = w := by
  obtain ⟨av, cv, rfl, hc, hh⟩ := hv
  obtain ⟨Z, hZ⟩ : ∃ Z, firstW ws = Z := ⟨_, rfl⟩
  rw [hZ]
  by_cases h3 : ws.length = 3
  · obtain ⟨B', o', rfl, hBl', hcell'⟩ := hh (by intro e; rw [e] at h3; simp at h3)
    have d0 := hcell' 0 (by omega)
    have d1 := hcell' 1 (by omega)
    have d2 := hcell' 2 (by omega)
    rw [Nat.add_zero] at d0
    obtain ⟨y0, y1, y2, rfl⟩ : ∃ y0 y1 y2, ws = [y0, y1, y2] := by
      match ws, h3 with
      | [y0, y1, y2], _ => exact ⟨y0, y1, y2, rfl⟩
    change w.cell? ⟨B', o', none⟩ = some (.string (bs y0)) at d0
    change w.cell? ⟨B', o' + 1, none⟩ = some (.string (bs y1)) at d1
    change w.cell? ⟨B', o' + 2, none⟩ = some (.string (bs y2)) at d2
    have hy1 : y1.length ≤ 1000000 := hx y1 (by simp)
    have HP := Lib.hid (fun w => ref_path (bs y1) w (by rw [bs_size]; omega))
    rw [bs_data] at HP
    have e0 := bs_lit y0 [71, 69, 84]
    have e2 := bs_lit y2 [72, 84, 84, 80, 47, 49, 46, 49]
    clear hcell' hh h3 hx
    by_cases q0 : y0 = [71, 69, 84]
    · rw [decide_eq_true q0] at e0
      by_cases q2 : y2 = [72, 84, 84, 80, 47, 49, 46, 49]
      · rw [decide_eq_true q2] at e2
        cases hp : pathB y1 with
        | false =>
          rw [hp] at HP
          have HFF : Hid (Z = 2) := Lib.hid (by rw [← hZ]; unfold firstW; simp [q0, q2, hp])
          clear hp q0 q2 hZ
          go_enter Tryz.func65, Tryz.ntmps65
          go_wp2_with fail
          refine (HP.out _).mono ?_
          rintro e w' ⟨rfl, rfl⟩
          go_wp2_with fail
          go_ret
          exact ⟨by rw [HFF.out]; rfl, rfl⟩
        | true =>
          rw [hp] at HP
          have HFF : Hid (Z = 0) := Lib.hid (by rw [← hZ]; unfold firstW; simp [q0, q2, hp])
          clear hp q0 q2 hZ
          go_enter Tryz.func65, Tryz.ntmps65
          go_wp2_with fail
          refine (HP.out _).mono ?_
          rintro e w' ⟨rfl, rfl⟩
          go_wp2_with fail
          go_ret
          exact ⟨by rw [HFF.out]; rfl, rfl⟩
      · rw [decide_eq_false q2] at e2
        have HFF : Hid (Z = 13) := Lib.hid (by rw [← hZ]; unfold firstW; simp [q0, q2])
        clear q0 q2 hZ
        go_enter Tryz.func65, Tryz.ntmps65
        go_wp2_with fail
        go_ret
        exact ⟨by rw [HFF.out]; rfl, rfl⟩
    · rw [decide_eq_false q0] at e0
      have HFF : Hid (Z = 14) := Lib.hid (by rw [← hZ]; unfold firstW; simp [q0])
      clear q0 hZ
      go_enter Tryz.func65, Tryz.ntmps65
      go_wp2_with fail
      go_ret
      exact ⟨by rw [HFF.out]; rfl, rfl⟩
  · have HFF : Hid (Z = 4) := Lib.hid (by rw [← hZ]; unfold firstW; rw [if_pos h3])
    have t3 : ((ws.length : Int) != 3) = true := by rw [bne_iff_ne]; omega
    clear hh h3 hx hZ
    go_enter Tryz.func65, Tryz.ntmps65
    go_wp2_with fail
    go_ret
    exact ⟨by rw [HFF.out]; rfl, rfl⟩
theorem info_rfield : (Tryz.prog.info? 130).map (fun i => (i.zero, i.size, i.bytes)) = some (some (.agg #[.string ByteArray.empty, .string ByteArray.empty]), 2, 32) := by kernel_rfl
theorem append_rfield {ops : Array Oper} {rest : List Oper} {o : Oper} {a : Act} {Q : Exit → Act → World → Prop} (w0 : World) (hgd : o.guard = none) (s x : Operand)
    (ho : o.op = .call { callee := .builtin .append, args := #[s, x], argTypes := #[45, 45] })
    (base : Nat) (v : Value) (fs : List (List UInt8 × List UInt8)) (hs : a.eval s = v) (hown : w0.ownsRow base 130 2 v fs.length (fcells fs))
    (p q : ByteArray) (f : List UInt8 × List UInt8) (hp : p = bs f.1) (hq : q = bs f.2) (H : Nat) (hH : w0.heap.size = H) (hx : a.eval x = .slice (some ⟨H, 0, none⟩) 1 1) (hn : fs.length < 2147483648) (hbase : base ≤ w0.heap.size)
    (h : ∀ v' w', w'.ownsRow base 130 2 v' (fs ++ [f]).length (fcells (fs ++ [f])) → w0.grownBy w' v.ownBlock → v' ≠ .slice none 0 0 → wpList Tryz.prog ops Q rest (a.put o.dst v') w') :
    wpList Tryz.prog ops Q (o :: rest) a (w0.alloc (.cells #[.string p, .string q] 130)) := by
  obtain ⟨i0, hi, hz0, hz1, hz2⟩ := info_parts info_rfield
  subst hp hq hH
  refine wpList_append_own _ hgd s x 45 ho base 130 i0 _ 2 32 Tryz.underlying45 hi hz0 hz1 hz2 rfl (by decide) v fs.length (fcells fs) hs (hown.alloc _) ⟨w0.heap.size, 0, none⟩ 1 1 [.string (bs f.1), .string (bs f.2)] hx rfl (cell_two_new w0 _ _ _) (by simp [Value.oneCell']) (by unfold maxLen; omega) (by omega) (by simp; omega) ?_
  intro v' w' h2 h3 h4
  refine h v' w' ?_ ?_ (fun e => by have := (h4.1 e).2; omega)
  · rw [List.length_append, fcells_append]; exact h2
  · exact ⟨h3.os, h3.tape, h3.output, Nat.le_trans (by simp) h3.size, fun k hk hne => (h3.block k (by simp; omega) hne).trans (heap_alloc_old w0 _ hk)⟩
def FieldsPost (ls : List (List UInt8)) (w : World) (e : Ending) (w' : World) : Prop :=
  ∃ v, e = .returned (.tuple #[v, .int .i64 (fldE ls : Nat)]) ∧ (∃ a c n, v = .slice a n c) ∧ (fldE ls = 0 → HoldsF w' v (fldL ls)) ∧ Below w.heap.size w w'
set_option maxRecDepth 100000 in
set_option maxHeartbeats 4000000 in
theorem ref_fields (w : World) (v : Value) (xs : List (List UInt8)) (hv : HoldsS w v xs) (hlen : xs.length ≤ 1000000) (hx : ∀ x ∈ xs, x.length ≤ 1000000) :
    Calls Tryz.prog 66 #[v] w (FieldsPost xs w) := by
  obtain ⟨a, c, rfl, hc, hh⟩ := hv
  have HC := Lib.hid hh
  have HX := Lib.hid hx
  clear hh hx
  go_enter Tryz.func66, Tryz.ntmps66
  go_wp2_with fail
  go_loopw [4, 5] (fun u i wr => ∃ k : Nat, k ≤ xs.length ∧ i = .int .i64 k ∧ wr.ownsRow w.heap.size 130 2 u (fldL (xs.take k)).length (fcells (fldL (xs.take k))) ∧ Below w.heap.size w wr ∧ Hid (∀ j (hj : j < xs.length), j < k → parseE xs[j] = 0)) (fun _ i _ => xs.length - (intOf i).toNat)
  case atStart => exact ⟨0, by omega, rfl, by rw [List.take_zero]; exact World.ownsRow_nil _ _ _ _, Below.refl _ _, Lib.hid (fun j hj h => absurd h (Nat.not_lt_zero _))⟩
  case round =>
    obtain ⟨k, hk, rfl, hown, hb, HK⟩ := hrel
    by_cases hlt : k < xs.length
    · obtain ⟨b, o, rfl, hbl, hcell⟩ := HC.out (fun e => by rw [e] at hlt; exact absurd hlt (Nat.not_lt_zero _))
      have c0 := (hb.cell (p := ⟨b, o + k, none⟩) hbl).trans (hcell k hlt)
      obtain ⟨S, hS⟩ : ∃ S, bs xs[k] = S := ⟨_, rfl⟩
      have hSd : S.data.toList = xs[k] := by rw [← hS, bs_data]
      have hSs : S.size ≤ 1000000 := by rw [← hS, bs_size]; exact HX.out _ (List.getElem_mem hlt)
      rw [hS] at c0
      have HN := Lib.hid (fun w => ref_fparse S w hSs)
      rw [hSd] at HN
      have hkl : (fldL (xs.take k)).length < 2147483648 := by unfold fldL; rw [List.length_map, List.length_take]; omega
      have tl : decide ((k : Int) < (xs.length : Int)) = true := decide_eq_true (by omega)
      clear hcell hS hSd
      by_cases hz : parseE xs[k] = 0
      · rw [hz] at HN
        have HK2 : Hid (∀ j (hj : j < xs.length), j < k + 1 → parseE xs[j] = 0) := Lib.hid (fun j hj h => by
          by_cases e : j = k
          · subst e; exact hz
          · exact HK.out j hj (by omega))
        have hstep : Hid (fldL (xs.take (k + 1)) = fldL (xs.take k) ++ [(parseN xs[k], parseV xs[k])]) := Lib.hid (fldL_snoc xs k hlt)
        clear hz HK
        go_wp2_with fail
        refine (HN.out _).mono ?_
        rintro e w1 ⟨rfl, hb1⟩
        have hown1 : w1.ownsRow w.heap.size 130 2 _ (fldL (xs.take k)).length (fcells (fldL (xs.take k))) := own_keep hown hb1
        have hb2 := bstep hb hb1
        clear hown c0
        have hown2 := own_keep hown1 ((Below.refl w1.heap.size w1).alloc (Nat.le_refl _) (.cells #[.string (bs (parseN xs[k])), .string (bs (parseV xs[k]))] 130))
        have hb3 := bstep hb2 ((Below.refl w1.heap.size w1).alloc (Nat.le_refl _) (.cells #[.string (bs (parseN xs[k])), .string (bs (parseV xs[k]))] 130))
        obtain ⟨j0, j1⟩ := box2 w1 (.string (bs (parseN xs[k]))) (.string (bs (parseV xs[k]))) 130
        go_wp2_with (at_builtin; go_loud (refine append_rfield (w1.alloc (.cells #[.string (bs (parseN xs[k])), .string (bs (parseV xs[k]))] 130)) (by rfl) _ _ (by rfl) w.heap.size _ (fldL (xs.take k)) (by rfl) hown2 (bs (parseN xs[k])) (bs (parseV xs[k])) (parseN xs[k], parseV xs[k]) rfl rfl (w1.heap.size + 1) (by simp) (by rfl) hkl hb3.size ?_); intro v' w2 hown3 hg3 hne3)
        go_roundw
        case rel => exact ⟨k + 1, by omega, by go_num, by rw [hstep.out]; exact hown3, below_ownF hb3 hg3 hown2 (Nat.le_refl _) hb3.size, HK2⟩
        case measure => simp [intOf]; omega
      · have HR : Hid (fldE xs = parseE xs[k]) := Lib.hid (fldE_at xs k hlt HK.out hz)
        have tz : ((parseE xs[k] : Int) != 0) = true := by rw [bne_iff_ne]; omega
        have hz2 : Hid (parseE xs[k] ≠ 0) := Lib.hid hz
        clear hz HK
        go_wp2_with fail
        refine (HN.out _).mono ?_
        rintro e w1 ⟨rfl, hb1⟩
        have hb2 := bstep hb hb1
        clear c0 hown
        go_wp2_with fail
        go_ret2
        exact ⟨_, by rw [HR.out]; rfl, ⟨_, _, _, rfl⟩, fun h => absurd (HR.out ▸ h) hz2.out, hb2.alloc (by have := hb2.size; omega) _⟩
    · have hall : xs.take k = xs := List.take_of_length_le (by omega)
      have HR : Hid (fldE xs = 0) := Lib.hid (fldE_all xs (fun j hj => HK.out j hj (by omega)))
      rw [hall] at hown
      obtain ⟨av, cv, rfl⟩ := slice_of_own hown
      have tl : decide ((k : Int) < (xs.length : Int)) = false := decide_eq_false (by omega)
      clear hall HK
      go_wp2_with fail
      go_ret2
      exact ⟨_, by rw [HR.out]; rfl, ⟨_, _, _, rfl⟩, fun _ => HoldsF.of_own hown, hb⟩
end Go.Proofs.YtgaojfebmcmpaaaGreatDoor
