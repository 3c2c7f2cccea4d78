/- The law function FieldsBack. -/
import Derived.Test.YtnfadmdndefanaaGreatDoorFieldsNamesLaw
import Derived.Deep.RegionHeld3
import Derived.Lib.Case
import Derived.Lib.Repeat
namespace Go.Proofs.YtnfadmdndefanaaGreatDoor
open Go.RowKit

theorem upper_great (l : List UInt8) : Go.Lib.toUpperA l = l.map greatB := by
  unfold Go.Lib.toUpperA
  refine List.map_congr_left (fun c hc => ?_)
  unfold Go.Lib.upperB Go.Lib.isLowerB greatB
  by_cases h : 97 ≤ c.toNat ∧ c.toNat ≤ 122
  · rw [if_pos h, if_pos (by simp [UInt8.le_iff_toNat_le]; exact h)]
    apply UInt8.toNat_inj.1
    rw [UInt8.toNat_ofNat', UInt8.toNat_sub]
    have : (32 : UInt8).toNat = 32 := rfl
    omega
  · rw [if_neg h, if_neg (by simp [UInt8.le_iff_toNat_le]; omega)]
theorem cat_run (a b : ByteArray) (h : a.size + b.size ≤ 9223372036854775807) (w : World) : (binOp .add 9 (.string a) (.string b)).run Tryz.prog w = .ok (.string (a ++ b)) w := by
  go_simp
theorem repeat_one (c : UInt8) (k : Nat) : Go.Lib.repeatL [c] k = List.replicate k c := by
  induction k with
  | zero => rfl
  | succ k ih => show c :: Go.Lib.repeatL [c] k = _; rw [ih]; rfl
theorem c_upper (s : ByteArray) (w : World) (hs : s.size ≤ 1000000) (h : ∀ c ∈ s.data.toList, namedN c.toNat = true) :
    Calls Tryz.prog 16 #[.string s] w fun e w' => e = .returned (.string (bs (s.data.toList.map greatB))) ∧ Below w.heap.size w w' := by
  have := Tryz.strings_ToUpper_ascii s w (by omega) (fun j b hb => by
    have := namedN_bd _ (h b (List.mem_of_getElem? hb)); omega)
  rw [upper_great] at this
  exact this
theorem c_repeat (c : UInt8) (k : Nat) (w : World) (hk : k ≤ 1000) :
    Calls Tryz.prog 17 #[.string ⟨#[c]⟩, .int .i64 k] w fun e w' => e = .returned (.string (bs (List.replicate k c))) ∧ Below w.heap.size w w' := by
  have := Tryz.strings_Repeat ⟨#[c]⟩ k w (by omega) (by show 1 * k ≤ _; omega)
  rw [show (ByteArray.mk #[c]).data.toList = [c] from rfl, repeat_one] at this
  exact this
theorem bcell {W w1 : World} (hb : Below W.heap.size W w1) : (∀ b o, b < W.heap.size → w1.cell? ⟨b, o, none⟩ = W.cell? ⟨b, o, none⟩) ∧ (∀ b o, b < W.heap.size → w1.frozen? ⟨b, o, none⟩ = W.frozen? ⟨b, o, none⟩) :=
  ⟨fun b o h => hb.cell (p := ⟨b, o, none⟩) h, fun b o h => hb.frozen (p := ⟨b, o, none⟩) h⟩

theorem lt_alloc (u : World) (o : Obj) : u.heap.size < (u.alloc o).heap.size := by simp
theorem back_env {W3 W : World} {b : Nat} {x y : Value} (hE : EnvF W3) (h : b < W3.heap.size ∧ Below W3.heap.size W3 W ∧ W.cell? ⟨b, 0, none⟩ = some x ∧ W.cell? ⟨b, 1, none⟩ = some y) : EnvF W := hE.below h.2.1
theorem back_keep1 {W3 W : World} {b : Nat} {x y : Value} (hl : b < W3.heap.size) (c0 : W3.cell? ⟨b, 0, none⟩ = some x) (c1 : W3.cell? ⟨b, 1, none⟩ = some y) (hb : Below W3.heap.size W3 W) :
    b < W3.heap.size ∧ Below W3.heap.size W3 W ∧ W.cell? ⟨b, 0, none⟩ = some x ∧ W.cell? ⟨b, 1, none⟩ = some y := ⟨hl, hb, (hb.cell (p := ⟨b, 0, none⟩) hl).trans c0, (hb.cell (p := ⟨b, 1, none⟩) hl).trans c1⟩
theorem back_keep0 {W3 : World} {b : Nat} {x y : Value} (hl : b < W3.heap.size) (c0 : W3.cell? ⟨b, 0, none⟩ = some x) (c1 : W3.cell? ⟨b, 1, none⟩ = some y) :
    b < W3.heap.size ∧ Below W3.heap.size W3 W3.drew ∧ W3.drew.cell? ⟨b, 0, none⟩ = some x ∧ W3.drew.cell? ⟨b, 1, none⟩ = some y := back_keep1 hl c0 c1 (Below.refl _ _).drew
theorem back_keep2 {W3 W W' : World} {b : Nat} {x y : Value} (h : b < W3.heap.size ∧ Below W3.heap.size W3 W ∧ W.cell? ⟨b, 0, none⟩ = some x ∧ W.cell? ⟨b, 1, none⟩ = some y) (hb : Below W.heap.size W W') :
    b < W3.heap.size ∧ Below W3.heap.size W3 W' ∧ W'.cell? ⟨b, 0, none⟩ = some x ∧ W'.cell? ⟨b, 1, none⟩ = some y :=
  ⟨h.1, bstep h.2.1 hb, (hb.cell (p := ⟨b, 0, none⟩) (Nat.lt_of_lt_of_le h.1 h.2.1.size)).trans h.2.2.1, (hb.cell (p := ⟨b, 1, none⟩) (Nat.lt_of_lt_of_le h.1 h.2.1.size)).trans h.2.2.2⟩
theorem back_keep3 {W3 W : World} {b : Nat} {x y : Value} {o : Obj} (h : b < W3.heap.size ∧ Below W3.heap.size W3 W ∧ W.cell? ⟨b, 0, none⟩ = some x ∧ W.cell? ⟨b, 1, none⟩ = some y) :
    b < W3.heap.size ∧ Below W3.heap.size W3 (W.alloc o) ∧ (W.alloc o).cell? ⟨b, 0, none⟩ = some x ∧ (W.alloc o).cell? ⟨b, 1, none⟩ = some y := back_keep2 h (below_new _ _)
theorem back_keep4 {W3 : World} {b : Nat} {x y : Value} {o : Obj} (hl : b < W3.heap.size) (c0 : W3.cell? ⟨b, 0, none⟩ = some x) (c1 : W3.cell? ⟨b, 1, none⟩ = some y) :
    b < W3.heap.size ∧ Below W3.heap.size W3 (W3.drew.alloc o) ∧ (W3.drew.alloc o).cell? ⟨b, 0, none⟩ = some x ∧ (W3.drew.alloc o).cell? ⟨b, 1, none⟩ = some y := back_keep3 (back_keep0 hl c0 c1)
theorem back_keep5 {W3 W : World} {b c : Nat} {x y u v : Value} (hc : W3.heap.size ≤ c) (h : b < W3.heap.size ∧ Below W3.heap.size W3 W ∧ W.cell? ⟨b, 0, none⟩ = some x ∧ W.cell? ⟨b, 1, none⟩ = some y) :
    b < W3.heap.size ∧ Below W3.heap.size W3 ((W.setCell ⟨c, 0, none⟩ u).setCell ⟨c, 1, none⟩ v) ∧ ((W.setCell ⟨c, 0, none⟩ u).setCell ⟨c, 1, none⟩ v).cell? ⟨b, 0, none⟩ = some x ∧ ((W.setCell ⟨c, 0, none⟩ u).setCell ⟨c, 1, none⟩ v).cell? ⟨b, 1, none⟩ = some y := by
  obtain ⟨hl, hb, c0, c1⟩ := h
  have hB : Below W3.heap.size W3 ((W.setCell ⟨c, 0, none⟩ u).setCell ⟨c, 1, none⟩ v) := (hb.setCell (p := ⟨c, 0, none⟩) hc _).setCell (p := ⟨c, 1, none⟩) hc _
  exact ⟨hl, hB, (hB.cell (p := ⟨b, 0, none⟩) hl).trans ((hb.cell (p := ⟨b, 0, none⟩) hl).symm.trans c0), (hB.cell (p := ⟨b, 1, none⟩) hl).trans ((hb.cell (p := ⟨b, 1, none⟩) hl).symm.trans c1)⟩
theorem back_keep6 {W3 W : World} {b : Nat} {x y : Value} {o1 o2 : Obj} (hs : W3.heap.size ≤ W.heap.size) (h : b < W3.heap.size ∧ Below W3.heap.size W3 (W.alloc o1) ∧ (W.alloc o1).cell? ⟨b, 0, none⟩ = some x ∧ (W.alloc o1).cell? ⟨b, 1, none⟩ = some y) :
    b < W3.heap.size ∧ Below W3.heap.size W3 (W.alloc o2) ∧ (W.alloc o2).cell? ⟨b, 0, none⟩ = some x ∧ (W.alloc o2).cell? ⟨b, 1, none⟩ = some y := by
  obtain ⟨hl, hb, c0, c1⟩ := h
  have e1 : ∀ k, k < W.heap.size → (W.alloc o1).heap[k]? = W.heap[k]? := fun k hk => Below.heap_alloc _ _ _ hk
  have e2 : ∀ k, k < W.heap.size → (W.alloc o2).heap[k]? = W.heap[k]? := fun k hk => Below.heap_alloc _ _ _ hk
  have hB : Below W3.heap.size W3 (W.alloc o2) := ⟨hb.os, hb.tape, hb.output, by simp; omega, fun k hk => (e2 k (by omega)).trans ((e1 k (by omega)).symm.trans (hb.block k hk))⟩
  exact ⟨hl, hB, (hB.cell (p := ⟨b, 0, none⟩) hl).trans ((hb.cell (p := ⟨b, 0, none⟩) hl).symm.trans c0), (hB.cell (p := ⟨b, 1, none⟩) hl).trans ((hb.cell (p := ⟨b, 1, none⟩) hl).symm.trans c1)⟩

set_option maxRecDepth 100000 in
set_option maxHeartbeats 8000000 in
theorem fieldsBack_walk (n v : ByteArray) (g : UInt8) (w : World) (hE : EnvF w) :
    Calls Tryz.prog 5 #[.agg #[.string n, .string v], .int .u8 (g.toNat : Int)] w fun e w' => e = .returned (.bool true) ∧ Below w.heap.size w w' := by
  have HE := Lib.hid hE
  clear hE
  have hb0 := below_new w (.cells #[.string n, .string v] 23)
  have HE0 := Lib.hid (HE.out.below hb0)
  obtain ⟨l0, k0, k1⟩ := Two2.new w (.string n) (.string v) 23
  cases hlong : longF (n.data.toList, v.data.toList) with
  | true =>
    have hov := Lib.hid (fun w b t h => over_one n v w b t h true hlong)
    clear hlong
    go_enter Tryz.func5, Tryz.ntmps5
    go_wp2_with fail
    refine (hov.out _ _ _ (heap_alloc2 _ _ _)).mono ?_
    rintro e w' ⟨rfl, rfl⟩
    go_wp2_with fail
    refine (awake22 _ (HE0.out.below (below_new _ _))).mono ?_
    rintro e w1 ⟨rfl, hb⟩
    go_wp2_with fail
    go_ret
    exact ⟨rfl, bstep hb0 (bstep (below_new _ _) hb)⟩
  | false =>
    have hsz := longF_false n v hlong
    have hov := Lib.hid (fun w b t h => over_one n v w b t h false hlong)
    clear hlong
    have hA := fun w => fields_print n v w (by omega) (by omega)
    by_cases hF : fieldE n.data.toList v.data.toList = 0
    · obtain ⟨hok, hlen⟩ := fieldE_zero _ _ hF
      obtain ⟨o1, o2, o3⟩ := printOk_and _ _ hok
      obtain ⟨n1, n2, n3⟩ := nameL_all _ o1
      have hS0 : fieldS n.data.toList v.data.toList = printL n.data.toList v.data.toList := if_pos hF
      have hput := print_put _ _ hF
      have hpp := print_parse _ _ hok
      obtain ⟨S, hS⟩ : ∃ S, S = bs (printL n.data.toList v.data.toList) := ⟨_, rfl⟩
      have hSd : S.data.toList = printL n.data.toList v.data.toList := by rw [hS, bs_data]
      have hSs : S.size ≤ 256 := by rw [← size_len, hSd]; omega
      rw [hS0, hF, ← hS] at hA
      have hPut := fun w => lines_put S w (by omega)
      rw [hSd, hput] at hPut
      obtain ⟨PL, hPL⟩ : ∃ PL, PL = putLine S := ⟨_, rfl⟩
      rw [← hPL] at hPut
      have hP := fun w hE => parse_at S n v 0 (by rw [hSd]; exact hpp) w (by omega) hE
      obtain ⟨k1', hk1⟩ : ∃ k, k = g.toNat % 4 := ⟨_, rfl⟩
      obtain ⟨k2', hk2⟩ : ∃ k, k = g.toNat / 4 % 4 := ⟨_, rfl⟩
      obtain ⟨k3', hk3⟩ : ∃ k, k = g.toNat / 16 % 4 := ⟨_, rfl⟩
      have gl := great_parse _ _ hok k1' k2' k3'
      obtain ⟨U, hU⟩ : ∃ U, U = bs (n.data.toList.map greatB) := ⟨_, rfl⟩
      obtain ⟨R1, hR1⟩ : ∃ R, R = bs (List.replicate k1' 32) := ⟨_, rfl⟩
      obtain ⟨R2, hR2⟩ : ∃ R, R = bs (List.replicate k2' 9) := ⟨_, rfl⟩
      obtain ⟨R3, hR3⟩ : ∃ R, R = bs (List.replicate k3' 32) := ⟨_, rfl⟩
      have z1 : R1.size ≤ 4 := by rw [hR1, bs_size, List.length_replicate]; omega
      have z2 : R2.size ≤ 4 := by rw [hR2, bs_size, List.length_replicate]; omega
      have z3 : R3.size ≤ 4 := by rw [hR3, bs_size, List.length_replicate]; omega
      have zU : U.size ≤ 400 := by rw [hU, bs_size, List.length_map, size_len]; omega
      have hline : (U ++ ⟨#[58]⟩ ++ R1 ++ R2 ++ v ++ R3).data.toList = greatLine n.data.toList v.data.toList k1' k2' k3' := by
        rw [data_cat, data_cat, data_cat, data_cat, data_cat, hU, hR1, hR2, hR3, bs_data, bs_data, bs_data, bs_data]
        unfold greatLine
        simp
      have hG := fun w hE => parse_at (U ++ ⟨#[58]⟩ ++ R1 ++ R2 ++ v ++ R3) n v 0 (by rw [hline]; exact gl) w (by
        rw [ByteArray.size_append, ByteArray.size_append, ByteArray.size_append, ByteArray.size_append, ByteArray.size_append]
        show U.size + 1 + R1.size + R2.size + v.size + R3.size ≤ _
        omega) hE
      have hUp := fun w => c_upper n w (by omega) n1
      have hr1 := fun w => c_repeat 32 k1' w (by omega)
      have hr2 := fun w => c_repeat 9 k2' w (by omega)
      have hr3 := fun w => c_repeat 32 k3' w (by omega)
      rw [← hU] at hUp
      rw [← hR1] at hr1
      rw [← hR2] at hr2
      rw [← hR3] at hr3
      have HA := Lib.hid hA
      have HPut := Lib.hid hPut
      have HP := Lib.hid hP
      have HG := Lib.hid hG
      have HUp := Lib.hid hUp
      have Hr1 := Lib.hid hr1
      have Hr2 := Lib.hid hr2
      have Hr3 := Lib.hid hr3
      have q1 : U.size + 1 ≤ 9223372036854775807 := by omega
      have q2 : U.size + 1 + R1.size ≤ 9223372036854775807 := by omega
      have q3 : U.size + 1 + R1.size + R2.size ≤ 9223372036854775807 := by omega
      have q4 : U.size + 1 + R1.size + R2.size + v.size ≤ 9223372036854775807 := by omega
      have q5 : U.size + 1 + R1.size + R2.size + v.size + R3.size ≤ 9223372036854775807 := by omega
      have zz : ∀ X Y : ByteArray, (X ++ Y).size = X.size + Y.size := fun X Y => ByteArray.size_append
      have zc : (ByteArray.mk #[58]).size = 1 := rfl
      have gb := g.toNat_lt
      have heq := eq_field n v n v
      have hgd := guard_field
      have p1 := fun w => run_string_add_sum (P := Tryz.prog) w U ⟨#[58]⟩ (by omega)
      have p2 := fun w => run_string_add_sum (P := Tryz.prog) w (U ++ ⟨#[58]⟩) R1 (by rw [zz]; omega)
      have p3 := fun w => run_string_add_sum (P := Tryz.prog) w (U ++ ⟨#[58]⟩ ++ R1) R2 (by rw [zz, zz]; omega)
      have p4 := fun w => run_string_add_sum (P := Tryz.prog) w (U ++ ⟨#[58]⟩ ++ R1 ++ R2) v (by rw [zz, zz, zz]; omega)
      have p5 := fun w => run_string_add_sum (P := Tryz.prog) w (U ++ ⟨#[58]⟩ ++ R1 ++ R2 ++ v) R3 (by rw [zz, zz, zz, zz]; omega)
      clear zz zc q1 q2 q3 q4 q5
      have m1 : IntKind.i64.wrap ((g.toNat : Int).tmod 4) = (k1' : Int) := by
        rw [Int.tmod_eq_emod_of_nonneg (by omega), IntWalk.i64_in _ (by omega)]; omega
      have m2 : IntKind.i64.wrap ((IntKind.u8.wrap ((g.toNat : Int) / 4)).tmod 4) = (k2' : Int) := by
        rw [show IntKind.u8.wrap ((g.toNat : Int) / 4) = (g.toNat : Int) / 4 from IntWalk.u8_in _ (by omega), Int.tmod_eq_emod_of_nonneg (by omega), IntWalk.i64_in _ (by omega)]; omega
      have m3 : IntKind.i64.wrap ((IntKind.u8.wrap ((g.toNat : Int) / 16)).tmod 4) = (k3' : Int) := by
        rw [show IntKind.u8.wrap ((g.toNat : Int) / 16) = (g.toNat : Int) / 16 from IntWalk.u8_in _ (by omega), Int.tmod_eq_emod_of_nonneg (by omega), IntWalk.i64_in _ (by omega)]; omega
      have HK := Lib.hid (And.intro hk1 (And.intro hk2 hk3))
      clear hA hPut hP hG hUp hr1 hr2 hr3 hline gl hpp hput hS hSd hS0 hF hok hlen o1 o2 o3 n1 n2 n3 hU hR1 hR2 hR3 hPL hk1 hk2 hk3
      go_enter Tryz.func5, Tryz.ntmps5
      go_wp2_with fail
      refine (hov.out _ _ _ (heap_alloc2 _ _ _)).mono ?_
      rintro e w' ⟨rfl, rfl⟩
      have HE1 := Lib.hid (HE0.out.below (below_new _ (.cells #[.string n, .string v] 23)))
      have hb1 := bstep hb0 (below_new _ (.cells #[.string n, .string v] 23))
      have T2 := (Two2.new w (.string n) (.string v) 23).alloc (.cells #[.string n, .string v] 23)
      generalize hW1 : (w.alloc (.cells #[.string n, .string v] 23)).alloc (.cells #[.string n, .string v] 23) = W1 at HE1 hb1 T2 ⊢
      clear hW1 k0 k1 l0 hov
      obtain ⟨l2, k0, k1⟩ := T2
      go_wp2_with fail
      refine (HA.out _).mono ?_
      rintro e w2 ⟨rfl, g2⟩
      have T2 := (Two2.alloc ⟨l2, k0, k1⟩ _).below g2
      have T5 := (Two2.new W1 _ _ _).below g2
      have HE2 := Lib.hid ((HE1.out.below (below_new _ _)).below g2)
      have hb2 := bstep hb1 (bstep (below_new _ _) g2)
      clear g2 HE1 hb1 k0 k1 l2
      go_wp2_with fail
      refine (HPut.out _).mono ?_
      rintro e w' ⟨rfl, rfl⟩
      go_wp2_with fail
      refine (HP.out _ HE2.out).mono ?_
      rintro e w3 ⟨rfl, g3⟩
      have T2 := (T2.below g3).alloc (.cells #[.string n, .string v] 27)
      have T5 := (T5.below g3).alloc (.cells #[.string n, .string v] 27)
      have T10 := Two2.new w3 (.string n) (.string v) 27
      have HE3 := Lib.hid ((HE2.out.below g3).below (below_new _ (.cells #[.string n, .string v] 27)))
      have hb3 := bstep hb2 (bstep g3 (below_new _ (.cells #[.string n, .string v] 27)))
      clear g3 HE2 hb2
      go_wp2_with fail
      generalize hW3 : (w3.alloc (.cells #[.string n, .string v] 27)) = W3 at HE3 hb3 T2 T5 T10 ⊢
      clear hW3
      obtain ⟨l2, k0, k1⟩ := T2
      have hE3 := HE3.out
      have hRf : Below W3.heap.size W3 W3 := Below.refl _ _
      have hsd : W3.heap.size ≤ W3.drew.heap.size := Nat.le_refl _
      go_region_held3 (fun W => w.heap.size < W3.heap.size ∧ Below W3.heap.size W3 W ∧ W.cell? ⟨w.heap.size, 0, none⟩ = some (.string n) ∧ W.cell? ⟨w.heap.size, 1, none⟩ = some (.string v)) (first
          | exact back_keep0 l2 k0 k1
          | exact back_keep1 l2 k0 k1 (bstep hRf.drew hbx)
          | (refine back_keep2 ?_ hbx; assumption)
          | (refine back_keep3 ?_; assumption)
          | exact back_keep4 l2 k0 k1
          | (refine back_keep6 (o1 := .cells #[.string ⟨#[]⟩, .string ⟨#[]⟩] 27) ?_ ?_; omega; assumption)
          | (refine back_keep5 ?_ ?_; omega; assumption)
          | assumption)
        (first
          | (go_at_call 16; refine (HUp.out _).mono ?_; rintro e wx ⟨rfl, hbx⟩; obtain ⟨hcx, hfx⟩ := bcell hbx; have hsx := hbx.size; (first | (have hu := Nat.lt_of_lt_of_le hu hbx.size) | (have hu : W3.heap.size < wx.heap.size := Nat.lt_of_lt_of_le (lt_alloc W3.drew _) hbx.size) | (have hu := Nat.lt_of_lt_of_le (lt_alloc _ _) hbx.size) | skip))
          | (go_at_call 17; ((with_reducible refine (Hr1.out _).mono ?_); rintro e wx ⟨rfl, hbx⟩; obtain ⟨hcx, hfx⟩ := bcell hbx; have hsx := hbx.size; (first | (have hu := Nat.lt_of_lt_of_le hu hbx.size) | (have hu : W3.heap.size < wx.heap.size := Nat.lt_of_lt_of_le (lt_alloc W3.drew _) hbx.size) | (have hu := Nat.lt_of_lt_of_le (lt_alloc _ _) hbx.size) | skip)))
          | (go_at_call 17; ((with_reducible refine (Hr2.out _).mono ?_); rintro e wx ⟨rfl, hbx⟩; obtain ⟨hcx, hfx⟩ := bcell hbx; have hsx := hbx.size; (first | (have hu := Nat.lt_of_lt_of_le hu hbx.size) | (have hu : W3.heap.size < wx.heap.size := Nat.lt_of_lt_of_le (lt_alloc W3.drew _) hbx.size) | (have hu := Nat.lt_of_lt_of_le (lt_alloc _ _) hbx.size) | skip)))
          | (go_at_call 17; ((with_reducible refine (Hr3.out _).mono ?_); rintro e wx ⟨rfl, hbx⟩; obtain ⟨hcx, hfx⟩ := bcell hbx; have hsx := hbx.size; (first | (have hu := Nat.lt_of_lt_of_le hu hbx.size) | (have hu : W3.heap.size < wx.heap.size := Nat.lt_of_lt_of_le (lt_alloc W3.drew _) hbx.size) | (have hu := Nat.lt_of_lt_of_le (lt_alloc _ _) hbx.size) | skip)))
          | (go_at_call 8; refine (HG.out _ (back_env (b := w.heap.size) (x := .string n) (y := .string v) hE3 ?_)).mono ?_; assumption; rintro e wx ⟨rfl, hbx⟩; obtain ⟨hcx, hfx⟩ := bcell hbx; have hsx := hbx.size; (first | (have hu := Nat.lt_of_lt_of_le hu hbx.size) | (have hu : W3.heap.size < wx.heap.size := Nat.lt_of_lt_of_le (lt_alloc W3.drew _) hbx.size) | (have hu := Nat.lt_of_lt_of_le (lt_alloc _ _) hbx.size) | skip)))
      all_goals
        rename w.heap.size < W3.heap.size ∧ Below W3.heap.size W3 _ ∧ _ ∧ _ => hH
        obtain ⟨_, hbf, _, _⟩ := hH
        obtain ⟨l5, p0, p1⟩ := T5.below hbf
        obtain ⟨l10, q0, q1⟩ := T10.below hbf
        have HE4 := Lib.hid (HE3.out.below hbf)
        have hb4 := Lib.hid (bstep hb3 hbf)
        go_wp2_with fail
        refine (awake22 _ HE4.out).mono ?_
        rintro e w5 ⟨rfl, g5⟩
        go_wp2_with fail
        go_ret
        exact ⟨rfl, bstep hb4.out g5⟩
    · have hbad : fieldS n.data.toList v.data.toList = [] := if_neg hF
      have hcs : fieldE n.data.toList v.data.toList = 4 ∨ fieldE n.data.toList v.data.toList = 5 := by
        unfold fieldE at hF ⊢
        split
        · rename_i h; rw [if_pos h] at hF
          split
          · exact .inr rfl
          · rename_i h2; rw [if_neg h2] at hF; exact absurd rfl hF
        · exact .inl rfl
      rw [hbad] at hA
      have ebs : (bs []).toList = [] := by rw [ByteArray.toList_eq]; rfl
      clear hbad hF
      rcases hcs with hc | hc
      all_goals
        rw [hc] at hA
        have HA := Lib.hid hA
        clear hA hc
        go_enter Tryz.func5, Tryz.ntmps5
        go_wp2_with fail
        refine (hov.out _ _ _ (heap_alloc2 _ _ _)).mono ?_
        rintro e w' ⟨rfl, rfl⟩
        have HE1 := Lib.hid (HE0.out.below (below_new _ (.cells #[.string n, .string v] 23)))
        have hb1 := bstep hb0 (below_new _ (.cells #[.string n, .string v] 23))
        have T2 := (Two2.new w (.string n) (.string v) 23).alloc (.cells #[.string n, .string v] 23)
        generalize hW1 : (w.alloc (.cells #[.string n, .string v] 23)).alloc (.cells #[.string n, .string v] 23) = W1 at HE1 hb1 T2 ⊢
        clear hW1 k0 k1 l0 hov
        obtain ⟨l2, k0, k1⟩ := T2
        go_wp2_with fail
        refine (HA.out _).mono ?_
        rintro e w2 ⟨rfl, g2⟩
        have HE2 := Lib.hid ((HE1.out.below (below_new _ _)).below g2)
        have hb2 := bstep hb1 (bstep (below_new _ _) g2)
        go_wp2_with fail
        refine (awake22 _ HE2.out).mono ?_
        rintro e w5 ⟨rfl, g5⟩
        go_wp2_with fail
        go_ret
        exact ⟨rfl, bstep hb2 g5⟩
end Go.Proofs.YtnfadmdndefanaaGreatDoor
