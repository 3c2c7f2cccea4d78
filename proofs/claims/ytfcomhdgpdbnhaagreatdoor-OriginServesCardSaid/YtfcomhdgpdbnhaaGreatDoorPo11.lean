/- What the reference of origin returns. The small example of the laws of layer 27. The law OriginTells. Plain words on feeds: what is taken off bytes, whatever the pieces (no program in sight). The law function ReplyLays. The law function ReplyTakes. The law function ReplyBack. Plain words on connections: what is answered to bytes, whatever the pieces (no program in sight). The law OriginOnly. -/
import Derived.Test.YtfcomhdgpdbnhaaGreatDoorPo10
import Derived.Deep.RegionHeld3
set_option linter.unusedVariables false
namespace Go.Proofs.YtfcomhdgpdbnhaaGreatDoor
open Go.RowKit
theorem below_ro3 (w : World) (x y z : Value) : Below w.heap.size w (w.alloc (.cells #[x, y, z] 23)) := (Below.refl _ _).alloc (Nat.le_refl _) _
set_option maxRecDepth 100000 in
set_option maxHeartbeats 1000000 in
theorem ref_ocheck (h p f : ByteArray) (w : World) (hh : h.size ≤ 9223372036854775807) (hp : p.size ≤ 9223372036854775807) :
    Calls Tryz.prog 9 #[.agg #[.string h, .string p, .string f]] w fun e w' => e = .returned (.int .i64 (orgE h.data.toList p.data.toList : Nat)) ∧ Below w.heap.size w w' := by
  have HP := Lib.hid (fun w => ref_path p w hp)
  have HH := Lib.hid (fun w => ref_host h w hh)
  obtain ⟨x0, x1, x2⟩ := box3 w (.string h) (.string p) (.string f) 23
  have HB0 := Lib.hid (below_ro3 w (.string h) (.string p) (.string f))
  obtain ⟨P, hP⟩ : ∃ P, pathB p.data.toList = P := ⟨_, rfl⟩
  obtain ⟨H, hH⟩ : ∃ H, hostB h.data.toList = H := ⟨_, rfl⟩
  have HR : Hid (orgE h.data.toList p.data.toList = if P = false ∨ H = false then 2 else 0) := Lib.hid (by unfold orgE; rw [hP, hH])
  rw [hP] at HP
  rw [hH] at HH
  clear hP hH hh hp
  cases P
  · go_enter Tryz.func9, Tryz.ntmps9
    go_wp2_with fail
    refine (HP.out _).mono ?_
    rintro e w' ⟨rfl, hww⟩
    obtain rfl := hww.symm
    go_wp2_with fail
    go_ret
    exact ⟨by rw [HR.out]; rfl, HB0.out⟩
  · cases H
    all_goals
      go_enter Tryz.func9, Tryz.ntmps9
      go_wp2_with fail
      refine (HP.out _).mono ?_
      rintro e w' ⟨rfl, hww⟩
      obtain rfl := hww.symm
      go_wp2_with fail
      refine (HH.out _).mono ?_
      rintro e w' ⟨rfl, hww⟩
      obtain rfl := hww.symm
      go_wp2_with fail
      go_ret
      exact ⟨by rw [HR.out]; rfl, HB0.out⟩
def overO (h p f : List UInt8) (most : Int) : Bool := decide (300 < h.length) || decide (300 < p.length) || decide (most < (f.length : Int))
set_option maxRecDepth 100000 in
set_option maxHeartbeats 1000000 in
theorem ref_oover (h p f : ByteArray) (m : Int) (w : World) :
    Calls Tryz.prog 6 #[.agg #[.string h, .string p, .string f], .int .i64 m] w fun e w' => e = .returned (.bool (overO h.data.toList p.data.toList f.data.toList m)) ∧ Below w.heap.size w w' := by
  obtain ⟨x0, x1, x2⟩ := box3 w (.string h) (.string p) (.string f) 23
  have HB0 := Lib.hid (below_ro3 w (.string h) (.string p) (.string f))
  obtain ⟨A, hA⟩ : ∃ A, decide (300 < h.size) = A := ⟨_, rfl⟩
  obtain ⟨B, hB⟩ : ∃ B, decide (300 < p.size) = B := ⟨_, rfl⟩
  obtain ⟨C, hC⟩ : ∃ C, decide (m < (f.size : Int)) = C := ⟨_, rfl⟩
  have HR : Hid (overO h.data.toList p.data.toList f.data.toList m = (A || B || C)) := Lib.hid (by unfold overO; rw [size_len, size_len, size_len, hA, hB, hC])
  have tA : decide ((h.size : Int) > 300) = A := by rw [← hA]; exact decide_eq_decide.2 (by omega)
  have tB : decide ((p.size : Int) > 300) = B := by rw [← hB]; exact decide_eq_decide.2 (by omega)
  have tC : decide ((f.size : Int) > m) = C := hC
  clear hA hB hC
  cases A
  · cases B
    all_goals
      go_enter Tryz.func6, Tryz.ntmps6
      go_wp2_with fail
      go_ret
      exact ⟨by rw [HR.out]; rfl, HB0.out⟩
  · go_enter Tryz.func6, Tryz.ntmps6
    go_wp2_with fail
    go_ret
    exact ⟨by rw [HR.out]; rfl, HB0.out⟩
set_option maxRecDepth 100000 in
set_option maxHeartbeats 8000000 in
theorem ref_oanswer (h p f s : ByteArray) (w : World) (hs : s.size ≤ 1000000) (hf : f.size ≤ 1000000) :
    Calls Tryz.prog 24 #[.agg #[.string h, .string p, .string f], .string s] w (PartPost (orgC h.data.toList p.data.toList f.data.toList s) (orgF h.data.toList p.data.toList f.data.toList s) (bs (orgY h.data.toList p.data.toList f.data.toList s)) 104 w) := by
  have HA := Lib.hid (fun w => ref_aparse s w hs)
  have hB0 := bstep (below_ro3 w (.string h) (.string p) (.string f)) (below_agg3 _ (.int .i64 0) (.slice none 0 0) (.string ⟨#[]⟩) 62)
  have HB0 := Lib.hid hB0
  have HK0 := Lib.hid (heap_alloc2_new w (.cells #[.string h, .string p, .string f] 23) (.cells #[.int .i64 0, .slice none 0 0, .string ⟨#[]⟩] 62))
  have HP0 := Lib.hid (((below_agg3 (w.alloc (.cells #[.string h, .string p, .string f] 23)) (.int .i64 0) (.slice none 0 0) (.string ⟨#[]⟩) 62).block w.heap.size (by simp)).trans (heap_alloc_new w _))
  have HSZ : Hid (((w.alloc (.cells #[.string h, .string p, .string f] 23)).alloc (.cells #[.int .i64 0, .slice none 0 0, .string ⟨#[]⟩] 62)).heap.size = w.heap.size + 1 + 1) := Lib.hid (by simp)
  unfold askV at HA
  obtain ⟨F, hF⟩ : ∃ F, orgF h.data.toList p.data.toList f.data.toList s = F := ⟨_, rfl⟩
  obtain ⟨Y, hY⟩ : ∃ Y, bs (orgY h.data.toList p.data.toList f.data.toList s) = Y := ⟨_, rfl⟩
  have hoth := orgF_other h.data.toList p.data.toList f.data.toList s
  have hprt := org_part h.data.toList p.data.toList f.data.toList s
  unfold orgA orgB at hprt
  obtain ⟨P, hP⟩ : ∃ P, bs (askPath s) = P := ⟨_, rfl⟩
  obtain ⟨Q, hQ⟩ : ∃ Q, bs (askHost s) = Q := ⟨_, rfl⟩
  obtain ⟨a, ha⟩ : ∃ a, askA s = a := ⟨_, rfl⟩
  obtain ⟨b, hb⟩ : ∃ b, askB s = b := ⟨_, rfl⟩
  obtain ⟨n, hn⟩ : ∃ n, askN s = n := ⟨_, rfl⟩
  obtain ⟨E, hE1⟩ : ∃ E, askE s = E := ⟨_, rfl⟩
  have hPd : askPath s = P.data.toList := by rw [← hP, bs_data]
  have hQd : askHost s = Q.data.toList := by rw [← hQ, bs_data]
  obtain ⟨C, hC⟩ : ∃ C, orgC h.data.toList p.data.toList f.data.toList s = C := ⟨_, rfl⟩
  have hCC : C = if E ≠ 0 ∨ n < (s.size : Int) then 400 else if P.data.toList ≠ p.data.toList ∨ Q.data.toList ≠ h.data.toList then 404 else if clipE a b (f.size : Int) ≠ 0 then 416 else 206 := by
    rw [← hC]; unfold orgC; rw [hE1, hn, hPd, hQd, ha, hb, size_len]
  rw [hC, hF] at hoth
  rw [hC, hF, ha, hb, size_len] at hprt
  have HO : Hid (C ≠ 206 → F = [] ∧ Y = ⟨#[]⟩) := Lib.hid (fun e => ⟨(hoth e).1, by rw [← hY, (hoth e).2]; rfl⟩)
  have HPR : Hid (C = 206 → 0 ≤ clipA a b (f.size : Int) ∧ clipA a b (f.size : Int) ≤ clipB a b (f.size : Int) ∧ clipB a b (f.size : Int) < (f.size : Int) ∧ F = [(crangeK, toldL (clipA a b (f.size : Int)) (clipB a b (f.size : Int)) (f.size : Int))] ∧ Y = f.extract (clipA a b (f.size : Int)).toNat (clipB a b (f.size : Int) + 1).toNat) := Lib.hid (fun e => by
    obtain ⟨g1, g2, g3, g4, g5⟩ := hprt e hf
    exact ⟨g1, g2, g3, g4, by rw [← hY, g5, extract_bs]⟩)
  rw [hC, hF, hY]
  rw [hP, hQ, ha, hb, hn, hE1] at HA
  have HCC := Lib.hid hCC
  clear hP hQ hPd hQd hC hCC hF hY hoth hprt hB0
  by_cases h1 : E = 0
  case neg =>
    have hR : C = 400 := by rw [HCC.out, if_pos (.inl h1)]
    have HR : Hid (C = 400 ∧ F = [] ∧ Y = ⟨#[]⟩) := Lib.hid ⟨hR, HO.out (by rw [hR]; decide)⟩
    have tz : ((E : Int) != 0) = true := by rw [bne_iff_ne]; omega
    clear h1 hE1 hn ha hb hR
    go_enter Tryz.func24, Tryz.ntmps24
    go_wp2_with fail
    generalize ((w.alloc (.cells #[.string h, .string p, .string f] 23)).alloc (.cells #[.int .i64 0, .slice none 0 0, .string ⟨#[]⟩] 62)) = W0 at HB0 HP0 HK0 HSZ ⊢
    refine (HA.out _).mono ?_
    rintro e w1 ⟨rfl, hb1⟩
    have hp1 := (hb1.block w.heap.size (by have := HSZ.out; omega)).trans HP0.out
    have hk1 := (hb1.block (w.heap.size + 1) (by have := HSZ.out; omega)).trans HK0.out
    have HB1 := Lib.hid (bstep HB0.out hb1)
    have hs0 : w.heap.size + 1 < w1.heap.size := by have := hb1.size; have := HSZ.out; omega
    have hs1 : w.heap.size < w1.heap.size := by omega
    obtain ⟨o0, o1, o2, -, -, -⟩ := three_facts hp1
    obtain ⟨r0, r1, r2, f0, f1, f2⟩ := three_facts hk1
    have HP1 := Lib.hid hp1
    have HK1 := Lib.hid hk1
    obtain ⟨q0, q1, q2, q3⟩ := box4 w1 (.string P) (.string Q) (.int .i64 a) (.int .i64 b) 107
    clear hp1 hk1 hb1 HP0 HK0
    go_wp2_with fail
    refine ret_cell (A := ⟨w.heap.size + 1, 0, none⟩) rfl (load_rrep _ _ _ _ _ _ ((heap_alloc_old _ _ (by simp; omega)).trans (three_set HK1.out _ _ _))) rfl rfl ?_
    rw [HR.out.1, HR.out.2.1, HR.out.2.2]
    exact ⟨none, 0, rfl, ⟨0, World.ownsRow_nil _ _ _ _⟩, (three_below HB1.out _ (by omega) _ _ _).alloc (by have := HB1.out.size; simp; omega) _⟩
  subst h1
  by_cases h2 : n < (s.size : Int)
  · have hR : C = 400 := by rw [HCC.out, if_pos (.inr h2)]
    have HR : Hid (C = 400 ∧ F = [] ∧ Y = ⟨#[]⟩) := Lib.hid ⟨hR, HO.out (by rw [hR]; decide)⟩
    have t2 : decide (n < (s.size : Int)) = true := decide_eq_true h2
    clear h2 hE1 hn ha hb hR
    go_enter Tryz.func24, Tryz.ntmps24
    go_wp2_with fail
    generalize ((w.alloc (.cells #[.string h, .string p, .string f] 23)).alloc (.cells #[.int .i64 0, .slice none 0 0, .string ⟨#[]⟩] 62)) = W0 at HB0 HP0 HK0 HSZ ⊢
    refine (HA.out _).mono ?_
    rintro e w1 ⟨rfl, hb1⟩
    have hp1 := (hb1.block w.heap.size (by have := HSZ.out; omega)).trans HP0.out
    have hk1 := (hb1.block (w.heap.size + 1) (by have := HSZ.out; omega)).trans HK0.out
    have HB1 := Lib.hid (bstep HB0.out hb1)
    have hs0 : w.heap.size + 1 < w1.heap.size := by have := hb1.size; have := HSZ.out; omega
    have hs1 : w.heap.size < w1.heap.size := by omega
    obtain ⟨o0, o1, o2, -, -, -⟩ := three_facts hp1
    obtain ⟨r0, r1, r2, f0, f1, f2⟩ := three_facts hk1
    have HP1 := Lib.hid hp1
    have HK1 := Lib.hid hk1
    obtain ⟨q0, q1, q2, q3⟩ := box4 w1 (.string P) (.string Q) (.int .i64 a) (.int .i64 b) 107
    clear hp1 hk1 hb1 HP0 HK0
    go_wp2_with fail
    refine ret_cell (A := ⟨w.heap.size + 1, 0, none⟩) rfl (load_rrep _ _ _ _ _ _ ((heap_alloc_old _ _ (by simp; omega)).trans (three_set HK1.out _ _ _))) rfl rfl ?_
    rw [HR.out.1, HR.out.2.1, HR.out.2.2]
    exact ⟨none, 0, rfl, ⟨0, World.ownsRow_nil _ _ _ _⟩, (three_below HB1.out _ (by omega) _ _ _).alloc (by have := HB1.out.size; simp; omega) _⟩
  have t2 : decide (n < (s.size : Int)) = false := decide_eq_false h2
  by_cases h3 : P.data.toList = p.data.toList
  case neg =>
    have hR : C = 404 := by rw [HCC.out, if_neg (fun e => e.elim (fun e => e rfl) h2), if_pos (.inl h3)]
    have HR : Hid (C = 404 ∧ F = [] ∧ Y = ⟨#[]⟩) := Lib.hid ⟨hR, HO.out (by rw [hR]; decide)⟩
    have t3 : ¬ P.toList = p.toList := by rw [ByteArray.toList_eq, ByteArray.toList_eq]; exact h3
    clear h2 h3 hE1 hn ha hb hR
    go_enter Tryz.func24, Tryz.ntmps24
    go_wp2_with fail
    generalize ((w.alloc (.cells #[.string h, .string p, .string f] 23)).alloc (.cells #[.int .i64 0, .slice none 0 0, .string ⟨#[]⟩] 62)) = W0 at HB0 HP0 HK0 HSZ ⊢
    refine (HA.out _).mono ?_
    rintro e w1 ⟨rfl, hb1⟩
    have hp1 := (hb1.block w.heap.size (by have := HSZ.out; omega)).trans HP0.out
    have hk1 := (hb1.block (w.heap.size + 1) (by have := HSZ.out; omega)).trans HK0.out
    have HB1 := Lib.hid (bstep HB0.out hb1)
    have hs0 : w.heap.size + 1 < w1.heap.size := by have := hb1.size; have := HSZ.out; omega
    have hs1 : w.heap.size < w1.heap.size := by omega
    obtain ⟨o0, o1, o2, -, -, -⟩ := three_facts hp1
    obtain ⟨r0, r1, r2, f0, f1, f2⟩ := three_facts hk1
    have HP1 := Lib.hid hp1
    have HK1 := Lib.hid hk1
    obtain ⟨q0, q1, q2, q3⟩ := box4 w1 (.string P) (.string Q) (.int .i64 a) (.int .i64 b) 107
    clear hp1 hk1 hb1 HP0 HK0
    go_wp2_with fail
    refine ret_cell (A := ⟨w.heap.size + 1, 0, none⟩) rfl (load_rrep _ _ _ _ _ _ ((heap_alloc_old _ _ (by simp; omega)).trans (three_set HK1.out _ _ _))) rfl rfl ?_
    rw [HR.out.1, HR.out.2.1, HR.out.2.2]
    exact ⟨none, 0, rfl, ⟨0, World.ownsRow_nil _ _ _ _⟩, (three_below HB1.out _ (by omega) _ _ _).alloc (by have := HB1.out.size; simp; omega) _⟩
  have t3 : P.toList = p.toList := by rw [ByteArray.toList_eq, ByteArray.toList_eq]; exact h3
  by_cases h4 : Q.data.toList = h.data.toList
  case neg =>
    have hR : C = 404 := by rw [HCC.out, if_neg (fun e => e.elim (fun e => e rfl) h2), if_pos (.inr h4)]
    have HR : Hid (C = 404 ∧ F = [] ∧ Y = ⟨#[]⟩) := Lib.hid ⟨hR, HO.out (by rw [hR]; decide)⟩
    have t4 : ¬ Q.toList = h.toList := by rw [ByteArray.toList_eq, ByteArray.toList_eq]; exact h4
    have t4b : (Q.toList == h.toList) = false := by rw [beq_eq_false_iff_ne]; exact t4
    clear h2 h3 h4 hE1 hn ha hb hR
    go_enter Tryz.func24, Tryz.ntmps24
    go_wp2_with fail
    generalize ((w.alloc (.cells #[.string h, .string p, .string f] 23)).alloc (.cells #[.int .i64 0, .slice none 0 0, .string ⟨#[]⟩] 62)) = W0 at HB0 HP0 HK0 HSZ ⊢
    refine (HA.out _).mono ?_
    rintro e w1 ⟨rfl, hb1⟩
    have hp1 := (hb1.block w.heap.size (by have := HSZ.out; omega)).trans HP0.out
    have hk1 := (hb1.block (w.heap.size + 1) (by have := HSZ.out; omega)).trans HK0.out
    have HB1 := Lib.hid (bstep HB0.out hb1)
    have hs0 : w.heap.size + 1 < w1.heap.size := by have := hb1.size; have := HSZ.out; omega
    have hs1 : w.heap.size < w1.heap.size := by omega
    obtain ⟨o0, o1, o2, -, -, -⟩ := three_facts hp1
    obtain ⟨r0, r1, r2, f0, f1, f2⟩ := three_facts hk1
    have HP1 := Lib.hid hp1
    have HK1 := Lib.hid hk1
    obtain ⟨q0, q1, q2, q3⟩ := box4 w1 (.string P) (.string Q) (.int .i64 a) (.int .i64 b) 107
    clear hp1 hk1 hb1 HP0 HK0
    go_wp2_with fail
    refine ret_cell (A := ⟨w.heap.size + 1, 0, none⟩) rfl (load_rrep _ _ _ _ _ _ ((heap_alloc_old _ _ (by simp; omega)).trans (three_set HK1.out _ _ _))) rfl rfl ?_
    rw [HR.out.1, HR.out.2.1, HR.out.2.2]
    exact ⟨none, 0, rfl, ⟨0, World.ownsRow_nil _ _ _ _⟩, (three_below HB1.out _ (by omega) _ _ _).alloc (by have := HB1.out.size; simp; omega) _⟩
  have t4 : Q.toList = h.toList := by rw [ByteArray.toList_eq, ByteArray.toList_eq]; exact h4
  have HCl := Lib.hid (fun w => ref_clip a b (f.size : Int) w (by omega) (by omega))
  obtain ⟨K, hK⟩ : ∃ K, clipE a b (f.size : Int) = K := ⟨_, rfl⟩
  have HCK : Hid (C = if K ≠ 0 then 416 else 206) := Lib.hid (by
    rw [HCC.out, if_neg (fun e => e.elim (fun e => e rfl) h2), if_neg (fun e => e.elim (fun e => e h3) (fun e => e h4)), hK])
  rw [hK] at HCl
  generalize clipA a b (f.size : Int) = A at HCl HPR
  generalize clipB a b (f.size : Int) = B at HCl HPR
  by_cases h5 : K = 0
  case neg =>
    have hR : C = 416 := by rw [HCK.out, if_pos h5]
    have HR : Hid (C = 416 ∧ F = [] ∧ Y = ⟨#[]⟩) := Lib.hid ⟨hR, HO.out (by rw [hR]; decide)⟩
    have tz : ((K : Int) != 0) = true := by rw [bne_iff_ne]; omega
    clear h2 h3 h4 h5 hK hE1 hn ha hb hR
    go_enter Tryz.func24, Tryz.ntmps24
    go_wp2_with fail
    generalize ((w.alloc (.cells #[.string h, .string p, .string f] 23)).alloc (.cells #[.int .i64 0, .slice none 0 0, .string ⟨#[]⟩] 62)) = W0 at HB0 HP0 HK0 HSZ ⊢
    refine (HA.out _).mono ?_
    rintro e w1 ⟨rfl, hb1⟩
    have hp1 := (hb1.block w.heap.size (by have := HSZ.out; omega)).trans HP0.out
    have hk1 := (hb1.block (w.heap.size + 1) (by have := HSZ.out; omega)).trans HK0.out
    have HB1 := Lib.hid (bstep HB0.out hb1)
    have hs0 : w.heap.size + 1 < w1.heap.size := by have := hb1.size; have := HSZ.out; omega
    have hs1 : w.heap.size < w1.heap.size := by omega
    obtain ⟨o0, o1, o2, -, -, -⟩ := three_facts hp1
    obtain ⟨r0, r1, r2, f0, f1, f2⟩ := three_facts hk1
    have HP1 := Lib.hid hp1
    have HK1 := Lib.hid hk1
    obtain ⟨q0, q1, q2, q3⟩ := box4 w1 (.string P) (.string Q) (.int .i64 a) (.int .i64 b) 107
    clear hp1 hk1 hb1 HP0 HK0
    go_wp2_with fail
    refine (HCl.out _).mono ?_
    rintro e w2 ⟨rfl, hb2⟩
    have hx : w.heap.size + 1 < (w1.alloc (.cells #[.string P, .string Q, .int .i64 a, .int .i64 b] 107)).heap.size := by simp; omega
    have hk2 := (hb2.block (w.heap.size + 1) hx).trans (((below_agg4 w1 (.string P) (.string Q) (.int .i64 a) (.int .i64 b) 107).block (w.heap.size + 1) hs0).trans HK1.out)
    have HB2 := Lib.hid (bstep HB1.out (bstep (below_agg4 _ _ _ _ _ _) hb2))
    have hs2 : w.heap.size + 1 < w2.heap.size := Nat.lt_of_lt_of_le hx hb2.size
    have HK2 := Lib.hid hk2
    clear r0 r1 r2 f0 f1 f2
    obtain ⟨r0, r1, r2, f0, f1, f2⟩ := three_facts hk2
    clear hb2 hx hk2 o0 o1 o2 q0 q1 q2 q3
    go_wp2_with fail
    refine ret_cell (A := ⟨w.heap.size + 1, 0, none⟩) rfl (load_rrep _ _ _ _ _ _ ((heap_alloc_old _ _ (by simp; omega)).trans (three_set HK2.out _ _ _))) rfl rfl ?_
    rw [HR.out.1, HR.out.2.1, HR.out.2.2]
    exact ⟨none, 0, rfl, ⟨0, World.ownsRow_nil _ _ _ _⟩, (three_below HB2.out _ (by omega) _ _ _).alloc (by have := HB2.out.size; simp; omega) _⟩
  subst h5
  have hR : C = 206 := by rw [HCK.out, if_neg (fun e => e rfl)]
  obtain ⟨g1, g2, g3, g4, g5⟩ := HPR.out hR
  have HR : Hid (C = 206 ∧ F = [(crangeK, toldL A B (f.size : Int))] ∧ Y = f.extract A.toNat (B + 1).toNat) := Lib.hid ⟨hR, g4, g5⟩
  have HT := Lib.hid (fun w => ref_told A B (f.size : Int) w)
  obtain ⟨V, hV⟩ : ∃ V, bs (toldL A B (f.size : Int)) = V := ⟨_, rfl⟩
  rw [hV] at HT
  have HV := Lib.hid hV
  generalize toldE A B (f.size : Int) = TE at HT
  clear h2 h3 h4 hK hE1 hn ha hb hR g4 g5 hV HPR HO
  go_enter Tryz.func24, Tryz.ntmps24
  go_wp2_with fail
  generalize ((w.alloc (.cells #[.string h, .string p, .string f] 23)).alloc (.cells #[.int .i64 0, .slice none 0 0, .string ⟨#[]⟩] 62)) = W0 at HB0 HP0 HK0 HSZ ⊢
  refine (HA.out _).mono ?_
  rintro e w1 ⟨rfl, hb1⟩
  have hp1 := (hb1.block w.heap.size (by have := HSZ.out; omega)).trans HP0.out
  have hk1 := (hb1.block (w.heap.size + 1) (by have := HSZ.out; omega)).trans HK0.out
  have HB1 := Lib.hid (bstep HB0.out hb1)
  have hs0 : w.heap.size + 1 < w1.heap.size := by have := hb1.size; have := HSZ.out; omega
  have hs1 : w.heap.size < w1.heap.size := by omega
  obtain ⟨o0, o1, o2, -, -, -⟩ := three_facts hp1
  obtain ⟨r0, r1, r2, f0, f1, f2⟩ := three_facts hk1
  have HP1 := Lib.hid hp1
  have HK1 := Lib.hid hk1
  obtain ⟨q0, q1, q2, q3⟩ := box4 w1 (.string P) (.string Q) (.int .i64 a) (.int .i64 b) 107
  clear hp1 hk1 hb1 HP0 HK0
  go_wp2_with fail
  refine (HCl.out _).mono ?_
  rintro e w2 ⟨rfl, hb2⟩
  have hx : w.heap.size + 1 < (w1.alloc (.cells #[.string P, .string Q, .int .i64 a, .int .i64 b] 107)).heap.size := by simp; omega
  have hk2 := (hb2.block (w.heap.size + 1) hx).trans (((below_agg4 w1 (.string P) (.string Q) (.int .i64 a) (.int .i64 b) 107).block (w.heap.size + 1) hs0).trans HK1.out)
  have hp2 := (hb2.block w.heap.size (by omega)).trans (((below_agg4 w1 (.string P) (.string Q) (.int .i64 a) (.int .i64 b) 107).block w.heap.size hs1).trans HP1.out)
  have HB2 := Lib.hid (bstep HB1.out (bstep (below_agg4 _ _ _ _ _ _) hb2))
  have hs2 : w.heap.size + 1 < w2.heap.size := Nat.lt_of_lt_of_le hx hb2.size
  have hs3 : w.heap.size < w2.heap.size := by omega
  have HK2 := Lib.hid hk2
  have HP2 := Lib.hid hp2
  clear r0 r1 r2 f0 f1 f2 o0 o1 o2
  obtain ⟨o0, o1, o2, -, -, -⟩ := three_facts hp2
  obtain ⟨k0, k1⟩ := box2 w2 (.int .i64 A) (.int .i64 B) 41
  clear hb2 hx hk2 hp2 q0 q1 q2 q3
  go_wp2_with fail
  refine (HT.out _).mono ?_
  rintro e w3 ⟨rfl, hb3⟩
  have hy : w.heap.size + 1 < (w2.alloc (.cells #[.int .i64 A, .int .i64 B] 41)).heap.size := by simp; omega
  have hk3 := (hb3.block (w.heap.size + 1) hy).trans (((below_agg2 w2 (.int .i64 A) (.int .i64 B) 41).block (w.heap.size + 1) hs2).trans HK2.out)
  have hp3 := (hb3.block w.heap.size (by omega)).trans (((below_agg2 w2 (.int .i64 A) (.int .i64 B) 41).block w.heap.size hs3).trans HP2.out)
  have hz : w2.heap.size < (w2.alloc (.cells #[.int .i64 A, .int .i64 B] 41)).heap.size := by simp
  have k0' := (hb3.cell (p := ⟨w2.heap.size, 0, none⟩) hz).trans k0
  have k1' := (hb3.cell (p := ⟨w2.heap.size, 1, none⟩) hz).trans k1
  have HB3 := Lib.hid (bstep HB2.out (bstep (below_agg2 _ _ _ _) hb3))
  have hs4 : w.heap.size + 1 < w3.heap.size := Nat.lt_of_lt_of_le hy hb3.size
  have hs5 : w.heap.size < w3.heap.size := by omega
  have hs6 : w2.heap.size < w3.heap.size := Nat.lt_of_lt_of_le hz hb3.size
  have HK3 := Lib.hid hk3
  clear o0 o1 o2 k0 k1
  obtain ⟨o0, o1, o2, -, -, -⟩ := three_facts hp3
  obtain ⟨r0, r1, r2, f0, f1, f2⟩ := three_facts hk3
  clear hb3 hy hz hk3 hp3
  go_wp2_with fail
  refine ret_cell (A := ⟨w.heap.size + 1, 0, none⟩) rfl (load_rrep _ _ _ _ _ _ ((heap_alloc_old _ _ (by simp; omega)).trans (three_set HK3.out _ _ _))) rfl rfl ?_
  rw [HR.out.1, HR.out.2.1, HR.out.2.2]
  refine ⟨_, _, rfl, ⟨0, ?_⟩, ?_⟩
  · have := own_one_at (((w3.setCell ⟨w.heap.size + 1, 0, none⟩ (.int .i64 206)).setCell ⟨w.heap.size + 1, 1, none⟩ (.slice (some ⟨w3.heap.size, 0, none⟩) 1 1)).setCell ⟨w.heap.size + 1, 2, none⟩ (.string (f.extract A.toNat (B + 1).toNat))) w3.heap.size (by simp) (.string (bs crangeK)) (.string (bs (toldL A B (f.size : Int)))) 104
    rw [HV.out] at this
    have e : fcells [(crangeK, toldL A B (f.size : Int))] = [.string (bs crangeK), .string V] := by rw [← HV.out]; rfl
    rw [e]
    exact this
  · exact (three_below HB3.out _ (by omega) _ _ _).alloc (by have := HB3.out.size; simp; omega) _
set_option maxRecDepth 100000 in
set_option maxHeartbeats 4000000 in
theorem ref_oAnswer (h p f s : ByteArray) (w : World) (hh : h.size ≤ 9223372036854775807) (hp : p.size ≤ 9223372036854775807) (hs : s.size ≤ 1000000) (hf : f.size ≤ 1000000) :
    Calls Tryz.prog 11 #[.agg #[.string h, .string p, .string f], .string s] w fun e w' => e = .returned (.string (bs (orgS h.data.toList p.data.toList f.data.toList s))) ∧ Below w.heap.size w w' := by
  have HC := Lib.hid (fun w => ref_ocheck h p f w hh hp)
  have HS := Lib.hid (fun w => ref_oanswer h p f s w hs hf)
  have HB0 := Lib.hid (below_ro3 w (.string h) (.string p) (.string f))
  have HP0 := Lib.hid (heap_alloc_new w (.cells #[.string h, .string p, .string f] 23))
  have HSZ : Hid ((w.alloc (.cells #[.string h, .string p, .string f] 23)).heap.size = w.heap.size + 1) := Lib.hid (by simp)
  obtain ⟨o0, o1, o2, -, -, -⟩ := three_facts HP0.out
  by_cases he : orgE h.data.toList p.data.toList = 0
  case neg =>
    have HR : Hid (orgS h.data.toList p.data.toList f.data.toList s = []) := Lib.hid (by unfold orgS; rw [if_neg he])
    have tz : ((orgE h.data.toList p.data.toList : Int) != 0) = true := by rw [bne_iff_ne]; omega
    generalize orgE h.data.toList p.data.toList = E at HC tz
    clear he
    go_enter Tryz.func11, Tryz.ntmps11
    go_wp2_with fail
    refine (HC.out _).mono ?_
    rintro e w1 ⟨rfl, hb1⟩
    go_wp2_with fail
    go_ret
    exact ⟨by rw [HR.out]; rfl, bstep HB0.out hb1⟩
  rw [he] at HC
  have HR : Hid (orgS h.data.toList p.data.toList f.data.toList s = repS (orgC h.data.toList p.data.toList f.data.toList s) (orgF h.data.toList p.data.toList f.data.toList s) (orgY h.data.toList p.data.toList f.data.toList s)) := Lib.hid (by unfold orgS; rw [if_pos he])
  have hc4 := orgC_four h.data.toList p.data.toList f.data.toList s
  have hYl := orgY_len h.data.toList p.data.toList f.data.toList s
  rw [size_len] at hYl
  have hFb := orgF_bd h.data.toList p.data.toList f.data.toList s
  generalize orgC h.data.toList p.data.toList f.data.toList s = C at HS HR hc4
  generalize orgF h.data.toList p.data.toList f.data.toList s = F at HS HR hFb
  generalize orgY h.data.toList p.data.toList f.data.toList s = Y at HS HR hYl
  have HPr := Lib.hid (fun W fv hO => ref_rprint C fv F (bs Y) W (by omega) (by omega) hO (by omega) hFb.2 (by rw [bs_size]; omega))
  rw [bs_data] at HPr
  unfold RPost at HPr
  unfold PartPost at HS
  generalize bs Y = YB at HS HPr
  clear he hc4 hYl hFb
  go_enter Tryz.func11, Tryz.ntmps11
  go_wp2_with fail
  refine (HC.out _).mono ?_
  rintro e w1 ⟨rfl, hb1⟩
  have hp1 := (hb1.block w.heap.size (by have := HSZ.out; omega)).trans HP0.out
  have HB1 := Lib.hid (bstep HB0.out hb1)
  clear hb1 o0 o1 o2
  obtain ⟨o0, o1, o2, -, -, -⟩ := three_facts hp1
  clear hp1
  go_wp2_with fail
  refine (HS.out _).mono ?_
  rintro e w3 ⟨a3, c3, rfl, ⟨BB, hO⟩, hb3⟩
  have HB3 := Lib.hid (bstep HB1.out hb3)
  have HO := Lib.hid (HoldsF.of_own hO)
  clear hb3 hO o0 o1 o2
  go_wp2_with fail
  refine (HPr.out _ _ HO.out).mono ?_
  rintro e w4 ⟨rfl, hb4⟩
  go_wp2_with fail
  go_ret
  exact ⟨by rw [HR.out]; rfl, bstep HB3.out hb4⟩
theorem field_rcode (c : Int) (y z : Value) (w : World) : (Instr.field 62 (.agg #[.int .i64 c, y, z]) 0).run Tryz.prog w = .ok (.int .i64 c) w := by kernel_rfl
set_option maxRecDepth 100000 in
set_option maxHeartbeats 4000000 in
theorem ref_oCode (h p f s : ByteArray) (w : World) (hh : h.size ≤ 9223372036854775807) (hp : p.size ≤ 9223372036854775807) (hs : s.size ≤ 1000000) (hf : f.size ≤ 1000000) :
    Calls Tryz.prog 13 #[.agg #[.string h, .string p, .string f], .string s] w fun e w' => e = .returned (.int .i64 (orgK h.data.toList p.data.toList f.data.toList s)) ∧ Below w.heap.size w w' := by
  have HC := Lib.hid (fun w => ref_ocheck h p f w hh hp)
  have HS := Lib.hid (fun w => ref_oanswer h p f s w hs hf)
  have HB0 := Lib.hid (below_ro3 w (.string h) (.string p) (.string f))
  have HP0 := Lib.hid (heap_alloc_new w (.cells #[.string h, .string p, .string f] 23))
  have HSZ : Hid ((w.alloc (.cells #[.string h, .string p, .string f] 23)).heap.size = w.heap.size + 1) := Lib.hid (by simp)
  obtain ⟨o0, o1, o2, -, -, -⟩ := three_facts HP0.out
  by_cases he : orgE h.data.toList p.data.toList = 0
  case neg =>
    have HR : Hid (orgK h.data.toList p.data.toList f.data.toList s = 0) := Lib.hid (by unfold orgK; rw [if_neg he])
    have tz : ((orgE h.data.toList p.data.toList : Int) != 0) = true := by rw [bne_iff_ne]; omega
    generalize orgE h.data.toList p.data.toList = E at HC tz
    clear he
    go_enter Tryz.func13, Tryz.ntmps13
    go_wp2_with fail
    refine (HC.out _).mono ?_
    rintro e w1 ⟨rfl, hb1⟩
    go_wp2_with fail
    go_ret
    exact ⟨by rw [HR.out]; rfl, bstep HB0.out hb1⟩
  rw [he] at HC
  have HR : Hid (orgK h.data.toList p.data.toList f.data.toList s = orgC h.data.toList p.data.toList f.data.toList s) := Lib.hid (by unfold orgK; rw [if_pos he])
  generalize orgC h.data.toList p.data.toList f.data.toList s = C at HS HR
  generalize orgF h.data.toList p.data.toList f.data.toList s = F at HS
  generalize bs (orgY h.data.toList p.data.toList f.data.toList s) = YB at HS
  unfold PartPost at HS
  have hfc := field_rcode
  clear he
  go_enter Tryz.func13, Tryz.ntmps13
  go_wp2_with fail
  refine (HC.out _).mono ?_
  rintro e w1 ⟨rfl, hb1⟩
  have hp1 := (hb1.block w.heap.size (by have := HSZ.out; omega)).trans HP0.out
  have HB1 := Lib.hid (bstep HB0.out hb1)
  clear hb1 o0 o1 o2
  obtain ⟨o0, o1, o2, -, -, -⟩ := three_facts hp1
  clear hp1
  go_wp2_with fail
  refine (HS.out _).mono ?_
  rintro e w3 ⟨a3, c3, rfl, -, hb3⟩
  have HB3 := Lib.hid (bstep HB1.out hb3)
  clear hb3 o0 o1 o2
  go_wp2_with fail
  go_ret
  exact ⟨by rw [HR.out]; rfl, HB3.out⟩
end Go.Proofs.YtfcomhdgpdbnhaaGreatDoor
namespace Go.Proofs.YtfcomhdgpdbnhaaGreatDoor
open Go.RowKit
def a27 : List UInt8 := [72, 84, 84, 80, 47, 49, 46, 49, 32, 50, 48, 54, 32, 80, 97, 114, 116, 105, 97, 108, 32, 67, 111, 110, 116, 101, 110, 116, 13, 10, 67, 111, 110, 116, 101, 110, 116, 45, 76, 101, 110, 103, 116, 104, 58, 32, 50, 13, 10, 67, 111, 110, 116, 101, 110, 116, 45, 82, 97, 110, 103, 101, 58, 32, 98, 121, 116, 101, 115, 32, 49, 45, 50, 47, 51, 13, 10, 13, 10, 98, 99]
def q27 : ByteArray := ⟨#[71, 69, 84, 32, 47, 102, 32, 72, 84, 84, 80, 47, 49, 46, 49, 13, 10, 72, 111, 115, 116, 58, 32, 104, 13, 10, 82, 97, 110, 103, 101, 58, 32, 98, 121, 116, 101, 115, 61, 49, 45, 57, 13, 10, 13, 10]⟩
def r27 : ByteArray := ⟨#[71, 69, 84, 32, 47, 103, 32, 72, 84, 84, 80, 47, 49, 46, 49, 13, 10, 72, 111, 115, 116, 58, 32, 104, 13, 10, 82, 97, 110, 103, 101, 58, 32, 98, 121, 116, 101, 115, 61, 49, 45, 57, 13, 10, 13, 10]⟩
set_option maxRecDepth 100000 in
theorem aw27_c : orgE [104] [47, 102] = 0 ∧ orgC [104] [47, 102] [97, 98, 99] q27 = 206 ∧ orgA [97, 98, 99] q27 = 1 ∧ orgB [97, 98, 99] q27 = 2 := by decide +kernel
set_option maxRecDepth 100000 in
theorem aw27_d : orgK [104] [47, 102] [97, 98, 99] ⟨#[120]⟩ = 400 ∧ orgK [104] [47, 102] [97, 98, 99] r27 = 404 := by decide +kernel
theorem aw27_e : orgE [] [] = 2 := by decide
theorem st206 : (printOf 206).data.toList = [72, 84, 84, 80, 47, 49, 46, 49, 32, 50, 48, 54, 32, 80, 97, 114, 116, 105, 97, 108, 32, 67, 111, 110, 116, 101, 110, 116] := by
  rw [printOf_line 206 (by decide) (by decide)]
  exact (statusLine_data 206 (by decide) (by decide)).trans (by decide +kernel)
theorem digL_one (n : Nat) (h : n < 10) : digL (n : Int) = [UInt8.ofNat (48 + n)] := by
  rw [digL_nat, Go.Lib.decDigits_one h]
theorem told123 : toldL 1 2 3 = [98, 121, 116, 101, 115, 32, 49, 45, 50, 47, 51] := by
  have h : toldE 1 2 3 = 0 := by decide
  unfold toldL textR
  rw [if_pos h, show (1 : Int) = ((1 : Nat) : Int) from rfl, show (2 : Int) = ((2 : Nat) : Int) from rfl, show (3 : Int) = ((3 : Nat) : Int) from rfl, digL_one 1 (by decide), digL_one 2 (by decide), digL_one 3 (by decide)]
  decide +kernel
theorem aw27_s : orgS [104] [47, 102] [97, 98, 99] q27 = a27 := by
  obtain ⟨h1, h2, h3, h4⟩ := aw27_c
  rw [orgS_eq _ _ _ _ (by decide) h1, h2]
  have hF : orgF [104] [47, 102] [97, 98, 99] q27 = [(crangeK, toldL 1 2 3)] := by
    unfold orgF; rw [if_pos h2, h3, h4]; rfl
  have hY : orgY [104] [47, 102] [97, 98, 99] q27 = [98, 99] := by
    unfold orgY; rw [if_pos h2, h3, h4]; rfl
  rw [hF, hY]
  unfold repL repLines
  rw [st206, told123, show (([98, 99] : List UInt8).length : Int) = ((2 : Nat) : Int) from rfl, digL_one 2 (by decide)]
  decide +kernel
theorem bs_q27 : bs (orgS (ByteArray.mk #[104]).data.toList (ByteArray.mk #[47, 102]).data.toList (ByteArray.mk #[97, 98, 99]).data.toList q27) = bs a27 := congrArg bs aw27_s
theorem bs_e27 : bs (orgS (ByteArray.mk #[]).data.toList (ByteArray.mk #[]).data.toList (ByteArray.mk #[]).data.toList ⟨#[120]⟩) = ⟨#[]⟩ := by
  unfold orgS
  rw [if_neg (by rw [show orgE (ByteArray.mk #[]).data.toList (ByteArray.mk #[]).data.toList = 2 from aw27_e]; decide)]
  rfl
set_option maxRecDepth 100000 in
set_option maxHeartbeats 4000000 in
theorem awake27 (w : World) (hE : EnvF w) : Calls Tryz.prog 7 #[] w fun e w' => e = .returned (.bool true) ∧ Below w.heap.size w w' := by
  have H1 := Lib.hid (fun w hE => origin_answer ⟨#[104]⟩ ⟨#[47, 102]⟩ ⟨#[97, 98, 99]⟩ q27 w hE (by decide) (by decide))
  have H2 := Lib.hid (fun w hE => origin_code ⟨#[104]⟩ ⟨#[47, 102]⟩ ⟨#[97, 98, 99]⟩ ⟨#[120]⟩ w hE (by decide) (by decide))
  have H3 := Lib.hid (fun w hE => origin_code ⟨#[104]⟩ ⟨#[47, 102]⟩ ⟨#[97, 98, 99]⟩ r27 w hE (by decide) (by decide))
  have H4 := Lib.hid (fun w => origin_check ⟨#[104]⟩ ⟨#[47, 102]⟩ ⟨#[97, 98, 99]⟩ w)
  have H5 := Lib.hid (fun w => origin_check ⟨#[]⟩ ⟨#[]⟩ ⟨#[]⟩ w)
  have H6 := Lib.hid (fun w hE => origin_answer ⟨#[]⟩ ⟨#[]⟩ ⟨#[]⟩ ⟨#[120]⟩ w hE (by decide) (by decide))
  rw [bs_q27] at H1
  rw [show orgK (ByteArray.mk #[104]).data.toList (ByteArray.mk #[47, 102]).data.toList (ByteArray.mk #[97, 98, 99]).data.toList ⟨#[120]⟩ = 400 from aw27_d.1] at H2
  rw [show orgK (ByteArray.mk #[104]).data.toList (ByteArray.mk #[47, 102]).data.toList (ByteArray.mk #[97, 98, 99]).data.toList r27 = 404 from aw27_d.2] at H3
  rw [show orgE (ByteArray.mk #[104]).data.toList (ByteArray.mk #[47, 102]).data.toList = 0 from aw27_c.1] at H4
  rw [show orgE (ByteArray.mk #[]).data.toList (ByteArray.mk #[]).data.toList = 2 from aw27_e] at H5
  rw [bs_e27] at H6
  unfold q27 at H1
  unfold r27 at H3
  have hlit : ((bs a27).toList == ([72, 84, 84, 80, 47, 49, 46, 49, 32, 50, 48, 54, 32, 80, 97, 114, 116, 105, 97, 108, 32, 67, 111, 110, 116, 101, 110, 116, 13, 10, 67, 111, 110, 116, 101, 110, 116, 45, 76, 101].append [110, 103, 116, 104, 58, 32, 50, 13, 10, 67, 111, 110, 116, 101, 110, 116, 45, 82, 97, 110, 103, 101, 58, 32, 98, 121, 116, 101, 115, 32, 49, 45, 50, 47, 51, 13, 10, 13, 10, 98, 99] : List UInt8)) = true := (bs_lit a27 _).trans (decide_eq_true rfl)
  have hlit2 : ((bs a27).toList == [72, 84, 84, 80, 47, 49, 46, 49, 32, 50, 48, 54, 32, 80, 97, 114, 116, 105, 97, 108, 32, 67, 111, 110, 116, 101, 110, 116, 13, 10, 67, 111, 110, 116, 101, 110, 116, 45, 76, 101, 110, 103, 116, 104, 58, 32, 50, 13, 10, 67, 111, 110, 116, 101, 110, 116, 45, 82, 97, 110, 103, 101, 58, 32, 98, 121, 116, 101, 115, 32, 49, 45, 50, 47, 51, 13, 10, 13, 10, 98, 99]) = true := (bs_lit a27 _).trans (decide_eq_true rfl)
  generalize bs a27 = S at H1 hlit hlit2
  have HB0 := Lib.hid (below_o3 w (.string ⟨#[104]⟩) (.string ⟨#[47, 102]⟩) (.string ⟨#[97, 98, 99]⟩))
  have HP0 := Lib.hid (heap_alloc_new w (.cells #[.string ⟨#[104]⟩, .string ⟨#[47, 102]⟩, .string ⟨#[97, 98, 99]⟩] 26))
  have HE0 := Lib.hid (hE.below HB0.out)
  clear hE
  go_enter Tryz.func7, Tryz.ntmps7
  go_wp2_with fail
  refine (H1.out _ HE0.out).mono ?_
  rintro e w1 ⟨rfl, hb1⟩
  have HB1 := Lib.hid (bstep HB0.out hb1)
  have HE1 := Lib.hid (HE0.out.below hb1)
  have HP1 := Lib.hid ((hb1.block w.heap.size (by simp)).trans HP0.out)
  obtain ⟨o0, o1, o2, -, -, -⟩ := three_facts HP1.out
  clear hb1 HB0 HP0 HE0
  go_wp2_with fail
  refine (H2.out _ HE1.out).mono ?_
  rintro e w2 ⟨rfl, hb2⟩
  have hl : w.heap.size < w1.heap.size := (Array.getElem?_eq_some_iff.1 HP1.out).1
  have HB2 := Lib.hid (bstep HB1.out hb2)
  have HE2 := Lib.hid (HE1.out.below hb2)
  have HP2 := Lib.hid ((hb2.block w.heap.size hl).trans HP1.out)
  clear o0 o1 o2 hl
  obtain ⟨o0, o1, o2, -, -, -⟩ := three_facts HP2.out
  clear hb2 HB1 HP1 HE1
  go_wp2_with fail
  refine (H3.out _ HE2.out).mono ?_
  rintro e w3 ⟨rfl, hb3⟩
  have hl : w.heap.size < w2.heap.size := (Array.getElem?_eq_some_iff.1 HP2.out).1
  have HB3 := Lib.hid (bstep HB2.out hb3)
  have HE3 := Lib.hid (HE2.out.below hb3)
  have HP3 := Lib.hid ((hb3.block w.heap.size hl).trans HP2.out)
  clear o0 o1 o2 hl
  obtain ⟨o0, o1, o2, -, -, -⟩ := three_facts HP3.out
  clear hb3 HB2 HP2 HE2
  go_wp2_with fail
  refine (H4.out _).mono ?_
  rintro e w4 ⟨rfl, hb4⟩
  have HB4 := Lib.hid (bstep HB3.out hb4)
  have HE4 := Lib.hid (HE3.out.below hb4)
  clear hb4 HB3 HP3 HE3 o0 o1 o2
  go_wp2_with fail
  refine (H5.out _).mono ?_
  rintro e w5 ⟨rfl, hb5⟩
  have HB5 := Lib.hid (bstep HB4.out hb5)
  have HE5 := Lib.hid (HE4.out.below hb5)
  clear hb5 HB4 HE4
  go_wp2_with fail
  refine (H6.out _ HE5.out).mono ?_
  rintro e w6 ⟨rfl, hb6⟩
  go_wp2_with fail
  go_ret
  exact ⟨rfl, bstep HB5.out hb6⟩
end Go.Proofs.YtfcomhdgpdbnhaaGreatDoor
namespace Go.Proofs.YtfcomhdgpdbnhaaGreatDoor
open Go.RowKit
theorem overO_false (h p f : ByteArray) (m : Int) (hh : overO h.data.toList p.data.toList f.data.toList m = false) : h.size ≤ 300 ∧ p.size ≤ 300 ∧ (f.size : Int) ≤ m := by
  unfold overO at hh
  rw [Bool.or_eq_false_iff, Bool.or_eq_false_iff, decide_eq_false_iff_not, decide_eq_false_iff_not, decide_eq_false_iff_not, size_len, size_len, size_len] at hh
  omega
/-- an origin that lies in a block of its type -/
structure OAt (w : World) (b : Nat) (T : TypeId) (h p f : ByteArray) : Prop where
  blk : w.heap[b]? = some (.cells #[.string h, .string p, .string f] T (0, 0))
theorem OAt.lt {w : World} {b : Nat} {T : TypeId} {h p f : ByteArray} (k : OAt w b T h p f) : b < w.heap.size := (Array.getElem?_eq_some_iff.1 k.blk).1
theorem OAt.below {w w' : World} {b : Nat} {T : TypeId} {h p f : ByteArray} (k : OAt w b T h p f) (hb : Below w.heap.size w w') : OAt w' b T h p f := ⟨(hb.block b k.lt).trans k.blk⟩
theorem OAt.new (w : World) (T : TypeId) (h p f : ByteArray) : OAt (w.alloc (.cells #[.string h, .string p, .string f] T)) w.heap.size T h p f := ⟨heap_alloc_new w _⟩
theorem OAt.cells {w : World} {b : Nat} {T : TypeId} {h p f : ByteArray} (k : OAt w b T h p f) : w.cell? ⟨b, 0, none⟩ = some (.string h) ∧ w.cell? ⟨b, 1, none⟩ = some (.string p) ∧ w.cell? ⟨b, 2, none⟩ = some (.string f) :=
  let ⟨h0, h1, h2, _⟩ := three_facts k.blk; ⟨h0, h1, h2⟩
set_option maxRecDepth 100000 in
set_option maxHeartbeats 4000000 in
theorem originTells_walk (h p f s : ByteArray) (w : World) (hE : EnvF w) :
    Calls Tryz.prog 3 #[.agg #[.string h, .string p, .string f], .string s] w fun e w' => e = .returned (.bool true) ∧ Below w.heap.size w w' := by
  have HOv := Lib.hid (fun w => ref_oover h p f 2000 w)
  have HB0 := Lib.hid (below_ro3 w (.string h) (.string p) (.string f))
  have HE0 := Lib.hid (hE.below HB0.out)
  have HQ0 := Lib.hid (OAt.new w 23 h p f)
  clear hE
  obtain ⟨q0, q1, q2⟩ := HQ0.out.cells
  cases h1 : overO h.data.toList p.data.toList f.data.toList 2000 with
  | true =>
    rw [h1] at HOv
    clear h1
    go_enter Tryz.func3, Tryz.ntmps3
    go_wp2_with fail
    refine (HOv.out _).mono ?_
    rintro e w1 ⟨rfl, hb1⟩
    have HB1 := Lib.hid (bstep HB0.out hb1)
    have HE1 := Lib.hid (HE0.out.below hb1)
    clear hb1
    go_wp2_with fail
    refine (awake27 _ HE1.out).mono ?_
    rintro e w2 ⟨rfl, hb2⟩
    go_wp2_with fail
    go_ret
    exact ⟨rfl, bstep HB1.out hb2⟩
  | false =>
  rw [h1] at HOv
  by_cases hlong : (700 : Int) < (s.size : Int)
  · have tl : decide ((s.size : Int) > 700) = true := decide_eq_true hlong
    clear h1 hlong
    go_enter Tryz.func3, Tryz.ntmps3
    go_wp2_with fail
    refine (HOv.out _).mono ?_
    rintro e w1 ⟨rfl, hb1⟩
    have HB1 := Lib.hid (bstep HB0.out hb1)
    have HE1 := Lib.hid (HE0.out.below hb1)
    clear hb1
    go_wp2_with fail
    refine (awake27 _ HE1.out).mono ?_
    rintro e w2 ⟨rfl, hb2⟩
    go_wp2_with fail
    go_ret
    exact ⟨rfl, bstep HB1.out hb2⟩
  have tl : decide ((s.size : Int) > 700) = false := decide_eq_false hlong
  obtain ⟨b1, b2, b3⟩ := overO_false h p f 2000 h1
  have H1 := Lib.hid (fun W => origin_check h p f W)
  have H2 := Lib.hid (fun W => ref_ocheck h p f W (by omega) (by omega))
  have H3 := Lib.hid (fun W hE => origin_answer h p f s W hE (by omega) (by omega))
  have H4 := Lib.hid (fun W => ref_oAnswer h p f s W (by omega) (by omega) (by omega) (by omega))
  have H5 := Lib.hid (fun W hE => origin_code h p f s W hE (by omega) (by omega))
  have H6 := Lib.hid (fun W => ref_oCode h p f s W (by omega) (by omega) (by omega) (by omega))
  generalize orgE h.data.toList p.data.toList = E at H1 H2
  generalize bs (orgS h.data.toList p.data.toList f.data.toList s) = S at H3 H4
  generalize orgK h.data.toList p.data.toList f.data.toList s = K at H5 H6
  clear h1 hlong b1 b2 b3
  go_enter Tryz.func3, Tryz.ntmps3
  go_wp2_with fail
  refine (HOv.out _).mono ?_
  rintro e w1 ⟨rfl, hb1⟩
  have HB1 := Lib.hid (bstep HB0.out hb1)
  have HE1 := Lib.hid (HE0.out.below hb1)
  have HQ1 := Lib.hid (HQ0.out.below hb1)
  clear hb1 q0 q1 q2 HB0 HE0 HQ0
  obtain ⟨q0, q1, q2⟩ := HQ1.out.cells
  go_wp2_with fail
  have hB2 := below_o3 w1 (.string h) (.string p) (.string f)
  have HB5 := Lib.hid (bstep HB1.out hB2)
  have HE5 := Lib.hid (HE1.out.below hB2)
  have HQ5 := Lib.hid (HQ1.out.below hB2)
  have HX5 := Lib.hid (OAt.new w1 26 h p f)
  clear hB2 HB1 HE1 HQ1 q0 q1 q2
  generalize (w1.alloc (.cells #[.string h, .string p, .string f] 26)) = W5 at HB5 HE5 HQ5 HX5 ⊢
  generalize w1.heap.size = X at HX5 ⊢
  have HS : Hid (∀ W, Below W5.heap.size W5 W → W.cell? ⟨w.heap.size, 0, none⟩ = some (.string h) ∧ W.cell? ⟨w.heap.size, 1, none⟩ = some (.string p) ∧ W.cell? ⟨w.heap.size, 2, none⟩ = some (.string f) ∧ W.cell? ⟨X, 0, none⟩ = some (.string h) ∧ W.cell? ⟨X, 1, none⟩ = some (.string p) ∧ W.cell? ⟨X, 2, none⟩ = some (.string f)) := Lib.hid (fun W hW =>
    let ⟨x0, x1, x2⟩ := (HQ5.out.below hW).cells
    let ⟨y0, y1, y2⟩ := (HX5.out.below hW).cells
    ⟨x0, x1, x2, y0, y1, y2⟩)
  have HEE : Hid (∀ W, Below W5.heap.size W5 W → EnvF W) := Lib.hid (fun W hW => HE5.out.below hW)
  have HDr : Hid (Below W5.heap.size W5 W5.drew) := Lib.hid (Below.refl _ _).drew
  clear HE5 HQ5 HX5
  go_region_held3 (fun w' => w'.cell? ⟨w.heap.size, 0, none⟩ = some (.string h) ∧ w'.cell? ⟨w.heap.size, 1, none⟩ = some (.string p) ∧ w'.cell? ⟨w.heap.size, 2, none⟩ = some (.string f) ∧ w'.cell? ⟨X, 0, none⟩ = some (.string h) ∧ w'.cell? ⟨X, 1, none⟩ = some (.string p) ∧ w'.cell? ⟨X, 2, none⟩ = some (.string f)) (first | exact HS.out _ HDr.out | exact HS.out _ HA1.out | exact HS.out _ HA2.out | exact HS.out _ HA3.out | exact HS.out _ HA4.out | exact HS.out _ HA5.out | exact HS.out _ HA6.out | exact HS.out _ HA7.out)
    (first
      | (go_at_call 8; refine (H1.out _).mono ?_; rintro e wa ⟨rfl, hba⟩; have HA1 : Hid (Below W5.heap.size W5 wa) := Lib.hid (bstep HDr.out hba); clear hba)
      | (go_at_call 9; refine (H2.out _).mono ?_; rintro e wb ⟨rfl, hbb⟩; have HA2 : Hid (Below W5.heap.size W5 wb) := Lib.hid (bstep HA1.out hbb); clear hbb)
      | (go_at_call 10; refine (H3.out _ (HEE.out _ HA2.out)).mono ?_; rintro e wc ⟨rfl, hbc⟩; have HA3 : Hid (Below W5.heap.size W5 wc) := Lib.hid (bstep HA2.out hbc); clear hbc)
      | (go_at_call 11; refine (H4.out _).mono ?_; rintro e wd ⟨rfl, hbd⟩; have HA4 : Hid (Below W5.heap.size W5 wd) := Lib.hid (bstep HA3.out hbd); clear hbd)
      | (go_at_call 12; refine (H5.out _ (HEE.out _ HA4.out)).mono ?_; rintro e we ⟨rfl, hbe⟩; have HA5 : Hid (Below W5.heap.size W5 we) := Lib.hid (bstep HA4.out hbe); clear hbe)
      | (go_at_call 13; refine (H6.out _).mono ?_; rintro e wf ⟨rfl, hbf⟩; have HA6 : Hid (Below W5.heap.size W5 wf) := Lib.hid (bstep HA5.out hbf); clear hbf)
      | (go_at_call 7; refine (awake27 _ (HEE.out _ HA6.out)).mono ?_; rintro e wg ⟨rfl, hbg⟩; have HA7 : Hid (Below W5.heap.size W5 wg) := Lib.hid (bstep HA6.out hbg); clear hbg))
  go_wp2_with fail
  go_ret
  exact ⟨rfl, bstep HB5.out HA7.out⟩
end Go.Proofs.YtfcomhdgpdbnhaaGreatDoor
namespace Go.Proofs.YtfcomhdgpdbnhaaGreatDoor
open Go.RowKit

/-- what is taken off bytes: the replies, what is left, what ended it (0: nothing) -/
def feedR : Nat → Int → List UInt8 → List (Int × List (List UInt8 × List UInt8) × List UInt8) × List UInt8 × Nat
  | 0, _, l => ([], l, 0)
  | f + 1, m, l => if takE (bs l) m = 0 then ((takC (bs l) m, takF (bs l) m, takB (bs l) m) :: (feedR f m (l.drop (takN (bs l) m).toNat)).1, (feedR f m (l.drop (takN (bs l) m).toNat)).2) else if takE (bs l) m = 3 then ([], l, 0) else ([], [], takE (bs l) m)
def feedOf (m : Int) (l : List UInt8) : List (Int × List (List UInt8 × List UInt8) × List UInt8) × List UInt8 × Nat := feedR (l.length + 1) m l
theorem tak_n (l : List UInt8) (m : Int) (h : takE (bs l) m = 0) : 1 ≤ (takN (bs l) m).toNat ∧ (takN (bs l) m).toNat ≤ l.length ∧ takN (bs l) m = ((takN (bs l) m).toNat : Int) := by
  obtain ⟨-, h2, h3, -⟩ := rep_again (bs l) m h
  rw [bs_size] at h3
  omega
theorem feedR_more (m : Int) : ∀ (f : Nat) (l : List UInt8), l.length < f → feedR f m l = feedR (f + 1) m l := by
  intro f
  induction f with
  | zero => intro l h; exact absurd h (Nat.not_lt_zero _)
  | succ f ih =>
    intro l h
    rw [feedR, feedR]
    by_cases h0 : takE (bs l) m = 0
    · rw [if_pos h0, if_pos h0]
      obtain ⟨n1, n2, n3⟩ := tak_n l m h0
      rw [ih (l.drop (takN (bs l) m).toNat) (by rw [List.length_drop]; omega)]
    · rw [if_neg h0, if_neg h0]
theorem feedR_all (m : Int) (l : List UInt8) (f : Nat) (h : l.length < f) : feedR f m l = feedOf m l := by
  unfold feedOf
  obtain ⟨k, rfl⟩ : ∃ k, f = l.length + 1 + k := ⟨f - (l.length + 1), by omega⟩
  clear h
  induction k with
  | zero => rfl
  | succ k ih => rw [← ih, show l.length + 1 + (k + 1) = l.length + 1 + k + 1 by omega, ← feedR_more m _ l (by omega)]
theorem feed_more (m : Int) (l : List UInt8) (h : takE (bs l) m = 0) : feedOf m l = ((takC (bs l) m, takF (bs l) m, takB (bs l) m) :: (feedOf m (l.drop (takN (bs l) m).toNat)).1, (feedOf m (l.drop (takN (bs l) m).toNat)).2) := by
  obtain ⟨n1, n2, n3⟩ := tak_n l m h
  have e := feedR_all m (l.drop (takN (bs l) m).toNat) l.length (by rw [List.length_drop]; omega)
  unfold feedOf at e ⊢
  rw [feedR, if_pos h, e]
theorem feed_short (m : Int) (l : List UInt8) (h : takE (bs l) m = 3) : feedOf m l = ([], l, 0) := by
  unfold feedOf
  rw [feedR, if_neg (by rw [h]; decide), if_pos h]
theorem feed_bad (m : Int) (l : List UInt8) (h : takE (bs l) m ≠ 0) (h3 : takE (bs l) m ≠ 3) : feedOf m l = ([], [], takE (bs l) m) := by
  unfold feedOf
  rw [feedR, if_neg h, if_neg h3]
theorem feed_ind (m : Int) (P : List UInt8 → Prop) (hp : ∀ l, (takE (bs l) m = 0 → P (l.drop (takN (bs l) m).toNat)) → P l) : ∀ l, P l := by
  intro l
  obtain ⟨n, hn⟩ : ∃ n, l.length ≤ n := ⟨_, Nat.le_refl _⟩
  induction n generalizing l with
  | zero =>
    refine hp l (fun h => ?_)
    have := tak_n l m h
    omega
  | succ n ih =>
    refine hp l (fun h => ih _ ?_)
    have := tak_n l m h
    rw [List.length_drop]; omega
/-- what is left is too short, or nothing -/
def RestOk (m : Int) (l : List UInt8) : Prop := ((feedOf m l).2.2 = 0 → takE (bs (feedOf m l).2.1) m = 3) ∧ ((feedOf m l).2.2 ≠ 0 → (feedOf m l).2.1 = []) ∧ (feedOf m l).2.1.length ≤ l.length ∧ (feedOf m l).2.2 ≠ 3
theorem feed_rest (m : Int) : ∀ l, RestOk m l := by
  refine feed_ind m (RestOk m) ?_
  intro l ih
  unfold RestOk at ih ⊢
  by_cases h0 : takE (bs l) m = 0
  · have ih0 := ih h0
    rw [feed_more m l h0]
    rw [List.length_drop] at ih0
    generalize feedOf m (l.drop (takN (bs l) m).toNat) = R at ih0 ⊢
    obtain ⟨i1, i2, i3, i4⟩ := ih0
    exact ⟨i1, i2, Nat.le_trans i3 (Nat.sub_le _ _), i4⟩
  · by_cases h3 : takE (bs l) m = 3
    · rw [feed_short m l h3]; exact ⟨fun _ => h3, fun h => absurd rfl h, Nat.le_refl _, show (0 : Nat) ≠ 3 by decide⟩
    · rw [feed_bad m l h0 h3]; exact ⟨fun h => absurd h h0, fun _ => rfl, Nat.zero_le _, h3⟩
/-- a scan that is not too short does not hang on what stands behind -/
theorem scan_behind (l b : List UInt8) : ∀ n, (scan l n).2 ≠ 3 → scan (l ++ b) n = scan l n := by
  induction l with
  | nil => intro n h; exact absurd rfl h
  | cons c r ih =>
    intro n h
    rw [List.cons_append, scan, scan]
    rw [scan] at h
    by_cases h1 : c = 13 ∧ r = []
    · rw [if_pos h1] at h; exact absurd rfl h
    · rw [if_neg h1] at h ⊢
      have h1' : ¬ (c = 13 ∧ r ++ b = []) := fun e => h1 ⟨e.1, (List.append_eq_nil_iff.1 e.2).1⟩
      rw [if_neg h1']
      by_cases h2 : c = 13 ∧ r.head? = some 10
      · have h2' : c = 13 ∧ (r ++ b).head? = some 10 := ⟨h2.1, by cases r with
          | nil => simp at h2
          | cons d t => simpa using h2.2⟩
        rw [if_pos h2, if_pos h2']
      · rw [if_neg h2] at h ⊢
        have h2' : ¬ (c = 13 ∧ (r ++ b).head? = some 10) := fun e => by
          cases r with
          | nil => exact h1 ⟨e.1, rfl⟩
          | cons d t => exact h2 ⟨e.1, by simpa using e.2⟩
        rw [if_neg h2']
        by_cases h3 : plainB c.toNat = false
        · rw [if_pos h3, if_pos h3]
        · rw [if_neg h3] at h ⊢
          rw [if_neg h3]
          by_cases h4 : n = 256
          · rw [if_pos h4, if_pos h4]
          · rw [if_neg h4] at h ⊢
            rw [if_neg h4]
            exact ih _ h
theorem take_behind (l b : List UInt8) (a : Int) (h0 : 0 ≤ a) (h1 : a ≤ (l.length : Int)) (h : takeErr (bs l) a ≠ 3) : takeErr (bs (l ++ b)) a = takeErr (bs l) a ∧ takeLine (bs (l ++ b)) a = takeLine (bs l) a ∧ takeNext (bs (l ++ b)) a = takeNext (bs l) a := by
  obtain ⟨i, rfl⟩ : ∃ i : Nat, a = i := ⟨a.toNat, by omega⟩
  have hi : i ≤ l.length := by omega
  have e1 : takeErr (bs l) i = (scanAt l i 0).2 := by rw [takeErr_in (bs l) i (by rw [bs_size]; omega), bs_data]
  have e2 : takeErr (bs (l ++ b)) i = (scanAt (l ++ b) i 0).2 := by rw [takeErr_in (bs (l ++ b)) i (by rw [bs_size, List.length_append]; omega), bs_data]
  have es : scanAt (l ++ b) i 0 = scanAt l i 0 := by
    unfold scanAt at e1 ⊢
    rw [List.drop_append_of_le_length hi]
    exact scan_behind _ b 0 (by rw [← e1]; exact h)
  have eE : takeErr (bs (l ++ b)) i = takeErr (bs l) i := by rw [e1, e2, es]
  refine ⟨eE, ?_, ?_⟩
  · unfold takeLine
    rw [eE]
    split
    · rename_i hz
      rw [bs_data, bs_data, Int.toNat_natCast, es, extract_bs, extract_bs, bs_data, bs_data]
      congr 1
      have hz2 : (scan (l.drop i) 0).2 = 0 := e1.symm.trans hz
      have := scan_zero (l.drop i) 0 hz2
      rw [List.length_drop] at this
      rw [List.take_append_of_le_length (by unfold scanAt; omega)]
    · rfl
  · unfold takeNext
    rw [eE, bs_data, bs_data, Int.toNat_natCast, es]
theorem headR_behind (l b : List UInt8) : ∀ (f : Nat) (a : Int) (xs : List (List UInt8)), 0 ≤ a → a ≤ (l.length : Int) → (headR f (bs l) a xs).2.2 ≠ 3 → headR f (bs (l ++ b)) a xs = headR f (bs l) a xs := by
  intro f
  induction f with
  | zero => intro a xs _ _ _; rfl
  | succ f ih =>
    intro a xs h0 h1 h
    by_cases he : takeErr (bs l) a = 3
    · rw [headR_err f (bs l) a xs (by rw [he]; decide)] at h
      exact absurd he h
    · obtain ⟨t1, t2, t3⟩ := take_behind l b a h0 h1 he
      by_cases hz : takeErr (bs l) a = 0
      · by_cases hm : (takeLine (bs l) a).toList.isEmpty = true
        · rw [headR_end f (bs l) a xs hz hm, headR_end f (bs (l ++ b)) a xs (t1.trans hz) (by rw [t2]; exact hm), t3]
        · rw [Bool.not_eq_true] at hm
          by_cases h17 : xs.length = 17
          · rw [headR_many f (bs l) a xs hz hm h17, headR_many f (bs (l ++ b)) a xs (t1.trans hz) (by rw [t2]; exact hm) h17]
          · rw [headR_more f (bs l) a xs hz hm h17] at h ⊢
            rw [headR_more f (bs (l ++ b)) a xs (t1.trans hz) (by rw [t2]; exact hm) h17, t2, t3]
            obtain ⟨b1, b2⟩ := take_next_bd (bs l) a hz h0
            rw [bs_size] at b2
            exact ih _ _ (by omega) b2 h
      · rw [headR_err f (bs l) a xs hz, headR_err f (bs (l ++ b)) a xs (by rw [t1]; exact hz), t1]
theorem head_behind (l b : List UInt8) (h : (headOf (bs l)).2.2 ≠ 3) : headOf (bs (l ++ b)) = headOf (bs l) := headR_behind l b 18 0 [] (Int.le_refl _) (by omega) h
/-- what is not too short does not hang on what stands behind -/
theorem tak_behind (l b : List UInt8) (m : Int) (h : takE (bs l) m ≠ 3) : takE (bs (l ++ b)) m = takE (bs l) m ∧ takC (bs (l ++ b)) m = takC (bs l) m ∧ takF (bs (l ++ b)) m = takF (bs l) m ∧ takB (bs (l ++ b)) m = takB (bs l) m ∧ takN (bs (l ++ b)) m = takN (bs l) m := by
  have hh : (headOf (bs l)).2.2 ≠ 3 := fun e => h (by unfold takE; rw [e]; rfl)
  have hd := head_behind l b hh
  have hE : takE (bs (l ++ b)) m = takE (bs l) m := by
    unfold takE at h ⊢
    rw [hd]
    split
    · rfl
    rename_i q1
    rw [if_neg q1] at h
    split
    · rfl
    rename_i q2
    rw [if_neg q2] at h
    split
    · rfl
    rename_i q3
    rw [if_neg q3] at h
    split at h
    · exact absurd rfl h
    rename_i q4
    rw [bs_size] at q4
    rw [if_neg (by rw [bs_size, List.length_append]; omega), if_neg (by rw [bs_size]; omega)]
  by_cases hz : takE (bs l) m = 0
  · obtain ⟨z1, z2, z3, z4⟩ := tak_zero (bs l) m hz
    obtain ⟨n1, n2⟩ := headOf_bd (bs l) z1
    have hz2 := hE.trans hz
    refine ⟨hE, ?_, ?_, ?_, ?_⟩
    · unfold takC; rw [if_pos hz, if_pos hz2, hd]
    · unfold takF; rw [if_pos hz, if_pos hz2, hd]
    · unfold takB; rw [if_pos hz, if_pos hz2, hd, bs_data, bs_data]
      rw [bs_size] at z4 n2
      rw [List.take_append_of_le_length (by omega)]
    · unfold takN; rw [if_pos hz, if_pos hz2, hd]
  · obtain ⟨c1, c2, c3, c4⟩ := tak_bad (bs l) m hz
    obtain ⟨d1, d2, d3, d4⟩ := tak_bad (bs (l ++ b)) m (by rw [hE]; exact hz)
    exact ⟨hE, d1.trans c1.symm, d2.trans c2.symm, d3.trans c3.symm, d4.trans c4.symm⟩
/-- the pieces do not matter -/
def PieceOk (m : Int) (b l : List UInt8) : Prop := feedOf m (l ++ b) = if (feedOf m l).2.2 = 0 then ((feedOf m l).1 ++ (feedOf m ((feedOf m l).2.1 ++ b)).1, (feedOf m ((feedOf m l).2.1 ++ b)).2) else feedOf m l
theorem feed_behind (m : Int) (b : List UInt8) : ∀ l, PieceOk m b l := by
  refine feed_ind m (PieceOk m b) ?_
  intro l ih
  unfold PieceOk at ih ⊢
  by_cases h0 : takE (bs l) m = 0
  · obtain ⟨t1, t2, t3, t4, t5⟩ := tak_behind l b m (by rw [h0]; decide)
    obtain ⟨n1, n2, n3⟩ := tak_n l m h0
    have ih0 := ih h0
    rw [feed_more m (l ++ b) (t1.trans h0), t2, t3, t4, t5, List.drop_append_of_le_length n2, ih0, feed_more m l h0]
    clear ih0 ih
    generalize feedOf m (l.drop (takN (bs l) m).toNat) = R
    obtain ⟨R1, R2, R3⟩ := R
    generalize feedOf m (R2 ++ b) = Q
    by_cases hz : R3 = 0
    · rw [if_pos hz, if_pos hz]; rfl
    · rw [if_neg hz, if_neg hz]
  · by_cases h3 : takE (bs l) m = 3
    · rw [feed_short m l h3, if_pos rfl]; rfl
    · obtain ⟨t1, -⟩ := tak_behind l b m h3
      rw [feed_bad m l h0 h3, feed_bad m (l ++ b) (by rw [t1]; exact h0) (by rw [t1]; exact h3), t1, if_neg h0]
end Go.Proofs.YtfcomhdgpdbnhaaGreatDoor
namespace Go.Proofs.YtfcomhdgpdbnhaaGreatDoor
open Go.RowKit
theorem overR_false (fs : List (List UInt8 × List UInt8)) (b : ByteArray) (h : overR fs b = false) : fs.length ≤ 20 ∧ (∀ f ∈ fs, f.1.length ≤ 400 ∧ f.2.length ≤ 400) ∧ b.size ≤ 500 := by
  unfold overR overF at h
  simp only [Bool.or_eq_false_iff, decide_eq_false_iff_not, List.any_eq_false] at h
  obtain ⟨⟨h1, h2⟩, h3⟩ := h
  refine ⟨by omega, fun f hf => ?_, by omega⟩
  have := h1 f hf
  unfold longF at this
  simp only [Bool.or_eq_true, decide_eq_true_eq, not_or] at this
  omega
/-- a reply of the document's that lies in a block -/
structure QAt (w : World) (b : Nat) (c : Int) (v : Value) (fs : List (List UInt8 × List UInt8)) (x : ByteArray) : Prop where
  blk : w.heap[b]? = some (.cells #[.int .i64 c, v, .string x] 62 (0, 0))
  hold : HoldsF w v fs
theorem QAt.lt {w : World} {b : Nat} {c : Int} {v : Value} {fs : List (List UInt8 × List UInt8)} {x : ByteArray} (h : QAt w b c v fs x) : b < w.heap.size := (Array.getElem?_eq_some_iff.1 h.blk).1
theorem QAt.below {w w' : World} {b : Nat} {c : Int} {v : Value} {fs : List (List UInt8 × List UInt8)} {x : ByteArray} (h : QAt w b c v fs x) (hb : Below w.heap.size w w') : QAt w' b c v fs x :=
  ⟨(hb.block b h.lt).trans h.blk, h.hold.below hb⟩
theorem QAt.new {w : World} {c : Int} {v : Value} {fs : List (List UInt8 × List UInt8)} {x : ByteArray} (h : HoldsF w v fs) :
    QAt (w.alloc (.cells #[.int .i64 c, v, .string x] 62)) w.heap.size c v fs x :=
  ⟨heap_alloc_new w _, h.below ((Below.refl _ _).alloc (Nat.le_refl _) _)⟩
theorem QAt.alloc {w : World} {b : Nat} {c : Int} {v : Value} {fs : List (List UInt8 × List UInt8)} {x : ByteArray} (h : QAt w b c v fs x) (o : Obj) : QAt (w.alloc o) b c v fs x := h.below ((Below.refl _ _).alloc (Nat.le_refl _) o)
theorem QAt.cells {w : World} {b : Nat} {c : Int} {v : Value} {fs : List (List UInt8 × List UInt8)} {x : ByteArray} (h : QAt w b c v fs x) : w.cell? ⟨b, 0, none⟩ = some (.int .i64 c) ∧ w.cell? ⟨b, 1, none⟩ = some v ∧ w.cell? ⟨b, 2, none⟩ = some (.string x) :=
  let ⟨h0, h1, h2, _⟩ := three_facts h.blk; ⟨h0, h1, h2⟩
end Go.Proofs.YtfcomhdgpdbnhaaGreatDoor
namespace Go.Proofs.YtfcomhdgpdbnhaaGreatDoor
open Go.RowKit
def RParseAt (C n : Int) (F : List (List UInt8 × List UInt8)) (B : ByteArray) (E : Nat) (w : World) (e : Ending) (w' : World) : Prop :=
  ∃ a cp, e = .returned (.tuple #[.agg #[.int .i64 C, .slice a F.length cp, .string B], .int .i64 n, .int .i64 (E : Nat)]) ∧ HoldsF w' (.slice a F.length cp) F ∧ Below w.heap.size w w'
theorem takF_len (s : ByteArray) (most : Int) : (takF s most).length ≤ 17 := by
  unfold takF
  split
  · refine Nat.le_trans (restF_len _) ?_
    unfold fldL
    rw [List.length_map, List.length_tail]
    have := (headOf_bound s).2
    omega
  · exact Nat.zero_le _
theorem PAt.cells {w : World} {b : Nat} {c : Int} {a : Option Addr} {n cp : Nat} {fs : List (List UInt8 × List UInt8)} {x : ByteArray} (h : PAt w b c a n cp fs x) : w.cell? ⟨b, 0, none⟩ = some (.int .i64 c) ∧ w.cell? ⟨b, 1, none⟩ = some (.slice a n cp) ∧ w.cell? ⟨b, 2, none⟩ = some (.string x) :=
  let ⟨h0, h1, h2, _⟩ := three_facts h.blk; ⟨h0, h1, h2⟩
theorem sameR_refl (c : Int) (x : List UInt8) (fs : List (List UInt8 × List UInt8)) : sameR c c x x fs fs = true := by unfold sameR; simp
end Go.Proofs.YtfcomhdgpdbnhaaGreatDoor
namespace Go.Proofs.YtfcomhdgpdbnhaaGreatDoor
open Go.RowKit
theorem body_len (ls : List (List UInt8)) (h : ∀ x ∈ ls, x.length ≤ 256) : (body ls).length ≤ ls.length * 258 := by
  induction ls with
  | nil => exact Nat.le_refl _
  | cons x t ih =>
    have h1 := h x (List.mem_cons_self ..)
    have h2 := ih (fun y hy => h y (List.mem_cons_of_mem _ hy))
    show (x ++ 13 :: 10 :: body t).length ≤ (t.length + 1) * 258
    rw [List.length_append, List.length_cons, List.length_cons]; omega
theorem repL_len (c : Int) (fs : List (List UInt8 × List UInt8)) (b : List UInt8) (h : repE c fs = 0) (hn : b.length ≤ 1000000) : (repL c fs b).length ≤ 4400 + b.length ∧ 2 ≤ (repL c fs b).length := by
  obtain ⟨g1, g2⟩ := good_lines c fs b.length h hn
  have := body_len (repLines c fs b.length) (fun x hx => (g1 x hx).2.2)
  unfold repL
  rw [List.length_append, List.length_cons, List.length_cons]; omega
theorem isEmpty_false (S : ByteArray) (h : 0 < S.size) : (S.toList == []) = false := by
  rw [beq_eq_false_iff_ne]
  intro e
  have : S.toList.length = 0 := by rw [e]; rfl
  rw [ByteArray.toList_eq, size_len] at this
  omega
end Go.Proofs.YtfcomhdgpdbnhaaGreatDoor
namespace Go.Proofs.YtfcomhdgpdbnhaaGreatDoor
open Go.RowKit

/-- what is answered to bytes, what is left, how many answers, whether it is closed -/
def srvR (h p f : List UInt8) : Nat → List UInt8 → List UInt8 × List UInt8 × Nat × Bool
  | 0, l => ([], l, 0, false)
  | k + 1, l => if askE (bs l) = 0 then (orgS h p f (bs (l.take (askN (bs l)).toNat)) ++ (srvR h p f k (l.drop (askN (bs l)).toNat)).1, (srvR h p f k (l.drop (askN (bs l)).toNat)).2.1, (srvR h p f k (l.drop (askN (bs l)).toNat)).2.2.1 + 1, (srvR h p f k (l.drop (askN (bs l)).toNat)).2.2.2) else if askE (bs l) = 3 then ([], l, 0, false) else (orgS h p f (bs l), [], 1, true)
def srvOf (h p f : List UInt8) (l : List UInt8) : List UInt8 × List UInt8 × Nat × Bool := srvR h p f (l.length + 1) l
theorem ask_n (l : List UInt8) (h : askE (bs l) = 0) : 1 ≤ (askN (bs l)).toNat ∧ (askN (bs l)).toNat ≤ l.length ∧ askN (bs l) = ((askN (bs l)).toNat : Int) := by
  obtain ⟨-, h2, h3, -⟩ := ask_again (bs l) h
  rw [bs_size] at h3
  omega
theorem srvR_more (h p f : List UInt8) : ∀ (k : Nat) (l : List UInt8), l.length < k → srvR h p f k l = srvR h p f (k + 1) l := by
  intro k
  induction k with
  | zero => intro l hl; exact absurd hl (Nat.not_lt_zero _)
  | succ k ih =>
    intro l hl
    rw [srvR, srvR]
    by_cases h0 : askE (bs l) = 0
    · rw [if_pos h0, if_pos h0]
      obtain ⟨n1, n2, n3⟩ := ask_n l h0
      rw [ih (l.drop (askN (bs l)).toNat) (by rw [List.length_drop]; omega)]
    · rw [if_neg h0, if_neg h0]
theorem srvR_all (h p f : List UInt8) (l : List UInt8) (k : Nat) (hl : l.length < k) : srvR h p f k l = srvOf h p f l := by
  unfold srvOf
  obtain ⟨j, rfl⟩ : ∃ j, k = l.length + 1 + j := ⟨k - (l.length + 1), by omega⟩
  clear hl
  induction j with
  | zero => rfl
  | succ j ih => rw [← ih, show l.length + 1 + (j + 1) = l.length + 1 + j + 1 by omega, ← srvR_more h p f _ l (by omega)]
theorem srv_more (h p f : List UInt8) (l : List UInt8) (h0 : askE (bs l) = 0) : srvOf h p f l = (orgS h p f (bs (l.take (askN (bs l)).toNat)) ++ (srvOf h p f (l.drop (askN (bs l)).toNat)).1, (srvOf h p f (l.drop (askN (bs l)).toNat)).2.1, (srvOf h p f (l.drop (askN (bs l)).toNat)).2.2.1 + 1, (srvOf h p f (l.drop (askN (bs l)).toNat)).2.2.2) := by
  obtain ⟨n1, n2, n3⟩ := ask_n l h0
  have e := srvR_all h p f (l.drop (askN (bs l)).toNat) l.length (by rw [List.length_drop]; omega)
  unfold srvOf at e ⊢
  rw [srvR, if_pos h0, e]
theorem srv_short (h p f : List UInt8) (l : List UInt8) (h3 : askE (bs l) = 3) : srvOf h p f l = ([], l, 0, false) := by
  unfold srvOf
  rw [srvR, if_neg (by rw [h3]; decide), if_pos h3]
theorem srv_bad (h p f : List UInt8) (l : List UInt8) (h0 : askE (bs l) ≠ 0) (h3 : askE (bs l) ≠ 3) : srvOf h p f l = (orgS h p f (bs l), [], 1, true) := by
  unfold srvOf
  rw [srvR, if_neg h0, if_neg h3]
theorem srv_ind (P : List UInt8 → Prop) (hp : ∀ l, (askE (bs l) = 0 → P (l.drop (askN (bs l)).toNat)) → P l) : ∀ l, P l := by
  intro l
  obtain ⟨n, hn⟩ : ∃ n, l.length ≤ n := ⟨_, Nat.le_refl _⟩
  induction n generalizing l with
  | zero =>
    refine hp l (fun h => ?_)
    have := ask_n l h
    omega
  | succ n ih =>
    refine hp l (fun h => ih _ ?_)
    have := ask_n l h
    rw [List.length_drop]; omega
/-- what is left is too short, or nothing; few answers; each is short -/
def SrvRest (h p f : List UInt8) (l : List UInt8) : Prop := ((srvOf h p f l).2.2.2 = false → askE (bs (srvOf h p f l).2.1) = 3) ∧ ((srvOf h p f l).2.2.2 = true → (srvOf h p f l).2.1 = []) ∧ (srvOf h p f l).2.1.length ≤ l.length ∧ (srvOf h p f l).2.2.1 ≤ l.length + 1 ∧ (srvOf h p f l).1.length ≤ (srvOf h p f l).2.2.1 * (4400 + f.length)
theorem orgS_len (h p f : List UInt8) (s : ByteArray) (hf : f.length ≤ 1000000) : (orgS h p f s).length ≤ 4400 + f.length := by
  by_cases he : orgE h p = 0
  · rw [orgS_eq h p f s hf he]
    have h1 := orgY_len h p f s
    have h2 := (repL_len _ _ (orgY h p f s) (org_good h p f s hf) (by omega)).1
    omega
  · unfold orgS; rw [if_neg he]; exact Nat.zero_le _
theorem srv_rest (h p f : List UInt8) (hf : f.length ≤ 1000000) : ∀ l, SrvRest h p f l := by
  refine srv_ind (SrvRest h p f) ?_
  intro l ih
  unfold SrvRest at ih ⊢
  by_cases h0 : askE (bs l) = 0
  · have ih0 := ih h0
    obtain ⟨n1, n2, n3⟩ := ask_n l h0
    have ho := orgS_len h p f (bs (l.take (askN (bs l)).toNat)) hf
    rw [srv_more h p f l h0]
    rw [List.length_drop] at ih0
    generalize srvOf h p f (l.drop (askN (bs l)).toNat) = R at ih0 ⊢
    obtain ⟨i1, i2, i3, i4, i5⟩ := ih0
    refine ⟨i1, i2, Nat.le_trans i3 (Nat.sub_le _ _), ?_, ?_⟩
    · show R.2.2.1 + 1 ≤ _; omega
    · show (orgS h p f (bs (l.take (askN (bs l)).toNat)) ++ R.1).length ≤ (R.2.2.1 + 1) * (4400 + f.length)
      rw [List.length_append, Nat.add_mul, Nat.one_mul]; omega
  · by_cases h3 : askE (bs l) = 3
    · rw [srv_short h p f l h3]; exact ⟨fun _ => h3, (fun h => absurd (show false = true from h) (by decide)), Nat.le_refl _, Nat.zero_le _, Nat.zero_le _⟩
    · have ho := orgS_len h p f (bs l) hf
      rw [srv_bad h p f l h0 h3]; exact ⟨(fun h => absurd (show true = false from h) (by decide)), fun _ => rfl, Nat.zero_le _, by show 1 ≤ l.length + 1; omega, by show (orgS h p f (bs l)).length ≤ 1 * _; omega⟩
/-- what is not too short does not hang on what stands behind -/
theorem ask_behind (l b : List UInt8) (h : askE (bs l) ≠ 3) : askE (bs (l ++ b)) = askE (bs l) ∧ askN (bs (l ++ b)) = askN (bs l) := by
  have hh : (headOf (bs l)).2.2 ≠ 3 := fun e => h (by unfold askE; rw [e]; rfl)
  have hd := head_behind l b hh
  have hE : askE (bs (l ++ b)) = askE (bs l) := by unfold askE; rw [hd]
  refine ⟨hE, ?_⟩
  unfold askN
  rw [hE, hd]
/-- what may not be is answered alike -/
theorem orgS_bad (h p f : List UInt8) (s t : ByteArray) (hs : askE s ≠ 0) (ht : askE t ≠ 0) : orgS h p f s = orgS h p f t := by
  have e : ∀ u, askE u ≠ 0 → orgC h p f u = 400 := fun u hu => by unfold orgC; rw [if_pos (.inl hu)]
  obtain ⟨s1, s2⟩ := orgF_other h p f s (by rw [e s hs]; decide)
  obtain ⟨t1, t2⟩ := orgF_other h p f t (by rw [e t ht]; decide)
  unfold orgS
  rw [s1, s2, t1, t2, e s hs, e t ht]
/-- the pieces do not matter -/
def SrvPiece (h p f b l : List UInt8) : Prop := srvOf h p f (l ++ b) = if (srvOf h p f l).2.2.2 = true then srvOf h p f l else ((srvOf h p f l).1 ++ (srvOf h p f ((srvOf h p f l).2.1 ++ b)).1, (srvOf h p f ((srvOf h p f l).2.1 ++ b)).2.1, (srvOf h p f l).2.2.1 + (srvOf h p f ((srvOf h p f l).2.1 ++ b)).2.2.1, (srvOf h p f ((srvOf h p f l).2.1 ++ b)).2.2.2)
theorem srv_behind (h p f b : List UInt8) : ∀ l, SrvPiece h p f b l := by
  refine srv_ind (SrvPiece h p f b) ?_
  intro l ih
  unfold SrvPiece at ih ⊢
  by_cases h0 : askE (bs l) = 0
  · obtain ⟨t1, t2⟩ := ask_behind l b (by rw [h0]; decide)
    obtain ⟨n1, n2, n3⟩ := ask_n l h0
    have ih0 := ih h0
    rw [srv_more h p f (l ++ b) (t1.trans h0), t2, List.drop_append_of_le_length n2, List.take_append_of_le_length n2, ih0, srv_more h p f l h0]
    clear ih0 ih
    generalize srvOf h p f (l.drop (askN (bs l)).toNat) = R
    obtain ⟨R1, R2, R3, R4⟩ := R
    generalize srvOf h p f (R2 ++ b) = Q
    cases R4 with
    | true => rfl
    | false =>
      simp only [Bool.false_eq_true, if_false, List.append_assoc, Prod.mk.injEq, true_and, and_true]
      omega
  · by_cases h3 : askE (bs l) = 3
    · rw [srv_short h p f l h3, if_neg (show ¬ (false = true) by decide)]; simp
    · obtain ⟨t1, -⟩ := ask_behind l b h3
      rw [srv_bad h p f l h0 h3, srv_bad h p f (l ++ b) (by rw [t1]; exact h0) (by rw [t1]; exact h3), if_pos rfl, orgS_bad h p f (bs (l ++ b)) (bs l) (by rw [t1]; exact h0) h0]
end Go.Proofs.YtfcomhdgpdbnhaaGreatDoor
namespace Go.Proofs.YtfcomhdgpdbnhaaGreatDoor
open Go.RowKit
/-- what is answered is one whole reply -/
theorem org_take (h p f : List UInt8) (s : ByteArray) (rest : List UInt8) (S : ByteArray) (m : Int) (he : orgE h p = 0) (hf : f.length ≤ 1000000) (hm : (f.length : Int) ≤ m) (hS : S.data.toList = orgS h p f s ++ rest) :
    takE S m = 0 ∧ takC S m = orgC h p f s ∧ takF S m = orgF h p f s ∧ takB S m = orgY h p f s ∧ takN S m = ((orgS h p f s).length : Int) := by
  have hY := orgY_len h p f s
  rw [orgS_eq h p f s hf he] at hS ⊢
  exact rep_take _ _ _ rest S m (org_good h p f s hf) (by omega) hS (by omega)
set_option maxRecDepth 100000 in
set_option maxHeartbeats 8000000 in
theorem originOnly_walk (h p f s : ByteArray) (w : World) (hE : EnvF w) :
    Calls Tryz.prog 4 #[.agg #[.string h, .string p, .string f], .string s] w fun e w' => e = .returned (.bool true) ∧ Below w.heap.size w w' := by
  have HOv := Lib.hid (fun w => ref_oover h p f 2000 w)
  have HB0 := Lib.hid (below_ro3 w (.string h) (.string p) (.string f))
  have HE0 := Lib.hid (hE.below HB0.out)
  have HQ0 := Lib.hid (OAt.new w 23 h p f)
  clear hE
  obtain ⟨q0, q1, q2⟩ := HQ0.out.cells
  cases h1 : overO h.data.toList p.data.toList f.data.toList 2000 with
  | true =>
    rw [h1] at HOv
    clear h1
    go_enter Tryz.func4, Tryz.ntmps4
    go_wp2_with fail
    refine (HOv.out _).mono ?_
    rintro e w1 ⟨rfl, hb1⟩
    have HB1 := Lib.hid (bstep HB0.out hb1)
    have HE1 := Lib.hid (HE0.out.below hb1)
    clear hb1
    go_wp2_with fail
    refine (awake27 _ HE1.out).mono ?_
    rintro e w2 ⟨rfl, hb2⟩
    go_wp2_with fail
    go_ret
    exact ⟨rfl, bstep HB1.out hb2⟩
  | false =>
  rw [h1] at HOv
  by_cases hlong : (700 : Int) < (s.size : Int)
  · have tl : decide ((s.size : Int) > 700) = true := decide_eq_true hlong
    clear h1 hlong
    go_enter Tryz.func4, Tryz.ntmps4
    go_wp2_with fail
    refine (HOv.out _).mono ?_
    rintro e w1 ⟨rfl, hb1⟩
    have HB1 := Lib.hid (bstep HB0.out hb1)
    have HE1 := Lib.hid (HE0.out.below hb1)
    clear hb1
    go_wp2_with fail
    refine (awake27 _ HE1.out).mono ?_
    rintro e w2 ⟨rfl, hb2⟩
    go_wp2_with fail
    go_ret
    exact ⟨rfl, bstep HB1.out hb2⟩
  have tl : decide ((s.size : Int) > 700) = false := decide_eq_false hlong
  obtain ⟨b1, b2, b3⟩ := overO_false h p f 2000 h1
  have H1 := Lib.hid (fun W => origin_check h p f W)
  have H3 := Lib.hid (fun W hE => origin_answer h p f s W hE (by omega) (by omega))
  have H5 := Lib.hid (fun W hE => origin_code h p f s W hE (by omega) (by omega))
  by_cases he : orgE h.data.toList p.data.toList = 0
  case neg =>
    have hS : orgS h.data.toList p.data.toList f.data.toList s = [] := by unfold orgS; rw [if_neg he]
    have hK : orgK h.data.toList p.data.toList f.data.toList s = 0 := by unfold orgK; rw [if_neg he]
    rw [hS] at H3
    rw [hK] at H5
    have tz : ((orgE h.data.toList p.data.toList : Int) != 0) = true := by rw [bne_iff_ne]; omega
    generalize orgE h.data.toList p.data.toList = E at H1 tz
    have hem : ((bs []).toList == []) = true := (bs_lit [] []).trans (decide_eq_true rfl)
    generalize bs [] = Z at H3 hem
    clear h1 hlong b1 b2 b3 he hS hK
    go_enter Tryz.func4, Tryz.ntmps4
    go_wp2_with fail
    refine (HOv.out _).mono ?_
    rintro e w1 ⟨rfl, hb1⟩
    have hB2 := below_o3 w1 (.string h) (.string p) (.string f)
    have HB5 := Lib.hid (bstep (bstep HB0.out hb1) hB2)
    have HE5 := Lib.hid ((HE0.out.below hb1).below hB2)
    have HQ1 := Lib.hid (HQ0.out.below hb1)
    have HX5 := Lib.hid (OAt.new w1 26 h p f)
    clear hb1 q0 q1 q2 HB0 HE0 HQ0 hB2
    obtain ⟨q0, q1, q2⟩ := HQ1.out.cells
    obtain ⟨x0, x1, x2⟩ := HX5.out.cells
    go_wp2_with fail
    generalize (w1.alloc (.cells #[.string h, .string p, .string f] 26)) = W5 at HB5 HE5 HX5 x0 x1 x2 ⊢
    refine (H3.out _ HE5.out).mono ?_
    rintro e w2 ⟨rfl, hb2⟩
    have HB6 := Lib.hid (bstep HB5.out hb2)
    have HE6 := Lib.hid (HE5.out.below hb2)
    have HX6 := Lib.hid (HX5.out.below hb2)
    clear hb2 q0 q1 q2 x0 x1 x2
    obtain ⟨x0, x1, x2⟩ := HX6.out.cells
    go_wp2_with fail
    refine (H1.out _).mono ?_
    rintro e w3 ⟨rfl, hb3⟩
    have HB7 := Lib.hid (bstep HB6.out hb3)
    have HE7 := Lib.hid (HE6.out.below hb3)
    have HX7 := Lib.hid (HX6.out.below hb3)
    clear hb3 x0 x1 x2
    obtain ⟨x0, x1, x2⟩ := HX7.out.cells
    go_wp2_with fail
    refine (H5.out _ HE7.out).mono ?_
    rintro e w4 ⟨rfl, hb4⟩
    have HB8 := Lib.hid (bstep HB7.out hb4)
    have HE8 := Lib.hid (HE7.out.below hb4)
    clear hb4 x0 x1 x2
    go_wp2_with fail
    refine (awake27 _ HE8.out).mono ?_
    rintro e w5 ⟨rfl, hb5⟩
    go_wp2_with fail
    go_ret
    exact ⟨rfl, bstep HB8.out hb5⟩
  have hfl : f.data.toList.length ≤ 1000000 := by rw [size_len]; omega
  have hSl := orgS_len h.data.toList p.data.toList f.data.toList s hfl
  rw [size_len] at hSl
  obtain ⟨t1, t2, t3, t4, t5⟩ := org_take h.data.toList p.data.toList f.data.toList s [] (bs (orgS h.data.toList p.data.toList f.data.toList s)) (f.size : Int) he hfl (by rw [size_len]; exact Int.le_refl _) (by rw [bs_data, List.append_nil])
  have hK : orgK h.data.toList p.data.toList f.data.toList s = orgC h.data.toList p.data.toList f.data.toList s := by unfold orgK; rw [if_pos he]
  rw [hK] at H5
  rw [he] at H1
  have hc4 := orgC_four h.data.toList p.data.toList f.data.toList s
  have hoth := orgF_other h.data.toList p.data.toList f.data.toList s
  generalize orgC h.data.toList p.data.toList f.data.toList s = C at H5 t2 hc4 hoth
  generalize orgF h.data.toList p.data.toList f.data.toList s = F at t3 hoth
  generalize orgY h.data.toList p.data.toList f.data.toList s = Y at t4 hoth
  generalize orgS h.data.toList p.data.toList f.data.toList s = L at H3 t1 t2 t3 t4 t5 hSl
  have hSs : (bs L).size = L.length := bs_size L
  generalize bs L = S at H3 t1 t2 t3 t4 t5 hSs
  rw [← hSs] at t5 hSl
  have HT := Lib.hid (fun w hE => parse_is S (f.size : Int) C (S.size : Int) F (bs Y) 0 ⟨t1, t2, t3, by rw [t4], t5⟩ w (by omega) hE)
  unfold ParseAt at HT
  clear h1 hlong b1 b2 b3 he t1 t2 t3 t4 t5 hSs hfl hSl hK
  by_cases hc : C = 206
  · subst hc
    generalize bs Y = YB at HT
    obtain ⟨fl, hfl⟩ : ∃ fl, F.length = fl := ⟨_, rfl⟩
    rw [hfl] at HT
    clear hc4 hoth hfl
    go_enter Tryz.func4, Tryz.ntmps4
    go_wp2_with fail
    refine (HOv.out _).mono ?_
    rintro e w1 ⟨rfl, hb1⟩
    have hB2 := below_o3 w1 (.string h) (.string p) (.string f)
    have HB5 := Lib.hid (bstep (bstep HB0.out hb1) hB2)
    have HE5 := Lib.hid ((HE0.out.below hb1).below hB2)
    have HQ1 := Lib.hid (HQ0.out.below hb1)
    have HQ5 := Lib.hid ((HQ0.out.below hb1).below hB2)
    have HX5 := Lib.hid (OAt.new w1 26 h p f)
    clear hb1 q0 q1 q2 HB0 HE0 HQ0 hB2
    obtain ⟨q0, q1, q2⟩ := HQ1.out.cells
    obtain ⟨x0, x1, x2⟩ := HX5.out.cells
    go_wp2_with fail
    generalize (w1.alloc (.cells #[.string h, .string p, .string f] 26)) = W5 at HB5 HE5 HQ5 HX5 x0 x1 x2 ⊢
    generalize w1.heap.size = X at HX5 x0 x1 x2 ⊢
    refine (H3.out _ HE5.out).mono ?_
    rintro e w2 ⟨rfl, hb2⟩
    have HB6 := Lib.hid (bstep HB5.out hb2)
    have HE6 := Lib.hid (HE5.out.below hb2)
    have HX6 := Lib.hid (HX5.out.below hb2)
    have HQ6 := Lib.hid (HQ5.out.below hb2)
    clear hb2 q0 q1 q2 x0 x1 x2
    obtain ⟨x0, x1, x2⟩ := HX6.out.cells
    go_wp2_with fail
    refine (H1.out _).mono ?_
    rintro e w3 ⟨rfl, hb3⟩
    have HB7 := Lib.hid (bstep HB6.out hb3)
    have HE7 := Lib.hid (HE6.out.below hb3)
    have HX7 := Lib.hid (HX6.out.below hb3)
    have HQ7 := Lib.hid (HQ6.out.below hb3)
    clear hb3 x0 x1 x2
    obtain ⟨q0, q1, q2⟩ := HQ7.out.cells
    go_wp2_with fail
    refine (HT.out _ HE7.out).mono ?_
    rintro e w4 ⟨a4, c4, rfl, -, hb4⟩
    have hB4 := below_agg3 w4 (.int .i64 206) (.slice a4 fl c4) (.string YB) 37
    have HB8 := Lib.hid (bstep HB7.out (bstep hb4 hB4))
    have HE8 := Lib.hid ((HE7.out.below hb4).below hB4)
    have HX8 := Lib.hid ((HX7.out.below hb4).below hB4)
    obtain ⟨r0, r1, r2⟩ := box3 w4 (.int .i64 206) (.slice a4 fl c4) (.string YB) 37
    obtain ⟨x0, x1, x2⟩ := HX8.out.cells
    clear hb4 hB4 q0 q1 q2
    go_wp2_with fail
    refine (H5.out _ HE8.out).mono ?_
    rintro e w5 ⟨rfl, hb5⟩
    have HB9 := Lib.hid (bstep HB8.out hb5)
    have HE9 := Lib.hid (HE8.out.below hb5)
    clear hb5 x0 x1 x2 r0 r1 r2
    go_wp2_with fail
    refine (awake27 _ HE9.out).mono ?_
    rintro e w6 ⟨rfl, hb6⟩
    go_wp2_with fail
    go_ret
    exact ⟨rfl, bstep HB9.out hb6⟩
  · obtain ⟨rfl, rfl⟩ := hoth hc
    rw [show ([] : List (List UInt8 × List UInt8)).length = 0 from rfl, show bs [] = ⟨#[]⟩ from rfl] at HT
    clear hoth
    rcases hc4 with rfl | rfl | rfl | rfl
    · clear hc
      go_enter Tryz.func4, Tryz.ntmps4
      go_wp2_with fail
      refine (HOv.out _).mono ?_
      rintro e w1 ⟨rfl, hb1⟩
      have hB2 := below_o3 w1 (.string h) (.string p) (.string f)
      have HB5 := Lib.hid (bstep (bstep HB0.out hb1) hB2)
      have HE5 := Lib.hid ((HE0.out.below hb1).below hB2)
      have HQ1 := Lib.hid (HQ0.out.below hb1)
      have HQ5 := Lib.hid ((HQ0.out.below hb1).below hB2)
      have HX5 := Lib.hid (OAt.new w1 26 h p f)
      clear hb1 q0 q1 q2 HB0 HE0 HQ0 hB2
      obtain ⟨q0, q1, q2⟩ := HQ1.out.cells
      obtain ⟨x0, x1, x2⟩ := HX5.out.cells
      go_wp2_with fail
      generalize (w1.alloc (.cells #[.string h, .string p, .string f] 26)) = W5 at HB5 HE5 HQ5 HX5 x0 x1 x2 ⊢
      generalize w1.heap.size = X at HX5 x0 x1 x2 ⊢
      refine (H3.out _ HE5.out).mono ?_
      rintro e w2 ⟨rfl, hb2⟩
      have HB6 := Lib.hid (bstep HB5.out hb2)
      have HE6 := Lib.hid (HE5.out.below hb2)
      have HX6 := Lib.hid (HX5.out.below hb2)
      have HQ6 := Lib.hid (HQ5.out.below hb2)
      clear hb2 q0 q1 q2 x0 x1 x2
      obtain ⟨x0, x1, x2⟩ := HX6.out.cells
      go_wp2_with fail
      refine (H1.out _).mono ?_
      rintro e w3 ⟨rfl, hb3⟩
      have HB7 := Lib.hid (bstep HB6.out hb3)
      have HE7 := Lib.hid (HE6.out.below hb3)
      have HX7 := Lib.hid (HX6.out.below hb3)
      have HQ7 := Lib.hid (HQ6.out.below hb3)
      clear hb3 x0 x1 x2
      obtain ⟨q0, q1, q2⟩ := HQ7.out.cells
      go_wp2_with fail
      refine (HT.out _ HE7.out).mono ?_
      rintro e w4 ⟨a4, c4, rfl, -, hb4⟩
      have hB4 := below_agg3 w4 (.int .i64 400) (.slice a4 0 c4) (.string ⟨#[]⟩) 37
      have HB8 := Lib.hid (bstep HB7.out (bstep hb4 hB4))
      have HE8 := Lib.hid ((HE7.out.below hb4).below hB4)
      have HX8 := Lib.hid ((HX7.out.below hb4).below hB4)
      obtain ⟨r0, r1, r2⟩ := box3 w4 (.int .i64 400) (.slice a4 0 c4) (.string ⟨#[]⟩) 37
      obtain ⟨x0, x1, x2⟩ := HX8.out.cells
      clear hb4 hB4 q0 q1 q2
      go_wp2_with fail
      refine (H5.out _ HE8.out).mono ?_
      rintro e w5 ⟨rfl, hb5⟩
      have HB9 := Lib.hid (bstep HB8.out hb5)
      have HE9 := Lib.hid (HE8.out.below hb5)
      clear hb5 x0 x1 x2 r0 r1 r2
      go_wp2_with fail
      refine (awake27 _ HE9.out).mono ?_
      rintro e w6 ⟨rfl, hb6⟩
      go_wp2_with fail
      go_ret
      exact ⟨rfl, bstep HB9.out hb6⟩
    · clear hc
      go_enter Tryz.func4, Tryz.ntmps4
      go_wp2_with fail
      refine (HOv.out _).mono ?_
      rintro e w1 ⟨rfl, hb1⟩
      have hB2 := below_o3 w1 (.string h) (.string p) (.string f)
      have HB5 := Lib.hid (bstep (bstep HB0.out hb1) hB2)
      have HE5 := Lib.hid ((HE0.out.below hb1).below hB2)
      have HQ1 := Lib.hid (HQ0.out.below hb1)
      have HQ5 := Lib.hid ((HQ0.out.below hb1).below hB2)
      have HX5 := Lib.hid (OAt.new w1 26 h p f)
      clear hb1 q0 q1 q2 HB0 HE0 HQ0 hB2
      obtain ⟨q0, q1, q2⟩ := HQ1.out.cells
      obtain ⟨x0, x1, x2⟩ := HX5.out.cells
      go_wp2_with fail
      generalize (w1.alloc (.cells #[.string h, .string p, .string f] 26)) = W5 at HB5 HE5 HQ5 HX5 x0 x1 x2 ⊢
      generalize w1.heap.size = X at HX5 x0 x1 x2 ⊢
      refine (H3.out _ HE5.out).mono ?_
      rintro e w2 ⟨rfl, hb2⟩
      have HB6 := Lib.hid (bstep HB5.out hb2)
      have HE6 := Lib.hid (HE5.out.below hb2)
      have HX6 := Lib.hid (HX5.out.below hb2)
      have HQ6 := Lib.hid (HQ5.out.below hb2)
      clear hb2 q0 q1 q2 x0 x1 x2
      obtain ⟨x0, x1, x2⟩ := HX6.out.cells
      go_wp2_with fail
      refine (H1.out _).mono ?_
      rintro e w3 ⟨rfl, hb3⟩
      have HB7 := Lib.hid (bstep HB6.out hb3)
      have HE7 := Lib.hid (HE6.out.below hb3)
      have HX7 := Lib.hid (HX6.out.below hb3)
      have HQ7 := Lib.hid (HQ6.out.below hb3)
      clear hb3 x0 x1 x2
      obtain ⟨q0, q1, q2⟩ := HQ7.out.cells
      go_wp2_with fail
      refine (HT.out _ HE7.out).mono ?_
      rintro e w4 ⟨a4, c4, rfl, -, hb4⟩
      have hB4 := below_agg3 w4 (.int .i64 404) (.slice a4 0 c4) (.string ⟨#[]⟩) 37
      have HB8 := Lib.hid (bstep HB7.out (bstep hb4 hB4))
      have HE8 := Lib.hid ((HE7.out.below hb4).below hB4)
      have HX8 := Lib.hid ((HX7.out.below hb4).below hB4)
      obtain ⟨r0, r1, r2⟩ := box3 w4 (.int .i64 404) (.slice a4 0 c4) (.string ⟨#[]⟩) 37
      obtain ⟨x0, x1, x2⟩ := HX8.out.cells
      clear hb4 hB4 q0 q1 q2
      go_wp2_with fail
      refine (H5.out _ HE8.out).mono ?_
      rintro e w5 ⟨rfl, hb5⟩
      have HB9 := Lib.hid (bstep HB8.out hb5)
      have HE9 := Lib.hid (HE8.out.below hb5)
      clear hb5 x0 x1 x2 r0 r1 r2
      go_wp2_with fail
      refine (awake27 _ HE9.out).mono ?_
      rintro e w6 ⟨rfl, hb6⟩
      go_wp2_with fail
      go_ret
      exact ⟨rfl, bstep HB9.out hb6⟩
    · clear hc
      go_enter Tryz.func4, Tryz.ntmps4
      go_wp2_with fail
      refine (HOv.out _).mono ?_
      rintro e w1 ⟨rfl, hb1⟩
      have hB2 := below_o3 w1 (.string h) (.string p) (.string f)
      have HB5 := Lib.hid (bstep (bstep HB0.out hb1) hB2)
      have HE5 := Lib.hid ((HE0.out.below hb1).below hB2)
      have HQ1 := Lib.hid (HQ0.out.below hb1)
      have HQ5 := Lib.hid ((HQ0.out.below hb1).below hB2)
      have HX5 := Lib.hid (OAt.new w1 26 h p f)
      clear hb1 q0 q1 q2 HB0 HE0 HQ0 hB2
      obtain ⟨q0, q1, q2⟩ := HQ1.out.cells
      obtain ⟨x0, x1, x2⟩ := HX5.out.cells
      go_wp2_with fail
      generalize (w1.alloc (.cells #[.string h, .string p, .string f] 26)) = W5 at HB5 HE5 HQ5 HX5 x0 x1 x2 ⊢
      generalize w1.heap.size = X at HX5 x0 x1 x2 ⊢
      refine (H3.out _ HE5.out).mono ?_
      rintro e w2 ⟨rfl, hb2⟩
      have HB6 := Lib.hid (bstep HB5.out hb2)
      have HE6 := Lib.hid (HE5.out.below hb2)
      have HX6 := Lib.hid (HX5.out.below hb2)
      have HQ6 := Lib.hid (HQ5.out.below hb2)
      clear hb2 q0 q1 q2 x0 x1 x2
      obtain ⟨x0, x1, x2⟩ := HX6.out.cells
      go_wp2_with fail
      refine (H1.out _).mono ?_
      rintro e w3 ⟨rfl, hb3⟩
      have HB7 := Lib.hid (bstep HB6.out hb3)
      have HE7 := Lib.hid (HE6.out.below hb3)
      have HX7 := Lib.hid (HX6.out.below hb3)
      have HQ7 := Lib.hid (HQ6.out.below hb3)
      clear hb3 x0 x1 x2
      obtain ⟨q0, q1, q2⟩ := HQ7.out.cells
      go_wp2_with fail
      refine (HT.out _ HE7.out).mono ?_
      rintro e w4 ⟨a4, c4, rfl, -, hb4⟩
      have hB4 := below_agg3 w4 (.int .i64 416) (.slice a4 0 c4) (.string ⟨#[]⟩) 37
      have HB8 := Lib.hid (bstep HB7.out (bstep hb4 hB4))
      have HE8 := Lib.hid ((HE7.out.below hb4).below hB4)
      have HX8 := Lib.hid ((HX7.out.below hb4).below hB4)
      obtain ⟨r0, r1, r2⟩ := box3 w4 (.int .i64 416) (.slice a4 0 c4) (.string ⟨#[]⟩) 37
      obtain ⟨x0, x1, x2⟩ := HX8.out.cells
      clear hb4 hB4 q0 q1 q2
      go_wp2_with fail
      refine (H5.out _ HE8.out).mono ?_
      rintro e w5 ⟨rfl, hb5⟩
      have HB9 := Lib.hid (bstep HB8.out hb5)
      have HE9 := Lib.hid (HE8.out.below hb5)
      clear hb5 x0 x1 x2 r0 r1 r2
      go_wp2_with fail
      refine (awake27 _ HE9.out).mono ?_
      rintro e w6 ⟨rfl, hb6⟩
      go_wp2_with fail
      go_ret
      exact ⟨rfl, bstep HB9.out hb6⟩
    · exact absurd rfl hc
end Go.Proofs.YtfcomhdgpdbnhaaGreatDoor
