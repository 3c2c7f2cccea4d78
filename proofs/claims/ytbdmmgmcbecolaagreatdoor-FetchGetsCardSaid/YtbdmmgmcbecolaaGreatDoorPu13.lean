/- What the reference of origin returns. The law OriginTells. A connection in memory; what New, Closed, Rest and Served of package serve return. A slice that reads as faults. make and copy of rows of elements of three cells. Links in memory: their faults, a row of events. What Put of package serve does. What Put of the reference of serve returns. What New, next, Left, Harms and Log of package link return. What Ask, Fork and Script of package link do. A link behind some requests: plain words. Links in a law's world: apart from what stood before, and from one another. What Fork of package link does. Two links in a law's world, apart from one another. -/
import Derived.Test.YtbdmmgmcbecolaaGreatDoorPu12
import Derived.Deep.RegionHeld3
import Derived.Deep.AppendLies
import Derived.Laws.OwnMore
set_option linter.unusedVariables false
set_option linter.unusedSimpArgs false
namespace Go.Proofs.YtbdmmgmcbecolaaGreatDoor
open Go.RowKit
theorem below_ro3 (w : World) (x y z : Value) : Below w.heap.size w (w.alloc (.cells #[x, y, z] 38)) := (Below.refl _ _).alloc (Nat.le_refl _) _
set_option maxRecDepth 100000 in
set_option maxHeartbeats 1000000 in
theorem ref_ocheck (h p f : ByteArray) (w : World) (hh : h.size ≤ 9223372036854775807) (hp : p.size ≤ 9223372036854775807) :
    Calls Tryz.prog 38 #[.agg #[.string h, .string p, .string f]] w fun e w' => e = .returned (.int .i64 (orgE h.data.toList p.data.toList : Nat)) ∧ Below w.heap.size w w' := by
  have HP := Lib.hid (fun w => ref_path p w hp)
  have HH := Lib.hid (fun w => ref_host h w hh)
  obtain ⟨x0, x1, x2⟩ := box3 w (.string h) (.string p) (.string f) 38
  have HB0 := Lib.hid (below_ro3 w (.string h) (.string p) (.string f))
  obtain ⟨P, hP⟩ : ∃ P, pathB p.data.toList = P := ⟨_, rfl⟩
  obtain ⟨H, hH⟩ : ∃ H, hostB h.data.toList = H := ⟨_, rfl⟩
  have HR : Hid (orgE h.data.toList p.data.toList = if P = false ∨ H = false then 2 else 0) := Lib.hid (by unfold orgE; rw [hP, hH])
  rw [hP] at HP
  rw [hH] at HH
  clear hP hH hh hp
  cases P
  · go_enter Tryz.func38, Tryz.ntmps38
    go_wp2_with fail
    refine (HP.out _).mono ?_
    rintro e w' ⟨rfl, hww⟩
    obtain rfl := hww.symm
    go_wp2_with fail
    go_ret
    exact ⟨by rw [HR.out]; rfl, HB0.out⟩
  · cases H
    all_goals
      go_enter Tryz.func38, Tryz.ntmps38
      go_wp2_with fail
      refine (HP.out _).mono ?_
      rintro e w' ⟨rfl, hww⟩
      obtain rfl := hww.symm
      go_wp2_with fail
      refine (HH.out _).mono ?_
      rintro e w' ⟨rfl, hww⟩
      obtain rfl := hww.symm
      go_wp2_with fail
      go_ret
      exact ⟨by rw [HR.out]; rfl, HB0.out⟩
def overO (h p f : List UInt8) (most : Int) : Bool := decide (300 < h.length) || decide (300 < p.length) || decide (most < (f.length : Int))
set_option maxRecDepth 100000 in
set_option maxHeartbeats 1000000 in
theorem ref_oover (h p f : ByteArray) (m : Int) (w : World) :
    Calls Tryz.prog 35 #[.agg #[.string h, .string p, .string f], .int .i64 m] w fun e w' => e = .returned (.bool (overO h.data.toList p.data.toList f.data.toList m)) ∧ Below w.heap.size w w' := by
  obtain ⟨x0, x1, x2⟩ := box3 w (.string h) (.string p) (.string f) 38
  have HB0 := Lib.hid (below_ro3 w (.string h) (.string p) (.string f))
  obtain ⟨A, hA⟩ : ∃ A, decide (300 < h.size) = A := ⟨_, rfl⟩
  obtain ⟨B, hB⟩ : ∃ B, decide (300 < p.size) = B := ⟨_, rfl⟩
  obtain ⟨C, hC⟩ : ∃ C, decide (m < (f.size : Int)) = C := ⟨_, rfl⟩
  have HR : Hid (overO h.data.toList p.data.toList f.data.toList m = (A || B || C)) := Lib.hid (by unfold overO; rw [size_len, size_len, size_len, hA, hB, hC])
  have tA : decide ((h.size : Int) > 300) = A := by rw [← hA]; exact decide_eq_decide.2 (by omega)
  have tB : decide ((p.size : Int) > 300) = B := by rw [← hB]; exact decide_eq_decide.2 (by omega)
  have tC : decide ((f.size : Int) > m) = C := hC
  clear hA hB hC
  cases A
  · cases B
    all_goals
      go_enter Tryz.func35, Tryz.ntmps35
      go_wp2_with fail
      go_ret
      exact ⟨by rw [HR.out]; rfl, HB0.out⟩
  · go_enter Tryz.func35, Tryz.ntmps35
    go_wp2_with fail
    go_ret
    exact ⟨by rw [HR.out]; rfl, HB0.out⟩
set_option maxRecDepth 100000 in
set_option maxHeartbeats 8000000 in
theorem ref_oanswer (h p f s : ByteArray) (w : World) (hs : s.size ≤ 1000000) (hf : f.size ≤ 1000000) :
    Calls Tryz.prog 97 #[.agg #[.string h, .string p, .string f], .string s] w (PartPost (orgC h.data.toList p.data.toList f.data.toList s) (orgF h.data.toList p.data.toList f.data.toList s) (bs (orgY h.data.toList p.data.toList f.data.toList s)) 139 w) := by
  have HA := Lib.hid (fun w => ref_aparse s w hs)
  have hB0 := bstep (below_ro3 w (.string h) (.string p) (.string f)) (below_agg3 _ (.int .i64 0) (.slice none 0 0) (.string ⟨#[]⟩) 79)
  have HB0 := Lib.hid hB0
  have HK0 := Lib.hid (heap_alloc2_new w (.cells #[.string h, .string p, .string f] 38) (.cells #[.int .i64 0, .slice none 0 0, .string ⟨#[]⟩] 79))
  have HP0 := Lib.hid (((below_agg3 (w.alloc (.cells #[.string h, .string p, .string f] 38)) (.int .i64 0) (.slice none 0 0) (.string ⟨#[]⟩) 79).block w.heap.size (by simp)).trans (heap_alloc_new w _))
  have HSZ : Hid (((w.alloc (.cells #[.string h, .string p, .string f] 38)).alloc (.cells #[.int .i64 0, .slice none 0 0, .string ⟨#[]⟩] 79)).heap.size = w.heap.size + 1 + 1) := Lib.hid (by simp)
  unfold askV at HA
  obtain ⟨F, hF⟩ : ∃ F, orgF h.data.toList p.data.toList f.data.toList s = F := ⟨_, rfl⟩
  obtain ⟨Y, hY⟩ : ∃ Y, bs (orgY h.data.toList p.data.toList f.data.toList s) = Y := ⟨_, rfl⟩
  have hoth := orgF_other h.data.toList p.data.toList f.data.toList s
  have hprt := org_part h.data.toList p.data.toList f.data.toList s
  unfold orgA orgB at hprt
  obtain ⟨P, hP⟩ : ∃ P, bs (askPath s) = P := ⟨_, rfl⟩
  obtain ⟨Q, hQ⟩ : ∃ Q, bs (askHost s) = Q := ⟨_, rfl⟩
  obtain ⟨a, ha⟩ : ∃ a, askA s = a := ⟨_, rfl⟩
  obtain ⟨b, hb⟩ : ∃ b, askB s = b := ⟨_, rfl⟩
  obtain ⟨n, hn⟩ : ∃ n, askN s = n := ⟨_, rfl⟩
  obtain ⟨E, hE1⟩ : ∃ E, askE s = E := ⟨_, rfl⟩
  have hPd : askPath s = P.data.toList := by rw [← hP, bs_data]
  have hQd : askHost s = Q.data.toList := by rw [← hQ, bs_data]
  obtain ⟨C, hC⟩ : ∃ C, orgC h.data.toList p.data.toList f.data.toList s = C := ⟨_, rfl⟩
  have hCC : C = if E ≠ 0 ∨ n < (s.size : Int) then 400 else if P.data.toList ≠ p.data.toList ∨ Q.data.toList ≠ h.data.toList then 404 else if clipE a b (f.size : Int) ≠ 0 then 416 else 206 := by
    rw [← hC]; unfold orgC; rw [hE1, hn, hPd, hQd, ha, hb, size_len]
  rw [hC, hF] at hoth
  rw [hC, hF, ha, hb, size_len] at hprt
  have HO : Hid (C ≠ 206 → F = [] ∧ Y = ⟨#[]⟩) := Lib.hid (fun e => ⟨(hoth e).1, by rw [← hY, (hoth e).2]; rfl⟩)
  have HPR : Hid (C = 206 → 0 ≤ clipA a b (f.size : Int) ∧ clipA a b (f.size : Int) ≤ clipB a b (f.size : Int) ∧ clipB a b (f.size : Int) < (f.size : Int) ∧ F = [(crangeK, toldL (clipA a b (f.size : Int)) (clipB a b (f.size : Int)) (f.size : Int))] ∧ Y = f.extract (clipA a b (f.size : Int)).toNat (clipB a b (f.size : Int) + 1).toNat) := Lib.hid (fun e => by
    obtain ⟨g1, g2, g3, g4, g5⟩ := hprt e hf
    exact ⟨g1, g2, g3, g4, by rw [← hY, g5, extract_bs]⟩)
  rw [hC, hF, hY]
  rw [hP, hQ, ha, hb, hn, hE1] at HA
  have HCC := Lib.hid hCC
  clear hP hQ hPd hQd hC hCC hF hY hoth hprt hB0
  by_cases h1 : E = 0
  case neg =>
    have hR : C = 400 := by rw [HCC.out, if_pos (.inl h1)]
    have HR : Hid (C = 400 ∧ F = [] ∧ Y = ⟨#[]⟩) := Lib.hid ⟨hR, HO.out (by rw [hR]; decide)⟩
    have tz : ((E : Int) != 0) = true := by rw [bne_iff_ne]; omega
    clear h1 hE1 hn ha hb hR
    go_enter Tryz.func97, Tryz.ntmps97
    go_wp2_with fail
    generalize ((w.alloc (.cells #[.string h, .string p, .string f] 38)).alloc (.cells #[.int .i64 0, .slice none 0 0, .string ⟨#[]⟩] 79)) = W0 at HB0 HP0 HK0 HSZ ⊢
    refine (HA.out _).mono ?_
    rintro e w1 ⟨rfl, hb1⟩
    have hp1 := (hb1.block w.heap.size (by have := HSZ.out; omega)).trans HP0.out
    have hk1 := (hb1.block (w.heap.size + 1) (by have := HSZ.out; omega)).trans HK0.out
    have HB1 := Lib.hid (bstep HB0.out hb1)
    have hs0 : w.heap.size + 1 < w1.heap.size := by have := hb1.size; have := HSZ.out; omega
    have hs1 : w.heap.size < w1.heap.size := by omega
    obtain ⟨o0, o1, o2, -, -, -⟩ := three_facts hp1
    obtain ⟨r0, r1, r2, f0, f1, f2⟩ := three_facts hk1
    have HP1 := Lib.hid hp1
    have HK1 := Lib.hid hk1
    obtain ⟨q0, q1, q2, q3⟩ := box4 w1 (.string P) (.string Q) (.int .i64 a) (.int .i64 b) 102
    clear hp1 hk1 hb1 HP0 HK0
    go_wp2_with fail
    refine ret_cell (A := ⟨w.heap.size + 1, 0, none⟩) rfl (load_rrep _ _ _ _ _ _ ((heap_alloc_old _ _ (by simp; omega)).trans (three_set HK1.out _ _ _))) rfl rfl ?_
    rw [HR.out.1, HR.out.2.1, HR.out.2.2]
    exact ⟨none, 0, rfl, ⟨0, World.ownsRow_nil _ _ _ _⟩, (three_below HB1.out _ (by omega) _ _ _).alloc (by have := HB1.out.size; simp; omega) _⟩
  subst h1
  by_cases h2 : n < (s.size : Int)
  · have hR : C = 400 := by rw [HCC.out, if_pos (.inr h2)]
    have HR : Hid (C = 400 ∧ F = [] ∧ Y = ⟨#[]⟩) := Lib.hid ⟨hR, HO.out (by rw [hR]; decide)⟩
    have t2 : decide (n < (s.size : Int)) = true := decide_eq_true h2
    clear h2 hE1 hn ha hb hR
    go_enter Tryz.func97, Tryz.ntmps97
    go_wp2_with fail
    generalize ((w.alloc (.cells #[.string h, .string p, .string f] 38)).alloc (.cells #[.int .i64 0, .slice none 0 0, .string ⟨#[]⟩] 79)) = W0 at HB0 HP0 HK0 HSZ ⊢
    refine (HA.out _).mono ?_
    rintro e w1 ⟨rfl, hb1⟩
    have hp1 := (hb1.block w.heap.size (by have := HSZ.out; omega)).trans HP0.out
    have hk1 := (hb1.block (w.heap.size + 1) (by have := HSZ.out; omega)).trans HK0.out
    have HB1 := Lib.hid (bstep HB0.out hb1)
    have hs0 : w.heap.size + 1 < w1.heap.size := by have := hb1.size; have := HSZ.out; omega
    have hs1 : w.heap.size < w1.heap.size := by omega
    obtain ⟨o0, o1, o2, -, -, -⟩ := three_facts hp1
    obtain ⟨r0, r1, r2, f0, f1, f2⟩ := three_facts hk1
    have HP1 := Lib.hid hp1
    have HK1 := Lib.hid hk1
    obtain ⟨q0, q1, q2, q3⟩ := box4 w1 (.string P) (.string Q) (.int .i64 a) (.int .i64 b) 102
    clear hp1 hk1 hb1 HP0 HK0
    go_wp2_with fail
    refine ret_cell (A := ⟨w.heap.size + 1, 0, none⟩) rfl (load_rrep _ _ _ _ _ _ ((heap_alloc_old _ _ (by simp; omega)).trans (three_set HK1.out _ _ _))) rfl rfl ?_
    rw [HR.out.1, HR.out.2.1, HR.out.2.2]
    exact ⟨none, 0, rfl, ⟨0, World.ownsRow_nil _ _ _ _⟩, (three_below HB1.out _ (by omega) _ _ _).alloc (by have := HB1.out.size; simp; omega) _⟩
  have t2 : decide (n < (s.size : Int)) = false := decide_eq_false h2
  by_cases h3 : P.data.toList = p.data.toList
  case neg =>
    have hR : C = 404 := by rw [HCC.out, if_neg (fun e => e.elim (fun e => e rfl) h2), if_pos (.inl h3)]
    have HR : Hid (C = 404 ∧ F = [] ∧ Y = ⟨#[]⟩) := Lib.hid ⟨hR, HO.out (by rw [hR]; decide)⟩
    have t3 : ¬ P.toList = p.toList := by rw [ByteArray.toList_eq, ByteArray.toList_eq]; exact h3
    clear h2 h3 hE1 hn ha hb hR
    go_enter Tryz.func97, Tryz.ntmps97
    go_wp2_with fail
    generalize ((w.alloc (.cells #[.string h, .string p, .string f] 38)).alloc (.cells #[.int .i64 0, .slice none 0 0, .string ⟨#[]⟩] 79)) = W0 at HB0 HP0 HK0 HSZ ⊢
    refine (HA.out _).mono ?_
    rintro e w1 ⟨rfl, hb1⟩
    have hp1 := (hb1.block w.heap.size (by have := HSZ.out; omega)).trans HP0.out
    have hk1 := (hb1.block (w.heap.size + 1) (by have := HSZ.out; omega)).trans HK0.out
    have HB1 := Lib.hid (bstep HB0.out hb1)
    have hs0 : w.heap.size + 1 < w1.heap.size := by have := hb1.size; have := HSZ.out; omega
    have hs1 : w.heap.size < w1.heap.size := by omega
    obtain ⟨o0, o1, o2, -, -, -⟩ := three_facts hp1
    obtain ⟨r0, r1, r2, f0, f1, f2⟩ := three_facts hk1
    have HP1 := Lib.hid hp1
    have HK1 := Lib.hid hk1
    obtain ⟨q0, q1, q2, q3⟩ := box4 w1 (.string P) (.string Q) (.int .i64 a) (.int .i64 b) 102
    clear hp1 hk1 hb1 HP0 HK0
    go_wp2_with fail
    refine ret_cell (A := ⟨w.heap.size + 1, 0, none⟩) rfl (load_rrep _ _ _ _ _ _ ((heap_alloc_old _ _ (by simp; omega)).trans (three_set HK1.out _ _ _))) rfl rfl ?_
    rw [HR.out.1, HR.out.2.1, HR.out.2.2]
    exact ⟨none, 0, rfl, ⟨0, World.ownsRow_nil _ _ _ _⟩, (three_below HB1.out _ (by omega) _ _ _).alloc (by have := HB1.out.size; simp; omega) _⟩
  have t3 : P.toList = p.toList := by rw [ByteArray.toList_eq, ByteArray.toList_eq]; exact h3
  by_cases h4 : Q.data.toList = h.data.toList
  case neg =>
    have hR : C = 404 := by rw [HCC.out, if_neg (fun e => e.elim (fun e => e rfl) h2), if_pos (.inr h4)]
    have HR : Hid (C = 404 ∧ F = [] ∧ Y = ⟨#[]⟩) := Lib.hid ⟨hR, HO.out (by rw [hR]; decide)⟩
    have t4 : ¬ Q.toList = h.toList := by rw [ByteArray.toList_eq, ByteArray.toList_eq]; exact h4
    have t4b : (Q.toList == h.toList) = false := by rw [beq_eq_false_iff_ne]; exact t4
    clear h2 h3 h4 hE1 hn ha hb hR
    go_enter Tryz.func97, Tryz.ntmps97
    go_wp2_with fail
    generalize ((w.alloc (.cells #[.string h, .string p, .string f] 38)).alloc (.cells #[.int .i64 0, .slice none 0 0, .string ⟨#[]⟩] 79)) = W0 at HB0 HP0 HK0 HSZ ⊢
    refine (HA.out _).mono ?_
    rintro e w1 ⟨rfl, hb1⟩
    have hp1 := (hb1.block w.heap.size (by have := HSZ.out; omega)).trans HP0.out
    have hk1 := (hb1.block (w.heap.size + 1) (by have := HSZ.out; omega)).trans HK0.out
    have HB1 := Lib.hid (bstep HB0.out hb1)
    have hs0 : w.heap.size + 1 < w1.heap.size := by have := hb1.size; have := HSZ.out; omega
    have hs1 : w.heap.size < w1.heap.size := by omega
    obtain ⟨o0, o1, o2, -, -, -⟩ := three_facts hp1
    obtain ⟨r0, r1, r2, f0, f1, f2⟩ := three_facts hk1
    have HP1 := Lib.hid hp1
    have HK1 := Lib.hid hk1
    obtain ⟨q0, q1, q2, q3⟩ := box4 w1 (.string P) (.string Q) (.int .i64 a) (.int .i64 b) 102
    clear hp1 hk1 hb1 HP0 HK0
    go_wp2_with fail
    refine ret_cell (A := ⟨w.heap.size + 1, 0, none⟩) rfl (load_rrep _ _ _ _ _ _ ((heap_alloc_old _ _ (by simp; omega)).trans (three_set HK1.out _ _ _))) rfl rfl ?_
    rw [HR.out.1, HR.out.2.1, HR.out.2.2]
    exact ⟨none, 0, rfl, ⟨0, World.ownsRow_nil _ _ _ _⟩, (three_below HB1.out _ (by omega) _ _ _).alloc (by have := HB1.out.size; simp; omega) _⟩
  have t4 : Q.toList = h.toList := by rw [ByteArray.toList_eq, ByteArray.toList_eq]; exact h4
  have HCl := Lib.hid (fun w => ref_clip a b (f.size : Int) w (by omega) (by omega))
  obtain ⟨K, hK⟩ : ∃ K, clipE a b (f.size : Int) = K := ⟨_, rfl⟩
  have HCK : Hid (C = if K ≠ 0 then 416 else 206) := Lib.hid (by
    rw [HCC.out, if_neg (fun e => e.elim (fun e => e rfl) h2), if_neg (fun e => e.elim (fun e => e h3) (fun e => e h4)), hK])
  rw [hK] at HCl
  generalize clipA a b (f.size : Int) = A at HCl HPR
  generalize clipB a b (f.size : Int) = B at HCl HPR
  by_cases h5 : K = 0
  case neg =>
    have hR : C = 416 := by rw [HCK.out, if_pos h5]
    have HR : Hid (C = 416 ∧ F = [] ∧ Y = ⟨#[]⟩) := Lib.hid ⟨hR, HO.out (by rw [hR]; decide)⟩
    have tz : ((K : Int) != 0) = true := by rw [bne_iff_ne]; omega
    clear h2 h3 h4 h5 hK hE1 hn ha hb hR
    go_enter Tryz.func97, Tryz.ntmps97
    go_wp2_with fail
    generalize ((w.alloc (.cells #[.string h, .string p, .string f] 38)).alloc (.cells #[.int .i64 0, .slice none 0 0, .string ⟨#[]⟩] 79)) = W0 at HB0 HP0 HK0 HSZ ⊢
    refine (HA.out _).mono ?_
    rintro e w1 ⟨rfl, hb1⟩
    have hp1 := (hb1.block w.heap.size (by have := HSZ.out; omega)).trans HP0.out
    have hk1 := (hb1.block (w.heap.size + 1) (by have := HSZ.out; omega)).trans HK0.out
    have HB1 := Lib.hid (bstep HB0.out hb1)
    have hs0 : w.heap.size + 1 < w1.heap.size := by have := hb1.size; have := HSZ.out; omega
    have hs1 : w.heap.size < w1.heap.size := by omega
    obtain ⟨o0, o1, o2, -, -, -⟩ := three_facts hp1
    obtain ⟨r0, r1, r2, f0, f1, f2⟩ := three_facts hk1
    have HP1 := Lib.hid hp1
    have HK1 := Lib.hid hk1
    obtain ⟨q0, q1, q2, q3⟩ := box4 w1 (.string P) (.string Q) (.int .i64 a) (.int .i64 b) 102
    clear hp1 hk1 hb1 HP0 HK0
    go_wp2_with fail
    refine (HCl.out _).mono ?_
    rintro e w2 ⟨rfl, hb2⟩
    have hx : w.heap.size + 1 < (w1.alloc (.cells #[.string P, .string Q, .int .i64 a, .int .i64 b] 102)).heap.size := by simp; omega
    have hk2 := (hb2.block (w.heap.size + 1) hx).trans (((below_agg4 w1 (.string P) (.string Q) (.int .i64 a) (.int .i64 b) 102).block (w.heap.size + 1) hs0).trans HK1.out)
    have HB2 := Lib.hid (bstep HB1.out (bstep (below_agg4 _ _ _ _ _ _) hb2))
    have hs2 : w.heap.size + 1 < w2.heap.size := Nat.lt_of_lt_of_le hx hb2.size
    have HK2 := Lib.hid hk2
    clear r0 r1 r2 f0 f1 f2
    obtain ⟨r0, r1, r2, f0, f1, f2⟩ := three_facts hk2
    clear hb2 hx hk2 o0 o1 o2 q0 q1 q2 q3
    go_wp2_with fail
    refine ret_cell (A := ⟨w.heap.size + 1, 0, none⟩) rfl (load_rrep _ _ _ _ _ _ ((heap_alloc_old _ _ (by simp; omega)).trans (three_set HK2.out _ _ _))) rfl rfl ?_
    rw [HR.out.1, HR.out.2.1, HR.out.2.2]
    exact ⟨none, 0, rfl, ⟨0, World.ownsRow_nil _ _ _ _⟩, (three_below HB2.out _ (by omega) _ _ _).alloc (by have := HB2.out.size; simp; omega) _⟩
  subst h5
  have hR : C = 206 := by rw [HCK.out, if_neg (fun e => e rfl)]
  obtain ⟨g1, g2, g3, g4, g5⟩ := HPR.out hR
  have HR : Hid (C = 206 ∧ F = [(crangeK, toldL A B (f.size : Int))] ∧ Y = f.extract A.toNat (B + 1).toNat) := Lib.hid ⟨hR, g4, g5⟩
  have HT := Lib.hid (fun w => ref_told A B (f.size : Int) w)
  obtain ⟨V, hV⟩ : ∃ V, bs (toldL A B (f.size : Int)) = V := ⟨_, rfl⟩
  rw [hV] at HT
  have HV := Lib.hid hV
  generalize toldE A B (f.size : Int) = TE at HT
  clear h2 h3 h4 hK hE1 hn ha hb hR g4 g5 hV HPR HO
  go_enter Tryz.func97, Tryz.ntmps97
  go_wp2_with fail
  generalize ((w.alloc (.cells #[.string h, .string p, .string f] 38)).alloc (.cells #[.int .i64 0, .slice none 0 0, .string ⟨#[]⟩] 79)) = W0 at HB0 HP0 HK0 HSZ ⊢
  refine (HA.out _).mono ?_
  rintro e w1 ⟨rfl, hb1⟩
  have hp1 := (hb1.block w.heap.size (by have := HSZ.out; omega)).trans HP0.out
  have hk1 := (hb1.block (w.heap.size + 1) (by have := HSZ.out; omega)).trans HK0.out
  have HB1 := Lib.hid (bstep HB0.out hb1)
  have hs0 : w.heap.size + 1 < w1.heap.size := by have := hb1.size; have := HSZ.out; omega
  have hs1 : w.heap.size < w1.heap.size := by omega
  obtain ⟨o0, o1, o2, -, -, -⟩ := three_facts hp1
  obtain ⟨r0, r1, r2, f0, f1, f2⟩ := three_facts hk1
  have HP1 := Lib.hid hp1
  have HK1 := Lib.hid hk1
  obtain ⟨q0, q1, q2, q3⟩ := box4 w1 (.string P) (.string Q) (.int .i64 a) (.int .i64 b) 102
  clear hp1 hk1 hb1 HP0 HK0
  go_wp2_with fail
  refine (HCl.out _).mono ?_
  rintro e w2 ⟨rfl, hb2⟩
  have hx : w.heap.size + 1 < (w1.alloc (.cells #[.string P, .string Q, .int .i64 a, .int .i64 b] 102)).heap.size := by simp; omega
  have hk2 := (hb2.block (w.heap.size + 1) hx).trans (((below_agg4 w1 (.string P) (.string Q) (.int .i64 a) (.int .i64 b) 102).block (w.heap.size + 1) hs0).trans HK1.out)
  have hp2 := (hb2.block w.heap.size (by omega)).trans (((below_agg4 w1 (.string P) (.string Q) (.int .i64 a) (.int .i64 b) 102).block w.heap.size hs1).trans HP1.out)
  have HB2 := Lib.hid (bstep HB1.out (bstep (below_agg4 _ _ _ _ _ _) hb2))
  have hs2 : w.heap.size + 1 < w2.heap.size := Nat.lt_of_lt_of_le hx hb2.size
  have hs3 : w.heap.size < w2.heap.size := by omega
  have HK2 := Lib.hid hk2
  have HP2 := Lib.hid hp2
  clear r0 r1 r2 f0 f1 f2 o0 o1 o2
  obtain ⟨o0, o1, o2, -, -, -⟩ := three_facts hp2
  obtain ⟨k0, k1⟩ := box2 w2 (.int .i64 A) (.int .i64 B) 23
  clear hb2 hx hk2 hp2 q0 q1 q2 q3
  go_wp2_with fail
  refine (HT.out _).mono ?_
  rintro e w3 ⟨rfl, hb3⟩
  have hy : w.heap.size + 1 < (w2.alloc (.cells #[.int .i64 A, .int .i64 B] 23)).heap.size := by simp; omega
  have hk3 := (hb3.block (w.heap.size + 1) hy).trans (((below_agg2 w2 (.int .i64 A) (.int .i64 B) 23).block (w.heap.size + 1) hs2).trans HK2.out)
  have hp3 := (hb3.block w.heap.size (by omega)).trans (((below_agg2 w2 (.int .i64 A) (.int .i64 B) 23).block w.heap.size hs3).trans HP2.out)
  have hz : w2.heap.size < (w2.alloc (.cells #[.int .i64 A, .int .i64 B] 23)).heap.size := by simp
  have k0' := (hb3.cell (p := ⟨w2.heap.size, 0, none⟩) hz).trans k0
  have k1' := (hb3.cell (p := ⟨w2.heap.size, 1, none⟩) hz).trans k1
  have HB3 := Lib.hid (bstep HB2.out (bstep (below_agg2 _ _ _ _) hb3))
  have hs4 : w.heap.size + 1 < w3.heap.size := Nat.lt_of_lt_of_le hy hb3.size
  have hs5 : w.heap.size < w3.heap.size := by omega
  have hs6 : w2.heap.size < w3.heap.size := Nat.lt_of_lt_of_le hz hb3.size
  have HK3 := Lib.hid hk3
  clear o0 o1 o2 k0 k1
  obtain ⟨o0, o1, o2, -, -, -⟩ := three_facts hp3
  obtain ⟨r0, r1, r2, f0, f1, f2⟩ := three_facts hk3
  clear hb3 hy hz hk3 hp3
  go_wp2_with fail
  refine ret_cell (A := ⟨w.heap.size + 1, 0, none⟩) rfl (load_rrep _ _ _ _ _ _ ((heap_alloc_old _ _ (by simp; omega)).trans (three_set HK3.out _ _ _))) rfl rfl ?_
  rw [HR.out.1, HR.out.2.1, HR.out.2.2]
  refine ⟨_, _, rfl, ⟨0, ?_⟩, ?_⟩
  · have := own_one_at (((w3.setCell ⟨w.heap.size + 1, 0, none⟩ (.int .i64 206)).setCell ⟨w.heap.size + 1, 1, none⟩ (.slice (some ⟨w3.heap.size, 0, none⟩) 1 1)).setCell ⟨w.heap.size + 1, 2, none⟩ (.string (f.extract A.toNat (B + 1).toNat))) w3.heap.size (by simp) (.string (bs crangeK)) (.string (bs (toldL A B (f.size : Int)))) 139
    rw [HV.out] at this
    have e : fcells [(crangeK, toldL A B (f.size : Int))] = [.string (bs crangeK), .string V] := by rw [← HV.out]; rfl
    rw [e]
    exact this
  · exact (three_below HB3.out _ (by omega) _ _ _).alloc (by have := HB3.out.size; simp; omega) _
set_option maxRecDepth 100000 in
set_option maxHeartbeats 4000000 in
theorem ref_oAnswer (h p f s : ByteArray) (w : World) (hh : h.size ≤ 9223372036854775807) (hp : p.size ≤ 9223372036854775807) (hs : s.size ≤ 1000000) (hf : f.size ≤ 1000000) :
    Calls Tryz.prog 69 #[.agg #[.string h, .string p, .string f], .string s] w fun e w' => e = .returned (.string (bs (orgS h.data.toList p.data.toList f.data.toList s))) ∧ Below w.heap.size w w' := by
  have HC := Lib.hid (fun w => ref_ocheck h p f w hh hp)
  have HS := Lib.hid (fun w => ref_oanswer h p f s w hs hf)
  have HB0 := Lib.hid (below_ro3 w (.string h) (.string p) (.string f))
  have HP0 := Lib.hid (heap_alloc_new w (.cells #[.string h, .string p, .string f] 38))
  have HSZ : Hid ((w.alloc (.cells #[.string h, .string p, .string f] 38)).heap.size = w.heap.size + 1) := Lib.hid (by simp)
  obtain ⟨o0, o1, o2, -, -, -⟩ := three_facts HP0.out
  by_cases he : orgE h.data.toList p.data.toList = 0
  case neg =>
    have HR : Hid (orgS h.data.toList p.data.toList f.data.toList s = []) := Lib.hid (by unfold orgS; rw [if_neg he])
    have tz : ((orgE h.data.toList p.data.toList : Int) != 0) = true := by rw [bne_iff_ne]; omega
    generalize orgE h.data.toList p.data.toList = E at HC tz
    clear he
    go_enter Tryz.func69, Tryz.ntmps69
    go_wp2_with fail
    refine (HC.out _).mono ?_
    rintro e w1 ⟨rfl, hb1⟩
    go_wp2_with fail
    go_ret
    exact ⟨by rw [HR.out]; rfl, bstep HB0.out hb1⟩
  rw [he] at HC
  have HR : Hid (orgS h.data.toList p.data.toList f.data.toList s = repS (orgC h.data.toList p.data.toList f.data.toList s) (orgF h.data.toList p.data.toList f.data.toList s) (orgY h.data.toList p.data.toList f.data.toList s)) := Lib.hid (by unfold orgS; rw [if_pos he])
  have hc4 := orgC_four h.data.toList p.data.toList f.data.toList s
  have hYl := orgY_len h.data.toList p.data.toList f.data.toList s
  rw [size_len] at hYl
  have hFb := orgF_bd h.data.toList p.data.toList f.data.toList s
  generalize orgC h.data.toList p.data.toList f.data.toList s = C at HS HR hc4
  generalize orgF h.data.toList p.data.toList f.data.toList s = F at HS HR hFb
  generalize orgY h.data.toList p.data.toList f.data.toList s = Y at HS HR hYl
  have HPr := Lib.hid (fun W fv hO => ref_rprint C fv F (bs Y) W (by omega) (by omega) hO (by omega) hFb.2 (by rw [bs_size]; omega))
  rw [bs_data] at HPr
  unfold RPost at HPr
  unfold PartPost at HS
  generalize bs Y = YB at HS HPr
  clear he hc4 hYl hFb
  go_enter Tryz.func69, Tryz.ntmps69
  go_wp2_with fail
  refine (HC.out _).mono ?_
  rintro e w1 ⟨rfl, hb1⟩
  have hp1 := (hb1.block w.heap.size (by have := HSZ.out; omega)).trans HP0.out
  have HB1 := Lib.hid (bstep HB0.out hb1)
  clear hb1 o0 o1 o2
  obtain ⟨o0, o1, o2, -, -, -⟩ := three_facts hp1
  clear hp1
  go_wp2_with fail
  refine (HS.out _).mono ?_
  rintro e w3 ⟨a3, c3, rfl, ⟨BB, hO⟩, hb3⟩
  have HB3 := Lib.hid (bstep HB1.out hb3)
  have HO := Lib.hid (HoldsF.of_own hO)
  clear hb3 hO o0 o1 o2
  go_wp2_with fail
  refine (HPr.out _ _ HO.out).mono ?_
  rintro e w4 ⟨rfl, hb4⟩
  go_wp2_with fail
  go_ret
  exact ⟨by rw [HR.out]; rfl, bstep HB3.out hb4⟩
end Go.Proofs.YtbdmmgmcbecolaaGreatDoor
namespace Go.Proofs.YtbdmmgmcbecolaaGreatDoor
open Go.RowKit
theorem overO_false (h p f : ByteArray) (m : Int) (hh : overO h.data.toList p.data.toList f.data.toList m = false) : h.size ≤ 300 ∧ p.size ≤ 300 ∧ (f.size : Int) ≤ m := by
  unfold overO at hh
  rw [Bool.or_eq_false_iff, Bool.or_eq_false_iff, decide_eq_false_iff_not, decide_eq_false_iff_not, decide_eq_false_iff_not, size_len, size_len, size_len] at hh
  omega
/-- an origin that lies in a block of its type -/
structure OAt (w : World) (b : Nat) (T : TypeId) (h p f : ByteArray) : Prop where
  blk : w.heap[b]? = some (.cells #[.string h, .string p, .string f] T (0, 0))
theorem OAt.lt {w : World} {b : Nat} {T : TypeId} {h p f : ByteArray} (k : OAt w b T h p f) : b < w.heap.size := (Array.getElem?_eq_some_iff.1 k.blk).1
theorem OAt.below {w w' : World} {b : Nat} {T : TypeId} {h p f : ByteArray} (k : OAt w b T h p f) (hb : Below w.heap.size w w') : OAt w' b T h p f := ⟨(hb.block b k.lt).trans k.blk⟩
theorem OAt.new (w : World) (T : TypeId) (h p f : ByteArray) : OAt (w.alloc (.cells #[.string h, .string p, .string f] T)) w.heap.size T h p f := ⟨heap_alloc_new w _⟩
theorem OAt.cells {w : World} {b : Nat} {T : TypeId} {h p f : ByteArray} (k : OAt w b T h p f) : w.cell? ⟨b, 0, none⟩ = some (.string h) ∧ w.cell? ⟨b, 1, none⟩ = some (.string p) ∧ w.cell? ⟨b, 2, none⟩ = some (.string f) :=
  let ⟨h0, h1, h2, _⟩ := three_facts k.blk; ⟨h0, h1, h2⟩
end Go.Proofs.YtbdmmgmcbecolaaGreatDoor
namespace Go.Proofs.YtbdmmgmcbecolaaGreatDoor
open Go.RowKit
theorem six_facts {w : World} {b : Nat} {x0 x1 x2 x3 x4 x5 : Value} {t : TypeId} (k : w.heap[b]? = some (.cells #[x0, x1, x2, x3, x4, x5] t (0, 0))) :
    (w.cell? ⟨b, 0, none⟩ = some x0 ∧ w.cell? ⟨b, 1, none⟩ = some x1 ∧ w.cell? ⟨b, 2, none⟩ = some x2 ∧ w.cell? ⟨b, 3, none⟩ = some x3 ∧ w.cell? ⟨b, 4, none⟩ = some x4 ∧ w.cell? ⟨b, 5, none⟩ = some x5) ∧ w.frozen? ⟨b, 3, none⟩ = false ∧ w.frozen? ⟨b, 4, none⟩ = false ∧ w.frozen? ⟨b, 5, none⟩ = false := by
  refine ⟨⟨?_, ?_, ?_, ?_, ?_, ?_⟩, ?_, ?_, ?_⟩ <;> first | (unfold World.cell?; rw [k]; rfl) | (unfold World.frozen?; rw [k]; rfl)
theorem six_set3 {w : World} {b : Nat} {x0 x1 x2 x3 x4 x5 : Value} {t : TypeId} (k : w.heap[b]? = some (.cells #[x0, x1, x2, x3, x4, x5] t (0, 0))) (y : Value) : (w.setCell ⟨b, 3, none⟩ y).heap[b]? = some (.cells #[x0, x1, x2, y, x4, x5] t (0, 0)) := by
  simp [World.setCell, Array.getElem?_modify, k]
theorem six_set4 {w : World} {b : Nat} {x0 x1 x2 x3 x4 x5 : Value} {t : TypeId} (k : w.heap[b]? = some (.cells #[x0, x1, x2, x3, x4, x5] t (0, 0))) (y : Value) : (w.setCell ⟨b, 4, none⟩ y).heap[b]? = some (.cells #[x0, x1, x2, x3, y, x5] t (0, 0)) := by
  simp [World.setCell, Array.getElem?_modify, k]
theorem six_set5 {w : World} {b : Nat} {x0 x1 x2 x3 x4 x5 : Value} {t : TypeId} (k : w.heap[b]? = some (.cells #[x0, x1, x2, x3, x4, x5] t (0, 0))) (y : Value) : (w.setCell ⟨b, 5, none⟩ y).heap[b]? = some (.cells #[x0, x1, x2, x3, x4, y] t (0, 0)) := by
  simp [World.setCell, Array.getElem?_modify, k]
/-- a builder in block b holds the text l -/
abbrev BIs (b : Nat) (l : List UInt8) (w : World) : Prop := Lib.IsBuilderF 194 5 b b (Lib.byteCells l) w
theorem BIs.below {b : Nat} {l : List UInt8} {w w' : World} (h : BIs b l w) (hb : Below w.heap.size w w') : BIs b l w' := Lib.IsBuilderF.below h hb
theorem bat_keep {T e : TypeId} {b : Nat} {p : Value} {xs : List Value} {w w' : World} (h : Lib.BuilderAtF T e b b p xs w) (hk : ∀ g, b ≤ g → g < w.heap.size → w'.heap[g]? = w.heap[g]?) : Lib.BuilderAtF T e b b p xs w' := by
  obtain ⟨hB, v, hv, hown, hne⟩ := h
  refine ⟨hB, v, (hk b (Nat.le_refl _) (Array.getElem?_eq_some_iff.1 hv).1).trans hv, ⟨hown.1, ?_⟩, hne⟩
  rcases hown.2 with h0 | ⟨g, cap, cur, fz, h1, h2, h3, h4⟩
  · exact .inl h0
  · exact .inr ⟨g, cap, cur, fz, h1, h2, (hk g h2 (Array.getElem?_eq_some_iff.1 h3).1).trans h3, h4⟩
/-- what is written below the builder does not touch it -/
theorem BIs.keep {b : Nat} {l : List UInt8} {w w' : World} (h : BIs b l w) (hk : ∀ g, b ≤ g → g < w.heap.size → w'.heap[g]? = w.heap[g]?) : BIs b l w' :=
  h.elim (fun x => .inl (bat_keep x hk)) (fun x => .inr (bat_keep x hk))
end Go.Proofs.YtbdmmgmcbecolaaGreatDoor
namespace Go.Proofs.YtbdmmgmcbecolaaGreatDoor
open Go.RowKit
/-- the slice v reads as the faults l -/
def HoldsC (w : World) (v : Value) (l : List Flt) : Prop :=
  ∃ a c, v = .slice a l.length c ∧ l.length ≤ c ∧ (l ≠ [] → ∃ b o, a = some ⟨b, o, none⟩ ∧ b < w.heap.size ∧ ∀ j (hj : j < l.length), w.cell? ⟨b, o + 3 * j, none⟩ = some (.int .u8 l[j].1) ∧ w.cell? ⟨b, o + 3 * j + 1, none⟩ = some (.int .i64 l[j].2.1) ∧ w.cell? ⟨b, o + 3 * j + 2, none⟩ = some (.string l[j].2.2))
theorem HoldsC.below {w w' : World} {v : Value} {l : List Flt} (h : HoldsC w v l) (hb : Below w.heap.size w w') : HoldsC w' v l := by
  obtain ⟨a, c, hv, hc, hx⟩ := h
  refine ⟨a, c, hv, hc, fun hne => ?_⟩
  obtain ⟨b, o, ha, hlt, hcell⟩ := hx hne
  exact ⟨b, o, ha, Nat.lt_of_lt_of_le hlt hb.size, fun j hj =>
    let ⟨x, y, z⟩ := hcell j hj
    ⟨(hb.cell (p := ⟨b, o + 3 * j, none⟩) hlt).trans x, (hb.cell (p := ⟨b, o + 3 * j + 1, none⟩) hlt).trans y, (hb.cell (p := ⟨b, o + 3 * j + 2, none⟩) hlt).trans z⟩⟩
theorem HoldsC.empty (w : World) (a : Option Addr) (c : Nat) : HoldsC w (.slice a 0 c) [] := ⟨a, c, rfl, Nat.zero_le _, fun h => absurd rfl h⟩
theorem HoldsC.len {w : World} {v : Value} {l : List Flt} (h : HoldsC w v l) : ∃ a c, v = .slice a l.length c ∧ l.length ≤ c := let ⟨a, c, h1, h2, _⟩ := h; ⟨a, c, h1, h2⟩
/-- the block that a slice lies in -/
def ablk : Value → Option Nat
  | .slice (some a) _ _ => some a.block
  | _ => none
theorem HoldsC.kept {w w' : World} {v : Value} {l : List Flt} (h : HoldsC w v l) (hs : w.heap.size ≤ w'.heap.size) (hb : ∀ b, ablk v = some b → w'.heap[b]? = w.heap[b]?) : HoldsC w' v l := by
  obtain ⟨a, c, rfl, hc, hx⟩ := h
  refine ⟨a, c, rfl, hc, fun hne => ?_⟩
  obtain ⟨b, o, rfl, hlt, hcell⟩ := hx hne
  have hk := hb b rfl
  have key : ∀ i, w'.cell? ⟨b, i, none⟩ = w.cell? ⟨b, i, none⟩ := fun i => cell_kept (a := ⟨b, i, none⟩) hk
  exact ⟨b, o, rfl, Nat.lt_of_lt_of_le hlt hs, fun j hj =>
    let ⟨x, y, z⟩ := hcell j hj
    ⟨(key _).trans x, (key _).trans y, (key _).trans z⟩⟩
theorem HoldsC.of_own {w : World} {base n : Nat} {e : TypeId} {v : Value} {l : List Flt} (h : w.ownsRow base e 3 v n (flts l)) : HoldsC w v l := by
  have hn : l.length = n := by have := h.1; rw [flts_length] at this; omega
  subst hn
  rcases h.2 with ⟨rfl, h0⟩ | ⟨g, cap, cur, rfl, hb, hg, hle, hm, hs, ht⟩
  · have : l = [] := List.eq_nil_of_length_eq_zero h0
    subst this
    exact HoldsC.empty w none 0
  · refine ⟨_, cap, rfl, hle, fun _ => ⟨g, 0, rfl, (Array.getElem?_eq_some_iff.1 hg).1, fun j hj => ?_⟩⟩
    obtain ⟨x, y, z⟩ := flts_get l j hj
    have key : ∀ i u, (flts l)[i]? = some u → w.cell? ⟨g, 0 + i, none⟩ = some u := by
      intro i u hu
      have := h.cells (g := g) rfl i u hu
      have e0 : (⟨g, 0, none⟩ : Addr).add i = ⟨g, 0 + i, none⟩ := by unfold Addr.add; split <;> simp_all
      rwa [e0] at this
    exact ⟨key _ _ x, by have := key _ _ y; rwa [show 0 + 3 * j + 1 = 0 + (3 * j + 1) by omega], by have := key _ _ z; rwa [show 0 + 3 * j + 2 = 0 + (3 * j + 2) by omega]⟩
/-- the first fault, and the rest of them -/
theorem HoldsC.first {w : World} {v : Value} {x : Flt} {l : List Flt} (h : HoldsC w v (x :: l)) : ∃ b o c, v = .slice (some ⟨b, o, none⟩) (l.length + 1) c ∧ l.length + 1 ≤ c ∧ b < w.heap.size ∧ w.cell? ⟨b, o, none⟩ = some (.int .u8 x.1) ∧ w.cell? ⟨b, o + 1, none⟩ = some (.int .i64 x.2.1) ∧ w.cell? ⟨b, o + 2, none⟩ = some (.string x.2.2) ∧
    HoldsC w (.slice (some (if c = 1 then ⟨b, o, none⟩ else ⟨b, o + 3, none⟩)) l.length (c - 1)) l := by
  obtain ⟨a, c, rfl, hc, hx⟩ := h
  obtain ⟨b, o, rfl, hlt, hcell⟩ := hx (by simp)
  obtain ⟨x1, x2, x3⟩ := hcell 0 (by simp)
  refine ⟨b, o, c, rfl, hc, hlt, x1, x2, x3, _, _, rfl, by simp at hc; omega, fun hne => ?_⟩
  have hl : 0 < l.length := List.length_pos_iff.2 hne
  have hc1 : c ≠ 1 := by simp at hc; omega
  rw [if_neg hc1]
  refine ⟨b, o + 3, rfl, hlt, fun j hj => ?_⟩
  obtain ⟨y1, y2, y3⟩ := hcell (j + 1) (by simp; omega)
  simp only [List.getElem_cons_succ] at y1 y2 y3
  refine ⟨?_, ?_, ?_⟩
  · rw [show o + 3 + 3 * j = o + 3 * (j + 1) by omega]; exact y1
  · rw [show o + 3 + 3 * j + 1 = o + 3 * (j + 1) + 1 by omega]; exact y2
  · rw [show o + 3 + 3 * j + 2 = o + 3 * (j + 1) + 2 by omega]; exact y3
end Go.Proofs.YtbdmmgmcbecolaaGreatDoor
namespace Go.Proofs.YtbdmmgmcbecolaaGreatDoor
open Go.RowKit
theorem run_make3 {P : Program} (t e : TypeId) (z : Value) (k b : Nat) (hu : P.underlying t = some (.slice e)) (hinf : (P.info? e).map (fun i => (i.zero, i.size, i.bytes)) = some (some z, k, b)) (hb : b ≤ 1000) (N : Nat) (hN : N ≤ 1000000) (w : World) :
    (Instr.makeSlice t (.int .i64 (N : Int)) (.int .i64 (N : Int))).run P w = .ok (.slice (some ⟨w.heap.size, 0, none⟩) N N) (w.alloc (.cells (madeCells z.cells (N * k)) e)) := by
  obtain ⟨i0, hi, hz0, hz1, hz2⟩ := info_parts hinf
  have hbN : b * N ≤ 1000 * 1000000 := Nat.mul_le_mul hb hN
  have := run_make (P := P) w t e i0 _ hu hi hz0 .i64 .i64 N N (by omega) (by omega) (by rw [hz2]; rw [← Int.natCast_mul]; omega) (by omega)
  rw [this, hz1, Int.toNat_natCast]
theorem run_copy_zero {P : Program} (dT sT ty e : TypeId) (k : Nat) (hu : P.underlying dT = some (.slice e)) (hs : (P.info? e).map (·.size) = some k) (d s : Option Addr) (n c cx : Nat) (w : World) :
    (Builtin.copy_ #[dT, sT] ty #[.slice d n c, .slice s 0 cx]).run P w = .ok (.int .i64 0) w := by
  cases hq : P.info? e with
  | none => simp [hq] at hs
  | some i =>
    cases d <;> cases s <;> simp [Builtin.copy_, run_underlying hu, Builtin.lenOf, Builtin.firstCells, sizeOf, typeInfo, hq, storeCells, loadCells, goInt, loadCellsFrom]
/-- the cells of a list, three for each of its elements, read from a slice -/
theorem holds_src {w : World} {l : List Flt} {b o : Nat} (h : ∀ j (hj : j < l.length), w.cell? ⟨b, o + 3 * j, none⟩ = some (.int .u8 l[j].1) ∧ w.cell? ⟨b, o + 3 * j + 1, none⟩ = some (.int .i64 l[j].2.1) ∧ w.cell? ⟨b, o + 3 * j + 2, none⟩ = some (.string l[j].2.2)) :
    ∀ i v, (flts l)[i]? = some v → w.cell? ((⟨b, o, none⟩ : Addr).add i) = some v := by
  intro i v hv
  have hlt : i < (flts l).length := (List.getElem?_eq_some_iff.1 hv).1
  rw [flts_length] at hlt
  have hj : i / 3 < l.length := by omega
  obtain ⟨a, b', c⟩ := flts_get l (i / 3) hj
  obtain ⟨x, y, z⟩ := h (i / 3) hj
  rw [Addr.add_lit]
  have hm : i % 3 = 0 ∨ i % 3 = 1 ∨ i % 3 = 2 := by omega
  rcases hm with hm | hm | hm
  · have e : i = 3 * (i / 3) := by omega
    rw [e] at hv ⊢
    rw [a] at hv
    rw [← Option.some.inj hv]; exact x
  · have e : i = 3 * (i / 3) + 1 := by omega
    rw [e] at hv ⊢
    rw [b'] at hv
    rw [← Option.some.inj hv, ← Nat.add_assoc]; exact y
  · have e : i = 3 * (i / 3) + 2 := by omega
    rw [e] at hv ⊢
    rw [c] at hv
    rw [← Option.some.inj hv, ← Nat.add_assoc]; exact z
theorem flts_one (l : List Flt) : ∀ v ∈ flts l, v.oneCell' = true := by
  intro v hv
  unfold flts at hv
  obtain ⟨x, -, hx⟩ := List.mem_flatMap.1 hv
  simp only [List.mem_cons, List.not_mem_nil, or_false] at hx
  rcases hx with rfl | rfl | rfl <;> rfl
theorem evs_one (l : List Evt) : ∀ v ∈ evs l, v.oneCell' = true := by
  intro v hv
  unfold evs at hv
  obtain ⟨x, -, hx⟩ := List.mem_flatMap.1 hv
  simp only [List.mem_cons, List.not_mem_nil, or_false] at hx
  rcases hx with rfl | rfl | rfl <;> rfl
/-- a whole row laid anew is owned -/
theorem own_filled {w : World} {e : TypeId} {N k : Nat} {cs : List Value} {cur : Array Value} {B : Nat} (hg : w.heap[B]? = some (.cells cur e (0, 0))) (hl : cs.length = N * k) (hc : cur.size = N * k) (hN : N ≤ 1000000) (base : Nat) (hb : base ≤ B) :
    (w.setRow B (splice cur.toList 0 cs).toArray).ownsRow base e k (.slice (some ⟨B, 0, none⟩) N N) N cs := by
  have hsp : splice cur.toList 0 cs = cs := by
    unfold splice
    rw [List.take_zero, List.nil_append, Nat.zero_add, List.drop_of_length_le (by rw [Array.length_toList, hc, hl]; exact Nat.le_refl _), List.append_nil]
  rw [hsp]
  refine ⟨hl, .inr ⟨B, N, cs.toArray, rfl, hb, setRow_heap w B cur _ e _ hg, Nat.le_refl _, by unfold maxLen; omega, by simp [hl], ?_⟩⟩
  rw [List.take_of_length_le (by simp [hl])]
/-- a copy of faults into a new row -/
theorem copy_holds {P : Program} (dT sT e : TypeId) (hu : P.underlying dT = some (.slice e)) (hs : (P.info? e).map (·.size) = some 3) {W : World} {v : Value} {l : List Flt} {B : Nat} {cur : Array Value} (hg : W.heap[B]? = some (.cells cur e (0, 0))) (hc : cur.size = l.length * 3) (hh : HoldsC W v l) (hn : l.length ≤ 1000000) :
    ∃ W', (∀ ty, (Builtin.copy_ #[dT, sT] ty #[.slice (some ⟨B, 0, none⟩) l.length l.length, v]).run P W = .ok (.int .i64 l.length) W') ∧ W'.ownsRow B e 3 (.slice (some ⟨B, 0, none⟩) l.length l.length) l.length (flts l) ∧ Touch (fun g => g = B) W W' := by
  obtain ⟨a, c, rfl, hcl, hx⟩ := hh
  by_cases hl : l = []
  · subst hl
    refine ⟨W, fun ty => run_copy_zero dT sT ty e 3 hu hs _ _ _ _ _ W, ⟨rfl, .inr ⟨B, 0, cur, rfl, Nat.le_refl _, hg, Nat.le_refl _, Nat.zero_le _, by simpa using hc, by simp [flts]⟩⟩, Touch.refl _ _⟩
  · obtain ⟨b, o, rfl, hlt, hcell⟩ := hx hl
    refine ⟨W.setRow B (splice cur.toList 0 (flts l)).toArray, fun ty => ?_, own_filled hg (flts_length l) hc hn B (Nat.le_refl _), ⟨rfl, rfl, rfl, by simp [World.setRow], fun k hk hne => setRow_other W B k _ hne⟩⟩
    exact run_copy_row_wide W dT sT ty e 3 l.length B 0 l.length l.length ⟨b, o, none⟩ l.length c cur e (flts l) hu hs (Nat.min_self _) (flts_length l).symm hg (holds_src hcell) (by rw [flts_length, hc]; omega) (flts_one l)
/-- append of one element of three cells -/
theorem append3 {ops : Array Oper} {rest : List Oper} {o : Oper} {a : Act} {Q : Exit → Act → World → Prop} (t e : TypeId) (z : Value) (b : Nat) (hu : Tryz.prog.underlying t = some (.slice e)) (hinf : (Tryz.prog.info? e).map (fun i => (i.zero, i.size, i.bytes)) = some (some z, 3, b)) (hz : z.cells.size = 3) (hb : b ≤ 64)
    (w0 : World) (c1 c2 c3 : Value) (h1 : c1.oneCell' = true) (h2 : c2.oneCell' = true) (h3 : c3.oneCell' = true) (hgd : o.guard = none) (s x : Operand) (ho : o.op = .call { callee := .builtin .append, args := #[s, x], argTypes := #[t, t] })
    (base : Nat) (v : Value) (n : Nat) (xs : List Value) (hs : a.eval s = v) (hown : w0.ownsRow base e 3 v n xs) (hx : a.eval x = .slice (some ⟨w0.heap.size, 0, none⟩) 1 1) (hn : n < 2147483648) (hbase : base ≤ w0.heap.size)
    (h : ∀ g cap w', w'.ownsRow base e 3 (.slice (some ⟨g, 0, none⟩) (n + 1) cap) (n + 1) (xs ++ [c1, c2, c3]) → w0.grownBy w' v.ownBlock → (v.ownBlock = some g ∨ w0.heap.size ≤ g) → wpList Tryz.prog ops Q rest (a.put o.dst (.slice (some ⟨g, 0, none⟩) (n + 1) cap)) w') :
    wpList Tryz.prog ops Q (o :: rest) a (w0.alloc (.cells #[c1, c2, c3] e)) := by
  obtain ⟨i0, hi, hz0, hz1, hz2⟩ := info_parts hinf
  have hbn : (n + 1) * b ≤ 2147483648 * 64 := Nat.mul_le_mul (by omega) hb
  refine wpList_append_lies _ hgd s x t ho base e i0 z 3 b hu hi hz0 hz1 hz2 hz (by decide) v n xs hs (hown.alloc _) ⟨w0.heap.size, 0, none⟩ 1 1 [c1, c2, c3] hx rfl (World.news_of_block (heap_alloc_new w0 _)) (fun u hm => ?_) (by decide) (by unfold maxLen; omega) (by omega) (by simp; omega) _ rfl ?_
  · simp only [List.mem_cons, List.not_mem_nil, or_false] at hm
    rcases hm with rfl | rfl | rfl <;> assumption
  · intro g cap w' k2 k3 k4 k5
    refine h g cap w' k2 ⟨k3.os, k3.tape, k3.output, Nat.le_trans (by simp) k3.size, fun k hk hne => (k3.block k (by simp; omega) hne).trans (heap_alloc_old w0 _ hk)⟩ ?_
    rcases k4 with k4 | k4
    · exact .inl k4
    · exact .inr (by rw [k4]; simp)
/-- append of a row of elements of three cells -/
theorem append_row3 {ops : Array Oper} {rest : List Oper} {o : Oper} {a : Act} {Q : Exit → Act → World → Prop} (t e : TypeId) (z : Value) (b : Nat) (hu : Tryz.prog.underlying t = some (.slice e)) (hinf : (Tryz.prog.info? e).map (fun i => (i.zero, i.size, i.bytes)) = some (some z, 3, b)) (hz : z.cells.size = 3) (hb : b ≤ 64)
    (w0 : World) (hgd : o.guard = none) (s x : Operand) (ho : o.op = .call { callee := .builtin .append, args := #[s, x], argTypes := #[t, t] })
    (base : Nat) (v : Value) (n : Nat) (xs : List Value) (hs : a.eval s = v) (hown : w0.ownsRow base e 3 v n xs) (b2 : Nat) (v2 : Value) (m : Nat) (ys : List Value) (hx : a.eval x = v2) (hown2 : w0.ownsRow b2 e 3 v2 m ys) (h1 : ∀ u ∈ ys, u.oneCell' = true) (hn : n + m < 2147483648) (hbase : base ≤ w0.heap.size)
    (h : ∀ a1 c1 w', w'.ownsRow base e 3 (.slice a1 (n + m) c1) (n + m) (xs ++ ys) → w0.grownBy w' v.ownBlock → wpList Tryz.prog ops Q rest (a.put o.dst (.slice a1 (n + m) c1)) w') :
    wpList Tryz.prog ops Q (o :: rest) a w0 := by
  obtain ⟨i0, hi, hz0, hz1, hz2⟩ := info_parts hinf
  have hbn : (n + m) * b ≤ 2147483648 * 64 := Nat.mul_le_mul (by omega) hb
  rcases id hown2.2 with ⟨rfl, h0⟩ | ⟨g, cap, cur, rfl, -⟩
  · subst h0
    have hy : ys = [] := List.length_eq_zero_iff.1 (by have := hown2.1; omega)
    subst hy
    refine wpList_plain hgd fun K hK => ?_
    obtain ⟨a1, c1, rfl⟩ := slice_of_own hown
    have hr := run_append_owned_none (P := Tryz.prog) (w := w0) base t o.type e i0 3 hu hi (.slice a1 n c1) n xs hown
    unfold Oper.wp execOp
    simp only [ho, resolve, invoke, builtin, Sem.run_bind, Sem.run_pure, Result.andThen_ok, List.map_toArray, List.map_cons, List.map_nil, hs, hx, hr]
    exact hK _ _ (h a1 c1 w0 (by rw [List.append_nil]; exact hown) ⟨rfl, rfl, rfl, Nat.le_refl _, fun _ _ _ => rfl⟩)
  · refine wpList_append_own _ hgd s x t ho base e i0 z 3 b hu hi hz0 hz1 hz2 hz (by decide) v n xs hs hown ⟨g, 0, none⟩ m cap ys hx (by have := hown2.1; omega) (hown2.cells (g := g) rfl) h1 (by unfold maxLen; omega) (by omega) hbase ?_
    intro v' w' q1 q2 q3
    obtain ⟨a1, c1, rfl⟩ := slice_of_own q1
    exact h a1 c1 w' q1 q2
end Go.Proofs.YtbdmmgmcbecolaaGreatDoor
namespace Go.Proofs.YtbdmmgmcbecolaaGreatDoor
open Go.RowKit
/-- a link in memory: its origin, the faults that are to come, what its log has, how many harmed -/
structure LAt (w : World) (P B : Nat) (h p f : ByteArray) (rest : List Flt) (log : List Evt) (n : Nat) (rv lv : Value) : Prop where
  blk : w.heap[P]? = some (.cells #[.string h, .string p, .string f, rv, lv, .int .i64 (n : Int)] 97 (0, 0))
  hold : HoldsC w rv rest
  tag : ∀ b, ablk rv = some b → ∃ C, w.heap[b]? = some (.cells C 65 (0, 0))
  own : w.ownsRow B 107 3 lv log.length (evs log)
theorem LAt.lt {w : World} {P B : Nat} {h p f : ByteArray} {rest : List Flt} {log : List Evt} {n : Nat} {rv lv : Value} (k : LAt w P B h p f rest log n rv lv) : P < w.heap.size := (Array.getElem?_eq_some_iff.1 k.blk).1
theorem LAt.keep {w w' : World} {P B : Nat} {h p f : ByteArray} {rest : List Flt} {log : List Evt} {n : Nat} {rv lv : Value} (k : LAt w P B h p f rest log n rv lv) (hs : w.heap.size ≤ w'.heap.size) (hP : w'.heap[P]? = w.heap[P]?) (hr : ∀ b, ablk rv = some b → w'.heap[b]? = w.heap[b]?) (hl : ∀ g, lv.ownBlock = some g → w'.heap[g]? = w.heap[g]?) : LAt w' P B h p f rest log n rv lv where
  blk := hP.trans k.blk
  hold := k.hold.kept hs hr
  tag := fun b hb => let ⟨C, hC⟩ := k.tag b hb; ⟨C, (hr b hb).trans hC⟩
  own := own_of_block k.own hl
theorem LAt.rlt {w : World} {P B : Nat} {h p f : ByteArray} {rest : List Flt} {log : List Evt} {n : Nat} {rv lv : Value} (k : LAt w P B h p f rest log n rv lv) (b : Nat) (hb : ablk rv = some b) : b < w.heap.size := let ⟨_, hC⟩ := k.tag b hb; (Array.getElem?_eq_some_iff.1 hC).1
theorem LAt.below {w w' : World} {P B : Nat} {h p f : ByteArray} {rest : List Flt} {log : List Evt} {n : Nat} {rv lv : Value} (k : LAt w P B h p f rest log n rv lv) (hb : Below w.heap.size w w') : LAt w' P B h p f rest log n rv lv :=
  k.keep hb.size (hb.block P k.lt) (fun b h => hb.block b (k.rlt b h)) (fun g h => hb.block g (k.own.lt g h).2)
theorem LAt.touch {w w' : World} {S : Nat → Prop} {P B : Nat} {h p f : ByteArray} {rest : List Flt} {log : List Evt} {n : Nat} {rv lv : Value} (k : LAt w P B h p f rest log n rv lv) (ht : Touch S w w') (hP : ¬ S P) (hr : ∀ b, ablk rv = some b → ¬ S b) (hl : ∀ g, lv.ownBlock = some g → ¬ S g) : LAt w' P B h p f rest log n rv lv :=
  k.keep ht.size (ht.block P k.lt hP) (fun b h => ht.block b (k.rlt b h) (hr b h)) (fun g h => ht.block g (k.own.lt g h).2 (hl g h))
theorem LAt.cells {w : World} {P B : Nat} {h p f : ByteArray} {rest : List Flt} {log : List Evt} {n : Nat} {rv lv : Value} (k : LAt w P B h p f rest log n rv lv) :
    (w.cell? ⟨P, 0, none⟩ = some (.string h) ∧ w.cell? ⟨P, 1, none⟩ = some (.string p) ∧ w.cell? ⟨P, 2, none⟩ = some (.string f) ∧ w.cell? ⟨P, 3, none⟩ = some rv ∧ w.cell? ⟨P, 4, none⟩ = some lv ∧ w.cell? ⟨P, 5, none⟩ = some (.int .i64 (n : Int))) ∧ w.frozen? ⟨P, 3, none⟩ = false ∧ w.frozen? ⟨P, 4, none⟩ = false ∧ w.frozen? ⟨P, 5, none⟩ = false := six_facts k.blk
theorem LAt.rne {w : World} {P B : Nat} {h p f : ByteArray} {rest : List Flt} {log : List Evt} {n : Nat} {rv lv : Value} (k : LAt w P B h p f rest log n rv lv) (b : Nat) (hb : ablk rv = some b) : b ≠ P := fun e => by
  obtain ⟨C, hC⟩ := k.tag b hb
  rw [e, k.blk] at hC
  simp only [Option.some.injEq, Obj.cells.injEq] at hC
  exact absurd hC.2.1 (by decide)
theorem LAt.lne {w : World} {P B : Nat} {h p f : ByteArray} {rest : List Flt} {log : List Evt} {n : Nat} {rv lv : Value} (k : LAt w P B h p f rest log n rv lv) : lv.ownBlock ≠ some P := own_not_row k.own k.blk (by decide)
theorem LAt.rl {w : World} {P B : Nat} {h p f : ByteArray} {rest : List Flt} {log : List Evt} {n : Nat} {rv lv : Value} (k : LAt w P B h p f rest log n rv lv) (b : Nat) (hb : ablk rv = some b) : lv.ownBlock ≠ some b := by
  obtain ⟨C, hC⟩ := k.tag b hb
  exact own_not_row k.own hC (by decide)
theorem HoldsC.set {w : World} {v : Value} {l : List Flt} (h : HoldsC w v l) (a : Addr) (y : Value) (hb : ∀ b, ablk v = some b → b ≠ a.block) : HoldsC (w.setCell a y) v l :=
  h.kept (by rw [set_size]; exact Nat.le_refl _) (fun b h1 => Below.heap_setCell _ _ _ _ (hb b h1))
/-- other faults are laid -/
theorem LAt.setRest {w : World} {P B : Nat} {h p f : ByteArray} {rest rest' : List Flt} {log : List Evt} {n : Nat} {rv rv' lv : Value} (k : LAt w P B h p f rest log n rv lv) (hr : HoldsC w rv' rest') (ht : ∀ b, ablk rv' = some b → ∃ C, w.heap[b]? = some (.cells C 65 (0, 0))) : LAt (w.setCell ⟨P, 3, none⟩ rv') P B h p f rest' log n rv' lv := by
  have hne : ∀ b, ablk rv' = some b → b ≠ P := fun b hb e => by
    obtain ⟨C, hC⟩ := ht b hb
    rw [e, k.blk] at hC
    simp only [Option.some.injEq, Obj.cells.injEq] at hC
    exact absurd hC.2.1 (by decide)
  refine ⟨six_set3 k.blk _, hr.set _ _ hne, fun b hb => ?_, own_of_block k.own (fun g hg => Below.heap_setCell _ _ _ _ (fun e => k.lne (by rw [hg]; exact congrArg some e)))⟩
  obtain ⟨C, hC⟩ := ht b hb
  exact ⟨C, (Below.heap_setCell _ _ _ _ (hne b hb)).trans hC⟩
theorem LAt.setHarm {w : World} {P B : Nat} {h p f : ByteArray} {rest : List Flt} {log : List Evt} {n m : Nat} {rv lv : Value} (k : LAt w P B h p f rest log n rv lv) : LAt (w.setCell ⟨P, 5, none⟩ (.int .i64 (m : Int))) P B h p f rest log m rv lv := by
  refine ⟨six_set5 k.blk _, k.hold.set _ _ k.rne, fun b hb => ?_, own_of_block k.own (fun g hg => Below.heap_setCell _ _ _ _ (fun e => k.lne (by rw [hg]; exact congrArg some e)))⟩
  obtain ⟨C, hC⟩ := k.tag b hb
  exact ⟨C, (Below.heap_setCell _ _ _ _ (k.rne b hb)).trans hC⟩
/-- a link laid anew -/
theorem LAt.new {W : World} {B0 B : Nat} {h p f : ByteArray} {l : List Flt} {log : List Evt} {n : Nat} {rv lv : Value} (hr : W.ownsRow B0 65 3 rv l.length (flts l)) (ho : W.ownsRow B 107 3 lv log.length (evs log)) : LAt (W.alloc (.cells #[.string h, .string p, .string f, rv, lv, .int .i64 (n : Int)] 97 (0, 0))) W.heap.size B h p f l log n rv lv := by
  have hb : Below W.heap.size W (W.alloc (.cells #[.string h, .string p, .string f, rv, lv, .int .i64 (n : Int)] 97 (0, 0))) := (Below.refl _ _).alloc (Nat.le_refl _) _
  refine ⟨heap_alloc_new W _, (HoldsC.of_own hr).below hb, fun b hbk => ?_, own_of_block ho (fun g hg => hb.block g (ho.lt g hg).2)⟩
  rcases hr.2 with ⟨rfl, -⟩ | ⟨g, cap, cur, rfl, h1, h2, -⟩
  · cases hbk
  · injection hbk with e
    subst e
    exact ⟨cur, (hb.block g (Array.getElem?_eq_some_iff.1 h2).1).trans h2⟩
/-- what a request touches: the link's block, and its log's -/
def LS (P : Nat) (lv : Value) (g : Nat) : Prop := g = P ∨ lv.ownBlock = some g
/-- an event is appended to what the log has -/
theorem append_log {ops : Array Oper} {rest : List Oper} {o : Oper} {a : Act} {Q : Exit → Act → World → Prop} (t : TypeId) (z : Value) (b : Nat) (hu : Tryz.prog.underlying t = some (.slice 107)) (hinf : (Tryz.prog.info? 107).map (fun i => (i.zero, i.size, i.bytes)) = some (some z, 3, b)) (hz : z.cells.size = 3) (hb : b ≤ 64)
    (w0 : World) {P B : Nat} {h p f : ByteArray} {fl : List Flt} {log : List Evt} {n : Nat} {rv lv : Value} (k : LAt w0 P B h p f fl log n rv lv) (x1 x2 : Int) (x3 : Bool) (hgd : o.guard = none) (s x : Operand) (ho : o.op = .call { callee := .builtin .append, args := #[s, x], argTypes := #[t, t] })
    (hs : a.eval s = lv) (hx : a.eval x = .slice (some ⟨w0.heap.size, 0, none⟩) 1 1) (hn : log.length ≤ 1000000) (hB : B ≤ w0.heap.size)
    (K : ∀ g m cap w1, w1.cell? ⟨P, 4, none⟩ = some lv → w1.frozen? ⟨P, 4, none⟩ = false → LAt (w1.setCell ⟨P, 4, none⟩ (.slice (some ⟨g, 0, none⟩) m cap)) P B h p f fl (log ++ [(x1, x2, x3)]) n rv (.slice (some ⟨g, 0, none⟩) m cap) → Touch (LS P lv) w0 (w1.setCell ⟨P, 4, none⟩ (.slice (some ⟨g, 0, none⟩) m cap)) → (lv.ownBlock = some g ∨ w0.heap.size ≤ g) → wpList Tryz.prog ops Q rest (a.put o.dst (.slice (some ⟨g, 0, none⟩) m cap)) w1) :
    wpList Tryz.prog ops Q (o :: rest) a (w0.alloc (.cells #[.int .i64 x1, .int .i64 x2, .bool x3] 107)) := by
  refine append3 t _ z b hu hinf hz hb w0 _ _ _ rfl rfl rfl hgd s x ho B lv log.length (evs log) hs k.own hx (by omega) hB ?_
  intro g cap w1 h1 h2 h3
  have hkP : w1.heap[P]? = some (.cells #[.string h, .string p, .string f, rv, lv, .int .i64 (n : Int)] 97 (0, 0)) := (h2.block P k.lt (fun e => k.lne e.symm)).trans k.blk
  have hr : ∀ b, ablk rv = some b → w1.heap[b]? = w0.heap[b]? := fun b hb => h2.block b (k.rlt b hb) (fun e => k.rl b hb e.symm)
  have h1' : w1.ownsRow B 107 3 (.slice (some ⟨g, 0, none⟩) (log.length + 1) cap) (log ++ [(x1, x2, x3)]).length (evs (log ++ [(x1, x2, x3)])) := by
    rw [evs_append, List.length_append]; exact h1
  obtain ⟨-, -, f4, -⟩ := six_facts hkP
  obtain ⟨⟨-, -, -, -, c4, -⟩, -⟩ := six_facts hkP
  refine K g _ cap w1 c4 f4 ⟨six_set4 hkP _, (k.hold.kept h2.size hr).set _ _ k.rne, fun b hb => ?_, own_of_block h1' (fun g hg => Below.heap_setCell _ _ _ _ (fun e => own_not_row h1 hkP (by decide) (by rw [hg]; exact congrArg some e)))⟩ ?_ h3
  · obtain ⟨C, hC⟩ := k.tag b hb
    exact ⟨C, (Below.heap_setCell _ _ _ _ (k.rne b hb)).trans ((hr b hb).trans hC)⟩
  · exact touch_set _ (Touch.of_grown h2 (fun g hg => .inl (.inr hg))) (.inl (.inl rfl))
end Go.Proofs.YtbdmmgmcbecolaaGreatDoor
namespace Go.Proofs.YtbdmmgmcbecolaaGreatDoor
open Go.RowKit
theorem BIs.take {b B : Nat} {l : List UInt8} {w w' : World} (h : BIs B l w) (ht : Touch (fun g => g = b) w w') (hlt : b < B) : BIs B l w' :=
  h.keep (fun g hg hs => ht.block g hs (fun e => by have : g = b := e; omega))
end Go.Proofs.YtbdmmgmcbecolaaGreatDoor
namespace Go.Proofs.YtbdmmgmcbecolaaGreatDoor
open Go.RowKit
theorem six_all {w : World} {b : Nat} {x0 x1 x2 x3 x4 x5 : Value} {t : TypeId} (k : w.heap[b]? = some (.cells #[x0, x1, x2, x3, x4, x5] t (0, 0))) (y0 y1 y2 y3 y4 y5 : Value) :
    ((((((w.setCell ⟨b, 0, none⟩ y0).setCell ⟨b, 1, none⟩ y1).setCell ⟨b, 2, none⟩ y2).setCell ⟨b, 3, none⟩ y3).setCell ⟨b, 4, none⟩ y4).setCell ⟨b, 5, none⟩ y5).heap[b]? = some (.cells #[y0, y1, y2, y3, y4, y5] t (0, 0)) := by
  simp [World.setCell, Array.getElem?_modify, k]
theorem six_below {B : Nat} {w0 w : World} (h : Below B w0 w) (b : Nat) (hB : B ≤ b) (y0 y1 y2 y3 y4 y5 : Value) : Below B w0 ((((((w.setCell ⟨b, 0, none⟩ y0).setCell ⟨b, 1, none⟩ y1).setCell ⟨b, 2, none⟩ y2).setCell ⟨b, 3, none⟩ y3).setCell ⟨b, 4, none⟩ y4).setCell ⟨b, 5, none⟩ y5) :=
  (((((h.setCell (p := ⟨b, 0, none⟩) hB _).setCell (p := ⟨b, 1, none⟩) hB _).setCell (p := ⟨b, 2, none⟩) hB _).setCell (p := ⟨b, 3, none⟩) hB _).setCell (p := ⟨b, 4, none⟩) hB _).setCell (p := ⟨b, 5, none⟩) hB _
theorem six_free {w : World} {b : Nat} {x0 x1 x2 x3 x4 x5 : Value} {t : TypeId} (k : w.heap[b]? = some (.cells #[x0, x1, x2, x3, x4, x5] t (0, 0))) :
    w.frozen? ⟨b, 0, none⟩ = false ∧ w.frozen? ⟨b, 1, none⟩ = false ∧ w.frozen? ⟨b, 2, none⟩ = false ∧ w.frozen? ⟨b, 3, none⟩ = false ∧ w.frozen? ⟨b, 4, none⟩ = false ∧ w.frozen? ⟨b, 5, none⟩ = false := by
  refine ⟨?_, ?_, ?_, ?_, ?_, ?_⟩ <;> (unfold World.frozen?; rw [k]; rfl)
theorem set_far6 {w : World} {b c o : Nat} {y : Value} (h : b ≠ c) : (w.setCell ⟨c, o, none⟩ y).heap[b]? = w.heap[b]? := Below.heap_setCell _ _ _ _ h
/-- what is still to come, in the reference's loop -/
structure RGo (h p f : ByteArray) (n : Nat) (R : List UInt8 × List UInt8 × Nat × Bool) (l1 acc : List UInt8) (n1 : Nat) : Prop where
  go : R.1 = acc ++ (srvOf h.data.toList p.data.toList f.data.toList l1).1 ∧ R.2.1 = (srvOf h.data.toList p.data.toList f.data.toList l1).2.1 ∧ n + R.2.2.1 = n1 + (srvOf h.data.toList p.data.toList f.data.toList l1).2.2.1 ∧ R.2.2.2 = (srvOf h.data.toList p.data.toList f.data.toList l1).2.2.2
  ll : l1.length ≤ 100000
  al : acc.length ≤ R.1.length
  nl : n1 ≤ n + R.2.2.1
theorem RGo.more {h p f : ByteArray} {n : Nat} {R : List UInt8 × List UInt8 × Nat × Bool} {l1 acc : List UInt8} {n1 k : Nat} (g : RGo h p f n R l1 acc n1) (h0 : askE (bs l1) = 0) (hk : (askN (bs l1)).toNat = k) : RGo h p f n R (l1.drop k) (acc ++ orgS h.data.toList p.data.toList f.data.toList (bs (l1.take k))) (n1 + 1) := by
  obtain ⟨s1, s2, s3, s4⟩ := g.go
  rw [srv_more _ _ _ l1 h0, hk] at s1 s2 s3 s4
  simp only at s1 s2 s3 s4
  refine ⟨⟨by rw [s1, List.append_assoc], s2, by omega, s4⟩, ?_, ?_, by omega⟩
  · rw [List.length_drop]; have := g.ll; omega
  · rw [s1]; simp only [List.length_append]; omega
end Go.Proofs.YtbdmmgmcbecolaaGreatDoor
namespace Go.Proofs.YtbdmmgmcbecolaaGreatDoor
open Go.RowKit
theorem info_flt : (Tryz.prog.info? 65).map (fun i => (i.zero, i.size, i.bytes)) = some (some (.agg #[.int .u8 0, .int .i64 0, .string ByteArray.empty]), 3, 32) := by kernel_rfl
theorem info_evt : (Tryz.prog.info? 107).map (fun i => (i.zero, i.size, i.bytes)) = some (some (.agg #[.int .i64 0, .int .i64 0, .bool false]), 3, 24) := by kernel_rfl
theorem size_flt : (Tryz.prog.info? 65).map (·.size) = some 3 := by kernel_rfl
def zflt (N : Nat) : Array Value := madeCells #[.int .u8 0, .int .i64 0, .string ByteArray.empty] (N * 3)
theorem make_flts (N : Nat) (h : N ≤ 1000000) (w : World) : (Instr.makeSlice 66 (.int .i64 (N : Int)) (.int .i64 (N : Int))).run Tryz.prog w = .ok (.slice (some ⟨w.heap.size, 0, none⟩) N N) (w.alloc (.cells (zflt N) 65)) :=
  run_make3 (P := Tryz.prog) _ _ _ 3 32 Tryz.underlying66 info_flt (by decide) N h w
theorem zflt_size (N : Nat) : (zflt N).size = N * 3 := size_madeCells _ _
/-- make and copy of faults, as one -/
theorem made_flts {w : World} {v : Value} {l : List Flt} (hv : HoldsC w v l) (hn : l.length ≤ 1000000) : ∃ W', (∀ ty, (Builtin.copy_ #[66, 66] ty #[.slice (some ⟨w.heap.size, 0, none⟩) l.length l.length, v]).run Tryz.prog (w.alloc (.cells (zflt l.length) 65)) = .ok (.int .i64 l.length) W') ∧ W'.ownsRow w.heap.size 65 3 (.slice (some ⟨w.heap.size, 0, none⟩) l.length l.length) l.length (flts l) ∧ Below w.heap.size w W' := by
  have hb : Below w.heap.size w (w.alloc (.cells (zflt l.length) 65)) := (Below.refl _ _).alloc (Nat.le_refl _) _
  obtain ⟨W2, hcp, ho, ht⟩ := copy_holds (P := Tryz.prog) 66 66 65 Tryz.underlying66 size_flt (heap_alloc_new w (.cells (zflt l.length) 65)) (zflt_size _) (hv.below hb) hn
  exact ⟨W2, hcp, ho, hb.trans (ht.below (fun g hg => by rw [show g = w.heap.size from hg]; exact Nat.le_refl _) hb.size)⟩
set_option maxRecDepth 100000 in
set_option maxHeartbeats 1000000 in
theorem link_new_bad (h p f : ByteArray) (v : Value) (w : World) (he : orgE h.data.toList p.data.toList ≠ 0) :
    Calls Tryz.prog 24 #[.agg #[.string h, .string p, .string f], v] w fun e w' => e = .returned (.tuple #[.pointer none, .int .i64 2]) ∧ Below w.heap.size w w' := by
  have h2 : orgE h.data.toList p.data.toList = 2 := by
    unfold orgE at he ⊢
    split
    · rfl
    · rename_i hh; rw [if_neg hh] at he; exact absurd rfl he
  have HC := Lib.hid (fun w => origin_check h p f w)
  rw [h2] at HC
  have HB0 := Lib.hid (below_o3 w (.string h) (.string p) (.string f))
  obtain ⟨o0, o1, o2, -, -, -⟩ := three_facts (heap_alloc_new w (.cells #[.string h, .string p, .string f] 63))
  clear he h2
  go_enter Tryz.func24, Tryz.ntmps24
  go_wp2_with fail
  refine (HC.out _).mono ?_
  rintro e w1 ⟨rfl, hb1⟩
  go_wp2_with fail
  go_ret2
  exact ⟨rfl, bstep HB0.out hb1⟩
/-- a new link -/
def NewPost (h p f : ByteArray) (l : List Flt) (w : World) (e : Ending) (w' : World) : Prop :=
  ∃ b rv, e = .returned (.tuple #[.pointer (some ⟨b, 0, none⟩), .int .i64 0]) ∧ w.heap.size ≤ b ∧ LAt w' b w.heap.size h p f l [] 0 rv (.slice none 0 0) ∧ (∀ g, ablk rv = some g → w.heap.size ≤ g) ∧ Below w.heap.size w w'
set_option maxRecDepth 100000 in
set_option maxHeartbeats 2000000 in
theorem link_new (h p f : ByteArray) (v : Value) (l : List Flt) (w : World) (he : orgE h.data.toList p.data.toList = 0) (hv : HoldsC w v l) (hn : l.length ≤ 1000000) :
    Calls Tryz.prog 24 #[.agg #[.string h, .string p, .string f], v] w (NewPost h p f l w) := by
  obtain ⟨a, c, hvv, -⟩ := hv.len
  subst hvv
  have HC := Lib.hid (fun w => origin_check h p f w)
  rw [he] at HC
  have HB0 := Lib.hid (below_o3 w (.string h) (.string p) (.string f))
  have HP0 := Lib.hid (heap_alloc_new w (.cells #[.string h, .string p, .string f] 63))
  have HSZ : Hid ((w.alloc (.cells #[.string h, .string p, .string f] 63)).heap.size = w.heap.size + 1) := Lib.hid (by simp)
  have HV := Lib.hid (fun W (hW : Below w.heap.size w W) => made_flts (hv.below hW) hn)
  have hmk := make_flts l.length hn
  obtain ⟨o0, o1, o2, -, -, -⟩ := three_facts HP0.out
  clear he hv hn
  go_enter Tryz.func24, Tryz.ntmps24
  go_wp2_with fail
  refine (HC.out _).mono ?_
  rintro e w1 ⟨rfl, hb1⟩
  have hp1 := (hb1.block w.heap.size (by have := HSZ.out; omega)).trans HP0.out
  have HB1 := Lib.hid (bstep HB0.out hb1)
  have hs1 : w.heap.size < w1.heap.size := (Array.getElem?_eq_some_iff.1 hp1).1
  obtain ⟨W2, hcp, ho2, hb2⟩ := HV.out w1 HB1.out
  have hp2 := (hb2.block w.heap.size hs1).trans hp1
  have HO := Lib.hid ho2
  have HB2 := Lib.hid (bstep HB1.out hb2)
  have HS1 := Lib.hid hs1
  clear hb1 o0 o1 o2 hp1 ho2 hb2 hs1
  obtain ⟨o0, o1, o2, -, -, -⟩ := three_facts hp2
  clear hp2
  go_wp2_with (at_builtin; refine Go.Proofs.wpList_copy_runI _ rfl _ _ 66 66 rfl _ _ rfl rfl (hcp _) ?_)
  go_ret2
  refine ⟨_, _, rfl, HB2.out.size, LAt.new HO.out (World.ownsRow_nil _ _ _ _), fun g hg => ?_, HB2.out.alloc HB2.out.size _⟩
  have e1 : some w1.heap.size = some g := hg
  injection e1 with e1
  have := HS1.out
  omega
/-- next: the first fault is taken -/
def NextPost (w : World) (P B : Nat) (h p f : ByteArray) (rest : List Flt) (log : List Evt) (n : Nat) (rv lv : Value) (X : Flt) (e : Ending) (w' : World) : Prop :=
  e = .returned (.agg #[.int .u8 X.1, .int .i64 X.2.1, .string X.2.2]) ∧ ∃ rv', LAt w' P B h p f rest log n rv' lv ∧ Touch (fun g => g = P) w w' ∧ ∀ g, ablk rv' = some g → ablk rv = some g
theorem load_flt (w : World) (b : Nat) (t : TypeId) (x0 x1 x2 : Value) (h : w.heap[b]? = some (.cells #[x0, x1, x2] t (0, 0))) : (loadVar 65 ⟨b, 0, none⟩).run Tryz.prog w = .ok (.agg #[x0, x1, x2]) w :=
  run_loadVar_row w b t 65 #[x0, x1, x2] (0, 0) _ h Tryz.underlying65 rfl (by kernel_rfl)
theorem below_flt (w : World) (x y z : Value) : Below w.heap.size w (w.alloc (.cells #[x, y, z] 65)) := (Below.refl _ _).alloc (Nat.le_refl _) _
set_option maxRecDepth 100000 in
set_option maxHeartbeats 1000000 in
theorem link_next_none {w : World} {P B : Nat} {h p f : ByteArray} {log : List Evt} {n : Nat} {rv lv : Value} (k : LAt w P B h p f [] log n rv lv) :
    Calls Tryz.prog 64 #[.pointer (some ⟨P, 0, none⟩)] w (NextPost w P B h p f [] log n rv lv noF) := by
  have hb0 := below_flt w (.int .u8 0) (.int .i64 0) (.string ⟨#[]⟩)
  have hg0 := heap_alloc_new w (.cells #[.int .u8 0, .int .i64 0, .string ⟨#[]⟩] 65)
  obtain ⟨⟨-, -, -, c3, -, -⟩, -⟩ := (k.below hb0).cells
  obtain ⟨-, -, -, g0, g1, g2⟩ := three_facts hg0
  obtain ⟨a, c, hrv, -⟩ := k.hold.len
  have HK := Lib.hid (k.below hb0)
  have HB0 := Lib.hid hb0
  have HG := Lib.hid hg0
  rw [hrv] at c3
  simp only [List.length_nil] at c3
  clear k hrv hb0 hg0
  go_enter Tryz.func64, Tryz.ntmps64
  go_wp2_with fail
  refine ret_cell (A := ⟨w.heap.size, 0, none⟩) rfl (load_flt _ _ _ _ _ _ HG.out) rfl rfl ?_
  exact ⟨rfl, rv, HK.out, Touch.of_below HB0.out, fun g hg => hg⟩
set_option maxRecDepth 100000 in
set_option maxHeartbeats 2000000 in
theorem link_next_some {w : World} {P B : Nat} {h p f : ByteArray} {x : Flt} {l : List Flt} {log : List Evt} {n : Nat} {rv lv : Value} (k : LAt w P B h p f (x :: l) log n rv lv) (hl : l.length ≤ 1000000) :
    Calls Tryz.prog 64 #[.pointer (some ⟨P, 0, none⟩)] w (NextPost w P B h p f l log n rv lv x) := by
  obtain ⟨x1, x2, x3⟩ := x
  have hPl := k.lt
  have hba := below_flt w (.int .u8 0) (.int .i64 0) (.string ⟨#[]⟩)
  have ka := k.below hba
  obtain ⟨⟨-, -, -, a3, -, -⟩, -⟩ := ka.cells
  obtain ⟨b, o, c, hrv, hc, hlt, -, -, -, hh⟩ := k.hold.first
  subst hrv
  obtain ⟨b', o', c', hrv, -, -, x0', x1', x2', -⟩ := ka.hold.first
  injection hrv with e1 e2 e3
  injection e1 with e1
  injection e1 with e1 e4
  subst e1 e3 e4
  have hbb := bstep hba (below_flt (w.alloc (.cells #[.int .u8 0, .int .i64 0, .string ⟨#[]⟩] 65)) (.int .u8 x1) (.int .i64 x2) (.string x3))
  obtain ⟨⟨-, -, -, c3, -, -⟩, f3, -⟩ := (k.below hbb).cells
  have htag := k.tag b rfl
  obtain ⟨V, hV⟩ : ∃ V, V = Value.slice (some (if c = 1 then ⟨b, o, none⟩ else ⟨b, o + 3, none⟩)) l.length (c - 1) := ⟨_, rfl⟩
  rw [← hV] at hh
  have hVb : ∀ g, ablk V = some g → g = b := fun g hg => by
    rw [hV] at hg
    by_cases e : c = 1
    · rw [if_pos e] at hg; injection hg with e1; exact e1.symm
    · rw [if_neg e] at hg; injection hg with e1; exact e1.symm
  have k1 := k.setRest hh (fun g hg => by rw [hVb g hg]; exact htag)
  have t1 : Touch (fun g => g = P) w (w.setCell ⟨P, 3, none⟩ V) := touch_set _ (Touch.refl _ _) (.inl rfl)
  have hb1 := below_flt (w.setCell ⟨P, 3, none⟩ V) (.int .u8 x1) (.int .i64 x2) (.string x3)
  have hb2 := below_flt ((w.setCell ⟨P, 3, none⟩ V).alloc (.cells #[.int .u8 x1, .int .i64 x2, .string x3] 65)) (.int .u8 x1) (.int .i64 x2) (.string x3)
  have hg : (((w.setCell ⟨P, 3, none⟩ V).alloc (.cells #[.int .u8 x1, .int .i64 x2, .string x3] 65)).alloc (.cells #[.int .u8 x1, .int .i64 x2, .string x3] 65)).heap[w.heap.size]? = some (.cells #[.int .u8 x1, .int .i64 x2, .string x3] 65 (0, 0)) := by
    have h1 := heap_alloc_new (w.setCell ⟨P, 3, none⟩ V) (.cells #[.int .u8 x1, .int .i64 x2, .string x3] 65)
    rw [set_size] at h1
    exact (hb2.block w.heap.size (Array.getElem?_eq_some_iff.1 h1).1).trans h1
  have HG := Lib.hid hg
  have HX : Hid (NextPost w P B h p f l log n (.slice (some ⟨b, o, none⟩) (l.length + 1) c) lv (x1, x2, x3) (.returned (.agg #[.int .u8 x1, .int .i64 x2, .string x3])) (((w.setCell ⟨P, 3, none⟩ V).alloc (.cells #[.int .u8 x1, .int .i64 x2, .string x3] 65)).alloc (.cells #[.int .u8 x1, .int .i64 x2, .string x3] 65))) := Lib.hid ⟨rfl, V, (k1.below hb1).below hb2, (t1.trans (Touch.of_below (S := fun g => g = P) hb1) (fun g hg => .inl hg)).trans (Touch.of_below (S := fun g => g = P) hb2) (fun g hg => .inl hg), fun g hg => by rw [hVb g hg]; rfl⟩
  have hle : (1 : Int) ≤ (l.length : Int) + 1 := by omega
  have hz : ¬ ((0 : Int) = (l.length : Int) + 1) := by omega
  have hz1 : ((l.length : Int) + 1 == 0) = false := by rw [beq_eq_false_iff_ne]; omega
  have hlt0 : (0 : Int) < (l.length : Int) + 1 := by omega
  clear k ka hh htag hba hbb k1 t1 hb1 hb2 hg hVb e2
  by_cases hc1 : c = 1
  · subst hc1
    obtain rfl : l = [] := List.length_eq_zero_iff.1 (by omega)
    rw [if_pos rfl] at hV
    subst hV
    go_enter Tryz.func64, Tryz.ntmps64
    go_wp2_with fail
    refine ret_cell (A := ⟨w.heap.size, 0, none⟩) rfl (load_flt _ _ _ _ _ _ HG.out) rfl rfl ?_
    exact HX.out
  · rw [if_neg hc1] at hV
    subst hV
    go_enter Tryz.func64, Tryz.ntmps64
    go_wp2_with fail
    refine ret_cell (A := ⟨w.heap.size, 0, none⟩) rfl (load_flt _ _ _ _ _ _ HG.out) rfl rfl ?_
    exact HX.out
theorem link_next {w : World} {P B : Nat} {h p f : ByteArray} {rest : List Flt} {log : List Evt} {n : Nat} {rv lv : Value} (k : LAt w P B h p f rest log n rv lv) (hl : rest.length ≤ 1000000) :
    Calls Tryz.prog 64 #[.pointer (some ⟨P, 0, none⟩)] w (NextPost w P B h p f rest.tail log n rv lv (rest.headD noF)) := by
  cases rest with
  | nil => exact link_next_none k
  | cons x t =>
    have ht : t.length ≤ 1000000 := by rw [List.length_cons] at hl; omega
    exact link_next_some k ht
theorem link_left {w : World} {P B : Nat} {h p f : ByteArray} {rest : List Flt} {log : List Evt} {n : Nat} {rv lv : Value} (k : LAt w P B h p f rest log n rv lv) : Calls Tryz.prog 20 #[.pointer (some ⟨P, 0, none⟩)] w fun e w' => e = .returned (.int .i64 (rest.length : Nat)) ∧ w' = w := by
  obtain ⟨⟨-, -, -, c3, -, -⟩, -⟩ := k.cells
  obtain ⟨a, c, rfl, -⟩ := k.hold.len
  clear k
  go_enter Tryz.func20, Tryz.ntmps20
  go_wp2_with fail
  go_ret
  exact ⟨rfl, rfl⟩
theorem eql_evts (w : World) (a : Option Addr) (n c n' c' : Nat) : (binOp .eql 59 (.slice a n c) (.slice none n' c')).run Tryz.prog w = .ok (.bool a.isNone) w := Lib.run_eql_slice_nil w _ _ a n c n' c' Tryz.underlying59
set_option maxRecDepth 100000 in
theorem clone_evts_nil (w : World) : Calls Tryz.prog 43 #[.slice none 0 0] w fun e w' => e = .returned (.slice none 0 0) ∧ w' = w := by
  have q := eql_evts
  go_enter Tryz.func43, Tryz.ntmps43
  go_wp2_with fail
  go_ret
  exact ⟨rfl, rfl⟩
/-- a log that is the call's own -/
def LogPost (l : List Evt) (w : World) (e : Ending) (w' : World) : Prop :=
  ∃ a c, e = .returned (.slice a l.length c) ∧ w'.ownsRow w.heap.size 107 3 (.slice a l.length c) l.length (evs l) ∧ Below w.heap.size w w'
set_option maxRecDepth 100000 in
set_option maxHeartbeats 2000000 in
theorem clone_evts (v : Value) (b0 : Nat) (l : List Evt) (w : World) (h : w.ownsRow b0 107 3 v l.length (evs l)) (hl : l.length ≤ 1000000) :
    Calls Tryz.prog 43 #[v] w (LogPost l w) := by
  rcases id h.2 with ⟨rfl, h0⟩ | ⟨g, cap, cur, rfl, -⟩
  · refine (clone_evts_nil w).mono ?_
    rintro e w' ⟨rfl, hw⟩
    subst hw
    obtain rfl : l = [] := List.length_eq_zero_iff.1 h0
    exact ⟨_, _, rfl, World.ownsRow_nil _ _ _ _, Below.refl _ _⟩
  · have q := eql_evts
    obtain ⟨i0, hi, hz0, hz1, hz2⟩ := info_parts info_evt
    have HC := Lib.hid (h.cells (g := g) rfl)
    have HL := Lib.hid (evs_length l)
    have HO := Lib.hid (evs_one l)
    obtain ⟨E, hE⟩ : ∃ E, evs l = E := ⟨_, rfl⟩
    rw [hE] at HC HL HO
    have HE := Lib.hid hE
    obtain ⟨N, hN⟩ : ∃ N, l.length = N := ⟨_, rfl⟩
    rw [hN] at HL hl ⊢
    have HN := Lib.hid hN
    clear h hE hN
    go_enter Tryz.func43, Tryz.ntmps43
    go_wp2_with (at_builtin; refine wpList_append_own _ rfl _ _ 59 rfl w.heap.size 107 i0 (.agg #[.int .i64 0, .int .i64 0, .bool false]) 3 24 Tryz.underlying59 hi hz0 hz1 hz2 rfl (by decide) _ _ _ rfl (World.ownsRow_made w #[] 0 (Nat.le_refl _) (Nat.zero_le _) rfl) ⟨g, 0, none⟩ N cap E rfl ?qc1 ?qc2 ?qc3 ?qc4 ?qc5 ?qc6 ?_)
    case qc1 => exact HL.out
    case qc2 => exact fun j u hj => Lib.cell?_alloc_some _ (HC.out j u hj)
    case qc3 => exact HO.out
    case qc4 => unfold maxLen; omega
    case qc5 => omega
    case qc6 => simp
    intro v' w1 hown hgrow hnil
    have hown2 : w1.ownsRow w.heap.size 107 3 v' N E := by simpa using hown
    go_wp2
    go_ret
    obtain ⟨a, c, hv⟩ := slice_of_own hown2
    subst hv
    unfold LogPost
    rw [HN.out, HE.out]
    exact ⟨a, c, rfl, hown2, ((Below.refl _ w).alloc (Nat.le_refl _) _).grown hgrow (by simp) (by intro k hk; simp [Value.ownBlock] at hk; omega)⟩
set_option maxRecDepth 100000 in
set_option maxHeartbeats 1000000 in
theorem link_log {w : World} {P B : Nat} {h p f : ByteArray} {rest : List Flt} {log : List Evt} {n : Nat} {rv lv : Value} (k : LAt w P B h p f rest log n rv lv) (hl : log.length ≤ 1000000) : Calls Tryz.prog 23 #[.pointer (some ⟨P, 0, none⟩)] w (LogPost log w) := by
  obtain ⟨⟨-, -, -, -, c4, -⟩, -⟩ := k.cells
  have HC := Lib.hid (clone_evts lv B log w k.own hl)
  clear k
  go_enter Tryz.func23, Tryz.ntmps23
  go_wp2_with fail
  refine HC.out.mono ?_
  rintro e w1 ⟨a, c, rfl, h1, h2⟩
  have H := Lib.hid (And.intro h1 h2)
  clear h1 h2 c4
  go_wp2_with fail
  go_ret
  exact ⟨a, c, rfl, H.out.1, H.out.2⟩
end Go.Proofs.YtbdmmgmcbecolaaGreatDoor
namespace Go.Proofs.YtbdmmgmcbecolaaGreatDoor
open Go.RowKit
/-- a fault that a variable may hold -/
structure FltOk (x : Flt) : Prop where
  k0 : 0 ≤ x.1
  n0 : -9223372036854775808 ≤ x.2.1
  n1 : x.2.1 ≤ 9223372036854775807
  t : x.2.2.size ≤ 10000
theorem noF_ok : FltOk noF := ⟨by decide, by decide, by decide, by decide⟩
def AskPost (w : World) (P B : Nat) (h p f : ByteArray) (rest : List Flt) (log : List Evt) (n : Nat) (rv lv : Value) (s : ByteArray) (e : Ending) (w' : World) : Prop :=
  e = .returned (.string (gotK h p f (rest.headD noF) s)) ∧ ∃ rv' lv', LAt w' P B h p f rest.tail (log ++ [evK h p f (rest.headD noF) s]) (n + oneK (hurtK h p f (rest.headD noF) s)) rv' lv' ∧ Touch (LS P lv) w w' ∧ (∀ g, ablk rv' = some g → ablk rv = some g) ∧ ∀ g, lv'.ownBlock = some g → lv.ownBlock = some g ∨ w.heap.size ≤ g
theorem touchP {P : Nat} {lv : Value} {w w' : World} (h : Touch (fun g => g = P) w w') : Touch (LS P lv) w w' := h.mono (fun _ hg => .inl hg)
set_option maxRecDepth 100000 in
set_option maxHeartbeats 4000000 in
theorem link_ask {w : World} {P B : Nat} {h p f : ByteArray} {rest : List Flt} {log : List Evt} {n : Nat} {rv lv : Value} (s : ByteArray) (k : LAt w P B h p f rest log n rv lv) (hE : ∀ W, Touch (LS P lv) w W → EnvF W) (hs : s.size ≤ 1000000) (hf : f.size ≤ 100000) (hx : FltOk (rest.headD noF)) (hrl : rest.length ≤ 1000000) (hll : log.length ≤ 1000000) (hn : n ≤ 1000000) (hB : B ≤ w.heap.size) :
    Calls Tryz.prog 34 #[.pointer (some ⟨P, 0, none⟩), .string s] w (AskPost w P B h p f rest log n rv lv s) := by
  obtain ⟨⟨c0, c1, c2, c3, c4, c5⟩, f3, f4, f5⟩ := k.cells
  obtain ⟨X, hX⟩ : ∃ X, rest.headD noF = X := ⟨_, rfl⟩
  have HNX := Lib.hid (fun W (kk : LAt W P B h p f rest log n rv lv) => link_next kk hrl)
  unfold AskPost
  rw [hX] at hx HNX ⊢
  have hws := whole_size h p f s (by omega)
  have hht := hurt_eq h p f X s
  have HA : Hid (∀ W, Below w.heap.size w W → Calls Tryz.prog 62 #[.agg #[.string h, .string p, .string f], .string s] W fun e w' => e = .returned (.string (wholeK h p f s)) ∧ Below W.heap.size W w') := Lib.hid (fun W hW => origin_answer h p f s W ((hE w (Touch.refl _ _)).below hW) hs (by omega))
  have HAP : Hid (∀ W, Touch (LS P lv) w W → Calls Tryz.prog 63 #[.agg #[.int .u8 X.1, .int .i64 X.2.1, .string X.2.2], .string (wholeK h p f s)] W fun e w' => e = .returned (.string (gotK h p f X s)) ∧ Below W.heap.size W w') := Lib.hid (fun W hW => fault_apply X.1 X.2.1 X.2.2 (wholeK h p f s) W (hE W hW).weak hx.k0 hx.n0 hx.n1 hx.t (by omega))
  have HEV : Hid (evK h p f X s = ((s.size : Int), ((gotK h p f X s).size : Int), hurtK h p f X s)) := Lib.hid rfl
  generalize evK h p f X s = EV at HEV ⊢
  generalize wholeK h p f s = Wh at hws hht HA HAP
  generalize gotK h p f X s = G at hht HAP HEV ⊢
  generalize hurtK h p f X s = hb at hht HEV ⊢
  obtain ⟨x1, x2, x3⟩ := X
  have HK := Lib.hid k
  have HKW := Lib.hid (fun W (hW : Below w.heap.size w W) => k.below hW)
  have HBs := Lib.hid (And.intro hB (And.intro hll hn))
  have tw : IntKind.i64.wrap ((n : Int) + 1) = (n : Int) + 1 := by rw [IntKind.wrap_i64]; omega
  clear k hE hs hf hx hrl hX hws c3 c4 c5 f3 f4 f5 hB hll hn
  go_enter Tryz.func34, Tryz.ntmps34
  go_wp2_with fail
  refine (HA.out _ (Below.refl _ _)).mono ?_
  rintro e wa ⟨rfl, hba⟩
  have HA1 : Hid (Below w.heap.size w wa) := Lib.hid hba
  clear hba
  clear c0 c1 c2
  go_wp2_with fail
  refine (HNX.out _ (HKW.out _ HA1.out)).mono ?_
  rintro e w2 ⟨rfl, rv2, k2, t2, hr2⟩
  have HT2 := Lib.hid ((Touch.of_below (S := LS P lv) HA1.out).trans (touchP (lv := lv) t2) (fun g hg => .inl hg))
  have HK2 := Lib.hid k2
  have HR2 := Lib.hid hr2
  clear k2 t2 hr2 HNX HKW
  go_wp2_with fail
  refine (HAP.out _ HT2.out).mono ?_
  rintro e w3 ⟨rfl, hb3⟩
  have HK3 := Lib.hid (HK2.out.below hb3)
  have HT3 := Lib.hid (HT2.out.trans (Touch.of_below (S := LS P lv) hb3) (fun g hg => .inl hg))
  obtain ⟨⟨c0, c1, c2, c3, c4, c5⟩, f3, f4, f5⟩ := HK3.out.cells
  clear hb3 HT2 HK2 HAP HA HA1
  cases hb with
  | true =>
    have hq : (G.toList == Wh.toList) = false := by rw [eq_comm, Bool.not_eq_true'] at hht; exact hht
    have hq2 : ¬ (G.toList = Wh.toList) := by rw [beq_eq_false_iff_ne] at hq; exact hq
    have HK5 := Lib.hid (HK3.out.setHarm (m := n + 1))
    have HT5 := Lib.hid (touch_set (a := ⟨P, 5, none⟩) (.int .i64 ((n + 1 : Nat) : Int)) HT3.out (.inl (.inl rfl)))
    have hc5 := HK5.out.cells.1.2.2.2.2.1
    rw [show ((n + 1 : Nat) : Int) = (n : Int) + 1 from Int.natCast_add n 1] at HK5 HT5 hc5
    clear hht HK3 HT3
    go_wp2_with (at_builtin; go_loud (refine append_log 59 _ 24 Tryz.underlying59 info_evt rfl (by decide) _ HK5.out _ _ _ (by rfl) _ _ (by rfl) (by rfl) (by rw [set_size]; rfl) HBs.out.2.1 (Nat.le_trans HBs.out.1 HT5.out.size) ?_); intro g m cap w6 hc6 hf6 hk6 ht6 hd6)
    go_ret
    refine ⟨rfl, rv2, .slice (some ⟨g, 0, none⟩) m cap, ?_, HT5.out.trans ht6 (fun g hg => .inl hg), HR2.out, fun g' hg' => ?_⟩
    · rw [HEV.out]; exact hk6
    · injection hg' with e
      subst e
      exact hd6.imp id (fun h => Nat.le_trans HT5.out.size h)
  | false =>
    have hq : (G.toList == Wh.toList) = true := by rw [eq_comm, Bool.not_eq_false'] at hht; exact hht
    have hq2 : G.toList = Wh.toList := by rw [beq_iff_eq] at hq; exact hq
    clear hht
    go_wp2_with (at_builtin; go_loud (refine append_log 59 _ 24 Tryz.underlying59 info_evt rfl (by decide) _ HK3.out _ _ _ (by rfl) _ _ (by rfl) (by rfl) (by rfl) HBs.out.2.1 (Nat.le_trans HBs.out.1 HT3.out.size) ?_); intro g m cap w6 hc6 hf6 hk6 ht6 hd6)
    go_ret
    refine ⟨rfl, rv2, .slice (some ⟨g, 0, none⟩) m cap, ?_, HT3.out.trans ht6 (fun g hg => .inl hg), HR2.out, fun g' hg' => ?_⟩
    · rw [HEV.out]; exact hk6
    · injection hg' with e
      subst e
      exact hd6.imp id (fun h => Nat.le_trans HT3.out.size h)
end Go.Proofs.YtbdmmgmcbecolaaGreatDoor
namespace Go.Proofs.YtbdmmgmcbecolaaGreatDoor
open Go.RowKit
theorem harms_le (l : List Evt) : harmsK l ≤ l.length := List.countP_le_length
theorem drop_tail (l : List Flt) (k : Nat) : (l.drop k).tail = l.drop (k + 1) := by rw [List.tail_drop]
end Go.Proofs.YtbdmmgmcbecolaaGreatDoor
namespace Go.Proofs.YtbdmmgmcbecolaaGreatDoor
open Go.RowKit
/-- a link that lies behind the world w0, in whose log all is new -/
structure KL (w0 w : World) (P : Nat) (h p f : ByteArray) (rest : List Flt) (log : List Evt) (n : Nat) (rv lv : Value) : Prop where
  a : LAt w P w0.heap.size h p f rest log n rv lv
  lo : w0.heap.size ≤ P
  bel : Below w0.heap.size w0 w
theorem KL.low {w0 w : World} {P : Nat} {h p f : ByteArray} {rest : List Flt} {log : List Evt} {n : Nat} {rv lv : Value} (k : KL w0 w P h p f rest log n rv lv) : ∀ g, LS P lv g → w0.heap.size ≤ g := fun g hg => by
  rcases hg with rfl | hg
  · exact k.lo
  · exact (k.a.own.lt g hg).1
theorem KL.step {w0 w w' : World} {P : Nat} {h p f : ByteArray} {rest : List Flt} {log : List Evt} {n : Nat} {rv lv : Value} (k : KL w0 w P h p f rest log n rv lv) (hb : Below w.heap.size w w') : KL w0 w' P h p f rest log n rv lv := ⟨k.a.below hb, k.lo, bstep k.bel hb⟩
theorem KL.env {w0 w : World} {P : Nat} {h p f : ByteArray} {rest : List Flt} {log : List Evt} {n : Nat} {rv lv : Value} (k : KL w0 w P h p f rest log n rv lv) (hE : EnvF w0) : ∀ W, Touch (LS P lv) w W → EnvF W := fun W ht =>
  hE.below (k.bel.trans (ht.below k.low k.bel.size))
/-- what another link's request does to a link: nothing -/
theorem KL.beside {w0 w w' : World} {P P2 : Nat} {h p f h2 p2 f2 : ByteArray} {rest rest2 : List Flt} {log log2 : List Evt} {n n2 : Nat} {rv lv rv2 lv2 : Value} (k : KL w0 w P h p f rest log n rv lv) (k2 : KL w0 w P2 h2 p2 f2 rest2 log2 n2 rv2 lv2) (hne : P ≠ P2) (hd : lv.ownBlock = none ∨ lv.ownBlock ≠ lv2.ownBlock) (ht : Touch (LS P2 lv2) w w') : KL w0 w' P h p f rest log n rv lv := by
  refine ⟨k.a.touch ht ?_ ?_ ?_, k.lo, k.bel.trans (ht.below k2.low k.bel.size)⟩
  · rintro (e | e)
    · exact hne e
    · exact own_not_row k2.a.own k.a.blk (by decide) e
  · rintro b hb (e | e)
    · obtain ⟨C, hC⟩ := k.a.tag b hb
      rw [e, k2.a.blk] at hC
      simp only [Option.some.injEq, Obj.cells.injEq] at hC
      exact absurd hC.2.1 (by decide)
    · obtain ⟨C, hC⟩ := k.a.tag b hb
      exact own_not_row k2.a.own hC (by decide) e
  · rintro g hg (e | e)
    · exact own_not_row k.a.own k2.a.blk (by decide) (by rw [hg]; exact congrArg some e)
    · rcases hd with hd | hd
      · rw [hd] at hg; cases hg
      · exact hd (by rw [hg, e])
def KAsk (w0 w : World) (P : Nat) (h p f : ByteArray) (rest : List Flt) (log : List Evt) (n : Nat) (rv lv : Value) (s : ByteArray) (e : Ending) (w' : World) : Prop :=
  e = .returned (.string (gotK h p f (rest.headD noF) s)) ∧ ∃ rv' lv', KL w0 w' P h p f rest.tail (log ++ [evK h p f (rest.headD noF) s]) (n + oneK (hurtK h p f (rest.headD noF) s)) rv' lv' ∧ Touch (LS P lv) w w' ∧ ∀ g, lv'.ownBlock = some g → lv.ownBlock = some g ∨ w.heap.size ≤ g
theorem KL.ask {w0 w : World} {P : Nat} {h p f : ByteArray} {rest : List Flt} {log : List Evt} {n : Nat} {rv lv : Value} (k : KL w0 w P h p f rest log n rv lv) (hE : EnvF w0) (s : ByteArray) (hs : s.size ≤ 1000000) (hf : f.size ≤ 100000) (hx : FltOk (rest.headD noF)) (hrl : rest.length ≤ 1000000) (hll : log.length ≤ 1000000) (hn : n ≤ 1000000) :
    Calls Tryz.prog 34 #[.pointer (some ⟨P, 0, none⟩), .string s] w (KAsk w0 w P h p f rest log n rv lv s) := by
  refine (link_ask s k.a (k.env hE) hs hf hx hrl hll hn k.bel.size).mono ?_
  rintro e w' ⟨rfl, rv', lv', ha, ht, -, hl⟩
  exact ⟨rfl, rv', lv', ⟨ha, k.lo, k.bel.trans (ht.below k.low k.bel.size)⟩, ht, hl⟩
theorem KL.new {w0 w w' : World} {h p f : ByteArray} {l : List Flt} {e : Ending} (hb : Below w0.heap.size w0 w) (hn : NewPost h p f l w e w') : ∃ P rv, e = .returned (.tuple #[.pointer (some ⟨P, 0, none⟩), .int .i64 0]) ∧ w.heap.size ≤ P ∧ KL w0 w' P h p f l [] 0 rv (.slice none 0 0) ∧ Below w.heap.size w w' := by
  obtain ⟨b, rv, rfl, h1, h2, h3, h4⟩ := hn
  have hs := hb.size
  exact ⟨b, rv, rfl, h1, ⟨⟨h2.blk, h2.hold, h2.tag, own_lowerF h2.own hs⟩, Nat.le_trans hs h1, bstep hb h4⟩, h4⟩
theorem flt_ok {l : List Flt} (h : ∀ x ∈ l, FltOk x) (k : Nat) : FltOk ((l.drop k).headD noF) := by
  cases e : l.drop k with
  | nil => exact noF_ok
  | cons x t => exact h x (List.mem_of_mem_drop (by rw [e]; exact List.mem_cons_self ..))
end Go.Proofs.YtbdmmgmcbecolaaGreatDoor
namespace Go.Proofs.YtbdmmgmcbecolaaGreatDoor
open Go.RowKit
theorem alloc3_facts (w : World) (x y z : Obj) : (((w.alloc x).alloc y).alloc z).heap[w.heap.size]? = some x ∧ (((w.alloc x).alloc y).alloc z).heap[w.heap.size + 1]? = some y ∧ (((w.alloc x).alloc y).alloc z).heap[w.heap.size + 1 + 1]? = some z ∧ Below w.heap.size w (((w.alloc x).alloc y).alloc z) := by
  have h1 := heap_alloc_new w x
  have h2 := heap_alloc_new (w.alloc x) y
  have h3 := heap_alloc_new ((w.alloc x).alloc y) z
  have b2 : Below (w.alloc x).heap.size (w.alloc x) ((w.alloc x).alloc y) := (Below.refl _ _).alloc (Nat.le_refl _) _
  have b3 : Below ((w.alloc x).alloc y).heap.size ((w.alloc x).alloc y) (((w.alloc x).alloc y).alloc z) := (Below.refl _ _).alloc (Nat.le_refl _) _
  have s1 : (w.alloc x).heap.size = w.heap.size + 1 := by simp
  have s2 : ((w.alloc x).alloc y).heap.size = w.heap.size + 1 + 1 := by simp
  rw [s1] at h2
  rw [s2] at h3
  refine ⟨?_, ?_, h3, bstep (bstep ((Below.refl _ _).alloc (Nat.le_refl _) _) b2) b3⟩
  · exact (b3.block _ (by rw [s2]; omega)).trans ((b2.block _ (by rw [s1]; omega)).trans h1)
  · exact (b3.block _ (by rw [s2]; omega)).trans h2
end Go.Proofs.YtbdmmgmcbecolaaGreatDoor
namespace Go.Proofs.YtbdmmgmcbecolaaGreatDoor
open Go.RowKit
structure K2 (w0 w : World) (P Q : Nat) (h p f : ByteArray) (r1 r2 : List Flt) (g1 g2 : List Evt) (n1 n2 : Nat) (rv1 rv2 lv1 lv2 : Value) : Prop where
  a : KL w0 w P h p f r1 g1 n1 rv1 lv1
  b : KL w0 w Q h p f r2 g2 n2 rv2 lv2
  ne : P ≠ Q
  ap : ∀ g, lv1.ownBlock = some g → lv2.ownBlock ≠ some g
section
variable {w0 w w' : World} {P Q : Nat} {h p f : ByteArray} {r1 r2 : List Flt} {g1 g2 : List Evt} {n1 n2 : Nat} {rv1 rv2 lv1 lv2 : Value}
theorem K2.step (k : K2 w0 w P Q h p f r1 r2 g1 g2 n1 n2 rv1 rv2 lv1 lv2) (hb : Below w.heap.size w w') : K2 w0 w' P Q h p f r1 r2 g1 g2 n1 n2 rv1 rv2 lv1 lv2 := ⟨k.a.step hb, k.b.step hb, k.ne, k.ap⟩
theorem K2.besides (k : K2 w0 w P Q h p f r1 r2 g1 g2 n1 n2 rv1 rv2 lv1 lv2) (ht : Touch (LS P lv1) w w') : KL w0 w' Q h p f r2 g2 n2 rv2 lv2 :=
  k.b.beside k.a (fun e => k.ne e.symm) (by
    cases e : lv2.ownBlock with
    | none => exact .inl rfl
    | some g => exact .inr (fun e2 => k.ap g e2.symm e)) ht
theorem K2.asked (k : K2 w0 w P Q h p f r1 r2 g1 g2 n1 n2 rv1 rv2 lv1 lv2) {s : ByteArray} {e : Ending} (ha : KAsk w0 w P h p f r1 g1 n1 rv1 lv1 s e w') : e = .returned (.string (gotK h p f (r1.headD noF) s)) ∧ ∃ rv' lv', K2 w0 w' P Q h p f r1.tail r2 (g1 ++ [evK h p f (r1.headD noF) s]) g2 (n1 + oneK (hurtK h p f (r1.headD noF) s)) n2 rv' rv2 lv' lv2 := by
  obtain ⟨rfl, rv', lv', hk, ht, hl⟩ := ha
  refine ⟨rfl, rv', lv', hk, k.besides ht, k.ne, ?_⟩
  intro g hg e
  rcases hl g hg with h1 | h1
  · exact k.ap g h1 e
  · have := (k.b.a.own.lt g e).2; omega
theorem K2.make (k : KL w0 w P h p f r1 g1 n1 rv1 lv1) (k2 : KL w0 w' Q h p f r2 g2 n2 rv2 lv2) (hQ : w.heap.size ≤ Q) (hb : Below w.heap.size w w') (hl : ∀ g, lv2.ownBlock = some g → w.heap.size ≤ g) : K2 w0 w' P Q h p f r1 r2 g1 g2 n1 n2 rv1 rv2 lv1 lv2 :=
  ⟨k.step hb, k2, by have := k.a.lt; omega, fun g hg e => by have := hl g e; have := (k.a.own.lt g hg).2; omega⟩
/-- what is written into a block of faults that neither link has -/
theorem K2.beside (k : K2 w0 w P Q h p f r1 r2 g1 g2 n1 n2 rv1 rv2 lv1 lv2) {G : Nat} {C : Array Value} (hG : w.heap[G]? = some (.cells C 65 (0, 0))) (hlo : w0.heap.size ≤ G) (h1 : ablk rv1 ≠ some G) (h2 : ablk rv2 ≠ some G) (ht : Touch (fun g => g = G) w w') : K2 w0 w' P Q h p f r1 r2 g1 g2 n1 n2 rv1 rv2 lv1 lv2 := by
  have hb : Below w0.heap.size w0 w' := k.a.bel.trans (ht.below (fun g hg => by rw [show g = G from hg]; exact hlo) k.a.bel.size)
  have one : ∀ {P : Nat} {r : List Flt} {g : List Evt} {n : Nat} {rv lv : Value}, KL w0 w P h p f r g n rv lv → ablk rv ≠ some G → KL w0 w' P h p f r g n rv lv := fun kk hr => by
    refine ⟨kk.a.touch ht ?_ ?_ ?_, kk.lo, hb⟩
    · intro e
      have e2 := kk.a.blk
      rw [show _ = G from e, hG] at e2
      simp only [Option.some.injEq, Obj.cells.injEq] at e2
      exact absurd e2.2.1 (by decide)
    · intro b hb e
      exact hr (by rw [hb]; exact congrArg some e)
    · intro b hb e
      exact own_not_row kk.a.own hG (by decide) (by rw [hb]; exact congrArg some e)
  exact ⟨one k.a h1, one k.b h2, k.ne, k.ap⟩
end
end Go.Proofs.YtbdmmgmcbecolaaGreatDoor
