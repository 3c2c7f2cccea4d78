/- What Parse of the reference of asking returns. The small example of the laws of layer 25. The law function AskingTells. A request as printed is taken for itself; cut anywhere it is too short; what is taken may be printed (no program in sight). Plain functions for the first line of an answer (no program in sight). What the library's variables hold, carried along a call. What the functions of package status and of its reference return. What Print, Parse and their helpers of package status, and of its reference, return. Plain facts on trimming digits and on the code of a status line (no program in sight). What the reference's Parse of a status line returns. What Parse of package status returns. -/
import Derived.Test.YtfjdppngeillcaaGreatDoorPs5
import Derived.Laws.StructEq
import Derived.Lib.ItoaNum
import Derived.Lib.LaidTab
import Derived.WalkSmall
import Derived.Shelf.Strings.SlTrimAscii
import Derived.Lib.SlTrimSet
import Derived.Lib.Atoi
import Derived.Lib.SmallJoins
set_option linter.unusedVariables false
namespace Go.Proofs.YtfjdppngeillcaaGreatDoor
open Go.RowKit

theorem res_block {w w1 : World} {x y z u : Value} {t : TypeId} (hb : Below (w.alloc (.cells #[x, y, z, u] t)).heap.size (w.alloc (.cells #[x, y, z, u] t)) w1) : w1.heap[w.heap.size]? = some (.cells #[x, y, z, u] t (0, 0)) :=
  (hb.block _ (by simp)).trans (heap_alloc_new w _)
theorem get_rk (v : Value) (fs : List (List UInt8 × List UInt8)) (n : ByteArray) (k : List UInt8) (hk : n.data.toList = k) (w : World) (hv : HoldsF w v fs) (hlen : fs.length ≤ 1000000) :
    Calls Tryz.prog 45 #[v, .string n] w fun e w' => e = .returned (.tuple #[.string (bs (getS fs k)), .int .i64 (getE fs k)]) ∧ w' = w := by
  subst hk; exact ref_get v fs n w hv hlen
/-- the tail of a slice of texts -/
theorem HoldsS.tail {w : World} {b o c : Nat} {x : List UInt8} {xs : List (List UInt8)} (h : HoldsS w (.slice (some ⟨b, o, none⟩) (x :: xs).length c) (x :: xs)) (hc : 1 < c) : HoldsS w (.slice (some ⟨b, o + 1, none⟩) xs.length (c - 1)) xs := by
  obtain ⟨a, c', hv, hcc, hh⟩ := h
  injection hv with h1 h2 h3
  subst h1 h3
  obtain ⟨b', o', hbo, hbl, hcell⟩ := hh (by simp)
  injection hbo with hbo
  injection hbo with h4 h5
  subst h4 h5
  refine ⟨_, _, rfl, by simp at hcc; omega, fun _ => ⟨b, o + 1, rfl, hbl, fun j hj => ?_⟩⟩
  have := hcell (j + 1) (by simp; omega)
  rw [show o + 1 + j = o + (j + 1) by omega]; exact this
theorem lnE_split (ls : List (List UInt8)) : lnE ls = if firstL ls ≠ 0 then firstL ls else if fldE ls.tail ≠ 0 then fldE ls.tail else if getE (fldL ls.tail) hostK ≠ 0 then getE (fldL ls.tail) hostK else if hostB (getS (fldL ls.tail) hostK) = false then 2 else if getE (fldL ls.tail) rangeK ≠ 0 then getE (fldL ls.tail) rangeK else askedE (getS (fldL ls.tail) rangeK) := by
  unfold lnE whoE whatE
  by_cases h1 : firstL ls ≠ 0
  · rw [if_pos h1, if_pos h1]
  · rw [if_neg h1, if_neg h1]
    by_cases h2 : fldE ls.tail ≠ 0
    · rw [if_pos h2, if_pos h2]
    · rw [if_neg h2, if_neg h2]
      by_cases h3 : getE (fldL ls.tail) hostK ≠ 0
      · rw [if_pos h3, if_pos h3, if_pos h3]
      · rw [if_neg h3, if_neg h3]
        by_cases h4 : hostB (getS (fldL ls.tail) hostK) = false
        · rw [if_pos h4, if_pos h4, if_pos (by decide)]
        · rw [if_neg h4, if_neg h4, if_neg (by decide)]
set_option maxRecDepth 100000 in
set_option maxHeartbeats 3000000 in
theorem ref_aparse (s : ByteArray) (w : World) (hs : s.size ≤ 1000000) :
    Calls Tryz.prog 26 #[.string s] w fun e w' => e = .returned (askV s) ∧ Below w.heap.size w w' := by
  have HH := Lib.hid (ref_head s (w.alloc (.cells #[.string ⟨#[]⟩, .string ⟨#[]⟩, .int .i64 0, .int .i64 0] 48)) (by omega))
  obtain ⟨V, hV⟩ : ∃ V, askV s = V := ⟨_, rfl⟩
  rw [hV]
  have HV := Lib.hid hV
  have hbd := headOf_bound s
  unfold HeadPost at HH
  obtain ⟨⟨ls, n, e⟩, hh⟩ : ∃ T, headOf s = T := ⟨_, rfl⟩
  rw [hh] at HH hbd
  have HHd := Lib.hid hh
  change (∀ x ∈ ls, x.length ≤ 256) ∧ ls.length ≤ 17 at hbd
  change Hid (Calls _ _ _ _ fun r w' => ∃ v, r = .returned (.tuple #[v, .int .i64 n, .int .i64 (e : Nat)]) ∧ w'.ownsRow _ 9 1 v ls.length (strs ls) ∧ _) at HH
  have HBD := Lib.hid hbd
  clear hV hbd hh
  by_cases he : e ≠ 0
  · have HVB := Lib.hid (askV_bad s e (by unfold askE; rw [HHd.out]; exact if_pos he) he)
    have tz : ((e : Int) != 0) = true := by rw [bne_iff_ne]; omega
    clear he
    go_enter Tryz.func26, Tryz.ntmps26
    go_wp2_with fail
    refine HH.out.mono ?_
    rintro e w1 ⟨v, rfl, -, hb1⟩
    have HB1 := Lib.hid hb1
    obtain ⟨⟨d0, d1, d2, d3⟩, ⟨g0, g1, g2, g3⟩⟩ := four_of (res_block hb1)
    clear hb1
    go_wp2_with fail
    refine ret_cell3 (A := ⟨w.heap.size, 0, none⟩) rfl (load_rreq _ _ _ _ _ _ _ (four_set (res_block HB1.out) _ _ _ _)) rfl rfl rfl rfl ?_
    exact ⟨by rw [← HV.out, HVB.out]; rfl, four_below (bstep (below_agg4 w _ _ _ _ _) HB1.out) _ (Nat.le_refl _) _ _ _ _⟩
  have he0 : e = 0 := by omega
  subst he0
  have HL : Hid (askE s = lnE ls) := Lib.hid (by unfold askE; rw [HHd.out]; rfl)
  cases ls with
  | nil =>
    have HVB := Lib.hid (askV_bad s 4 (by rw [HL.out]; rfl) (by decide))
    clear he
    go_enter Tryz.func26, Tryz.ntmps26
    go_wp2_with fail
    refine HH.out.mono ?_
    rintro e w1 ⟨v, rfl, hown, hb1⟩
    obtain ⟨av, cv, rfl⟩ := slice_of_own hown
    have HB1 := Lib.hid hb1
    obtain ⟨⟨d0, d1, d2, d3⟩, ⟨g0, g1, g2, g3⟩⟩ := four_of (res_block hb1)
    clear hb1 hown
    go_wp2_with fail
    refine ret_cell3 (A := ⟨w.heap.size, 0, none⟩) rfl (load_rreq _ _ _ _ _ _ _ (four_set (res_block HB1.out) _ _ _ _)) rfl rfl rfl rfl ?_
    exact ⟨by rw [← HV.out, HVB.out]; rfl, four_below (bstep (below_agg4 w _ _ _ _ _) HB1.out) _ (Nat.le_refl _) _ _ _ _⟩
  | cons x xs =>
    have hxl : x.length ≤ 256 := HBD.out.1 x (List.mem_cons_self ..)
    have HF : Hid (firstL (x :: xs) = firstW (words x) ∧ wordL (x :: xs) = (words x).getD 1 []) := Lib.hid ⟨by unfold firstL; rw [if_neg (by simp)]; rfl, rfl⟩
    have HW := Lib.hid (fun w => ref_words (bs x) w (by rw [bs_size]; omega))
    rw [bs_data] at HW
    have hwl := words_len x
    obtain ⟨ws, hws⟩ : ∃ ws, words x = ws := ⟨_, rfl⟩
    rw [hws] at HF HW hwl
    have HWL := Lib.hid hwl
    have HXS : Hid (∀ y ∈ xs, y.length ≤ 256) := Lib.hid (fun y hy => HBD.out.1 y (List.mem_cons_of_mem _ hy))
    have hxn : xs.length ≤ 16 := by have := HBD.out.2; simp at this; omega
    clear hwl he hws
    go_enter Tryz.func26, Tryz.ntmps26
    go_wp2_with fail
    refine HH.out.mono ?_
    rintro e w1 ⟨v, rfl, hown, hb1⟩
    have hS := HoldsS.of_own hown
    obtain ⟨av, cv, hv, hcv, hhv⟩ := hS
    subst hv
    obtain ⟨B, o, rfl, hBl, hcell⟩ := hhv (by simp)
    have c0 := hcell 0 (by simp)
    rw [Nat.add_zero] at c0
    change w1.cell? ⟨B, o, none⟩ = some (.string (bs x)) at c0
    have HS : Hid (HoldsS w1 (.slice (some ⟨B, o, none⟩) (x :: xs).length cv) (x :: xs)) := Lib.hid (HoldsS.of_own hown)
    have HB1 := Lib.hid hb1
    have hll : ((x :: xs).length : Nat) = xs.length + 1 := rfl
    rw [hll] at hcv ⊢
    clear hb1 hown hcell hhv hll
    go_wp2_with fail
    refine (HW.out _).mono ?_
    rintro e w2 ⟨v2, rfl, hown2, hb2⟩
    obtain ⟨a2, cv2, rfl⟩ := slice_of_own hown2
    have HS2 := Lib.hid (HoldsS.of_own hown2)
    have HST := Lib.hid (HS.out.below hb2)
    have HB2 := Lib.hid (bstep HB1.out hb2)
    clear hb2 hown2 c0
    go_wp2_with fail
    refine (ref_first _ _ ws HS2.out (fun y hy => by have := HWL.out y hy; omega)).mono ?_
    rintro e w2 ⟨rfl, rfl⟩
    by_cases h1 : firstW ws = 0
    case neg =>
      have HVB := Lib.hid (askV_bad s (firstW ws) (by rw [HL.out, lnE_split, HF.out.1, if_pos h1]) h1)
      have tz : ((firstW ws : Int) != 0) = true := by rw [bne_iff_ne]; omega
      obtain ⟨⟨d0, d1, d2, d3⟩, ⟨g0, g1, g2, g3⟩⟩ := four_of (res_block HB2.out)
      clear h1
      go_wp2_with fail
      refine ret_cell3 (A := ⟨w.heap.size, 0, none⟩) rfl (load_rreq _ _ _ _ _ _ _ (four_set (res_block HB2.out) _ _ _ _)) rfl rfl rfl rfl ?_
      exact ⟨by rw [← HV.out, HVB.out]; rfl, four_below (bstep (below_agg4 w _ _ _ _ _) HB2.out) _ (Nat.le_refl _) _ _ _ _⟩
    have H1 : Hid (firstL (x :: xs) = 0) := Lib.hid (HF.out.1.trans h1)
    have hw3 : Hid (ws.length = 3) := Lib.hid (by
      unfold firstW at h1
      split at h1
      · exact absurd h1 (by decide)
      · rename_i hn; exact Classical.not_not.1 hn)
    rw [h1]
    clear h1
    by_cases hx0 : xs = []
    · subst hx0
      have HVB := Lib.hid (askV_bad s 6 (by rw [HL.out, lnE_split, if_neg (fun h => h H1.out)]; rfl) (by decide))
      have HFE : Hid (∀ a c w, Calls Tryz.prog 44 #[.slice a 0 c] w (FieldsPost [] w)) := Lib.hid (fun a c w => ref_fields w (.slice a 0 c) [] (HoldsS.empty w a c) (by decide) (fun x h => by simp at h))
      by_cases hc : cv = 1
      all_goals
        go_wp2_with fail
        refine (HFE.out _ _ _).mono ?_
        rintro e w3 ⟨v3, rfl, ⟨a3, n3, c3, rfl⟩, hf3, hb3⟩
        have HF3 := Lib.hid (hf3 rfl)
        have HB3 := Lib.hid (bstep HB2.out hb3)
        clear hf3 hb3
        go_wp2_with fail
        refine (get_rk _ _ ⟨#[104, 111, 115, 116]⟩ hostK rfl _ HF3.out (by decide)).mono ?_
        rintro e w3 ⟨rfl, rfl⟩
        obtain ⟨⟨d0, d1, d2, d3⟩, ⟨g0, g1, g2, g3⟩⟩ := four_of (res_block HB3.out)
        rw [show getE (fldL []) hostK = 6 from rfl]
        go_wp2_with fail
        refine ret_cell3 (A := ⟨w.heap.size, 0, none⟩) rfl (load_rreq _ _ _ _ _ _ _ (four_set (res_block HB3.out) _ _ _ _)) rfl rfl rfl rfl ?_
        exact ⟨by rw [← HV.out, HVB.out]; rfl, four_below (bstep (below_agg4 w _ _ _ _ _) HB3.out) _ (Nat.le_refl _) _ _ _ _⟩
    · have hyp : 0 < xs.length := List.length_pos_iff.2 hx0
      have hc : 1 < cv := by omega
      have HT : Hid (HoldsS w2 (.slice (some ⟨B, o + 1, none⟩) xs.length (cv - 1)) xs) := Lib.hid (HST.out.tail hc)
      have HFE := Lib.hid (ref_fields w2 _ xs HT.out (by omega) (fun y hy => by have := HXS.out y hy; omega))
      obtain ⟨fs, hfs⟩ : ∃ fs, fldL xs = fs := ⟨_, rfl⟩
      have hfl : fs.length ≤ 17 := by rw [← hfs]; unfold fldL; rw [List.length_map]; omega
      have hgl : (getS fs rangeK).length ≤ 256 := by rw [← hfs]; exact getS_len xs rangeK HXS.out
      have hgh : (getS fs hostK).length ≤ 256 := by rw [← hfs]; exact getS_len xs hostK HXS.out
      have HLN : Hid (lnE (x :: xs) = if fldE xs ≠ 0 then fldE xs else if getE fs hostK ≠ 0 then getE fs hostK else if hostB (getS fs hostK) = false then 2 else if getE fs rangeK ≠ 0 then getE fs rangeK else askedE (getS fs rangeK)) := Lib.hid (by rw [lnE_split, if_neg (fun h => h H1.out), List.tail_cons, hfs])
      have HFS := Lib.hid hfs
      clear hfs hx0
      go_wp2_with fail
      refine HFE.out.mono ?_
      rintro e w3 ⟨v3, rfl, ⟨a3, n3, c3, rfl⟩, hf3, hb3⟩
      have HF3' := Lib.hid hf3
      have HB3 := Lib.hid (bstep HB2.out hb3)
      have HS3 := Lib.hid (HS2.out.below hb3)
      clear hf3 hb3
      by_cases h2 : fldE xs = 0
      case neg =>
        have HVB := Lib.hid (askV_bad s (fldE xs) (by rw [HL.out, HLN.out, if_pos h2]) h2)
        have tz : ((fldE xs : Int) != 0) = true := by rw [bne_iff_ne]; omega
        obtain ⟨⟨d0, d1, d2, d3⟩, ⟨g0, g1, g2, g3⟩⟩ := four_of (res_block HB3.out)
        clear h2
        go_wp2_with fail
        refine ret_cell3 (A := ⟨w.heap.size, 0, none⟩) rfl (load_rreq _ _ _ _ _ _ _ (four_set (res_block HB3.out) _ _ _ _)) rfl rfl rfl rfl ?_
        exact ⟨by rw [← HV.out, HVB.out]; rfl, four_below (bstep (below_agg4 w _ _ _ _ _) HB3.out) _ (Nat.le_refl _) _ _ _ _⟩
      have HF3 : Hid (HoldsF w3 (.slice a3 c3 n3) fs) := Lib.hid (by rw [← HFS.out]; exact HF3'.out h2)
      have H2 := Lib.hid h2
      rw [h2]
      clear h2 HF3'
      go_wp2_with fail
      refine (get_rk _ fs ⟨#[104, 111, 115, 116]⟩ hostK rfl _ HF3.out (by omega)).mono ?_
      rintro e w3 ⟨rfl, rfl⟩
      by_cases h3 : getE fs hostK = 0
      case neg =>
        have HVB := Lib.hid (askV_bad s (getE fs hostK) (by rw [HL.out, HLN.out, if_neg (fun h => h H2.out), if_pos h3]) h3)
        have tz : ((getE fs hostK : Int) != 0) = true := by rw [bne_iff_ne]; omega
        obtain ⟨⟨d0, d1, d2, d3⟩, ⟨g0, g1, g2, g3⟩⟩ := four_of (res_block HB3.out)
        clear h3
        go_wp2_with fail
        refine ret_cell3 (A := ⟨w.heap.size, 0, none⟩) rfl (load_rreq _ _ _ _ _ _ _ (four_set (res_block HB3.out) _ _ _ _)) rfl rfl rfl rfl ?_
        exact ⟨by rw [← HV.out, HVB.out]; rfl, four_below (bstep (below_agg4 w _ _ _ _ _) HB3.out) _ (Nat.le_refl _) _ _ _ _⟩
      have H3 := Lib.hid h3
      rw [h3]
      clear h3
      go_wp2_with fail
      refine (ref_host _ _ (by rw [bs_size]; omega)).mono ?_
      rintro e w3 ⟨rfl, rfl⟩
      rw [bs_data]
      cases h4 : hostB (getS fs hostK) with
      | false =>
        have HVB := Lib.hid (askV_bad s 2 (by rw [HL.out, HLN.out, if_neg (fun h => h H2.out), if_neg (fun h => h H3.out), if_pos h4]) (by decide))
        obtain ⟨⟨d0, d1, d2, d3⟩, ⟨g0, g1, g2, g3⟩⟩ := four_of (res_block HB3.out)
        clear h4
        go_wp2_with fail
        refine ret_cell3 (A := ⟨w.heap.size, 0, none⟩) rfl (load_rreq _ _ _ _ _ _ _ (four_set (res_block HB3.out) _ _ _ _)) rfl rfl rfl rfl ?_
        exact ⟨by rw [← HV.out, HVB.out]; rfl, four_below (bstep (below_agg4 w _ _ _ _ _) HB3.out) _ (Nat.le_refl _) _ _ _ _⟩
      | true =>
        have H4 := Lib.hid h4
        clear h4
        go_wp2_with fail
        refine (get_rk _ fs ⟨#[114, 97, 110, 103, 101]⟩ rangeK rfl _ HF3.out (by omega)).mono ?_
        rintro e w3 ⟨rfl, rfl⟩
        by_cases h5 : getE fs rangeK = 0
        case neg =>
          have HVB := Lib.hid (askV_bad s (getE fs rangeK) (by rw [HL.out, HLN.out, if_neg (fun h => h H2.out), if_neg (fun h => h H3.out), if_neg (by rw [H4.out]; decide), if_pos h5]) h5)
          have tz : ((getE fs rangeK : Int) != 0) = true := by rw [bne_iff_ne]; omega
          obtain ⟨⟨d0, d1, d2, d3⟩, ⟨g0, g1, g2, g3⟩⟩ := four_of (res_block HB3.out)
          clear h5
          go_wp2_with fail
          refine ret_cell3 (A := ⟨w.heap.size, 0, none⟩) rfl (load_rreq _ _ _ _ _ _ _ (four_set (res_block HB3.out) _ _ _ _)) rfl rfl rfl rfl ?_
          exact ⟨by rw [← HV.out, HVB.out]; rfl, four_below (bstep (below_agg4 w _ _ _ _ _) HB3.out) _ (Nat.le_refl _) _ _ _ _⟩
        have H5 := Lib.hid h5
        rw [h5]
        clear h5
        go_wp2_with fail
        refine (ref_asked (bs (getS fs rangeK)) _ (by rw [bs_size]; omega)).mono ?_
        rintro e w4 ⟨rfl, hb4⟩
        rw [bs_data]
        have HB4 := Lib.hid (bstep HB3.out hb4)
        have HS4 := Lib.hid (HS3.out.below hb4)
        obtain ⟨⟨d0, d1, d2, d3⟩, ⟨g0, g1, g2, g3⟩⟩ := four_of (res_block HB4.out)
        clear hb4
        have HLL : Hid (lnE (x :: xs) = askedE (getS fs rangeK)) := Lib.hid (by rw [HLN.out, if_neg (fun h => h H2.out), if_neg (fun h => h H3.out), if_neg (by rw [H4.out]; decide), if_neg (fun h => h H5.out)])
        by_cases h6 : askedE (getS fs rangeK) = 0
        case neg =>
          have HVB := Lib.hid (askV_bad s (askedE (getS fs rangeK)) (by rw [HL.out, HLL.out]) h6)
          have tz : ((askedE (getS fs rangeK) : Int) != 0) = true := by rw [bne_iff_ne]; omega
          have HB5 := Lib.hid (bstep HB4.out (below_agg2 w4 (.int .i64 (askedA (getS fs rangeK))) (.int .i64 (askedB (getS fs rangeK))) 46))
          obtain ⟨⟨d0, d1, d2, d3⟩, ⟨g0, g1, g2, g3⟩⟩ := four_of (res_block HB5.out)
          clear h6
          go_wp2_with fail
          refine ret_cell3 (A := ⟨w.heap.size, 0, none⟩) rfl (load_rreq _ _ _ _ _ _ _ (four_set (res_block HB5.out) _ _ _ _)) rfl rfl rfl rfl ?_
          exact ⟨by rw [← HV.out, HVB.out]; rfl, four_below (bstep (below_agg4 w _ _ _ _ _) HB5.out) _ (Nat.le_refl _) _ _ _ _⟩
        have HVG := Lib.hid (askV_good s (x :: xs) n HHd.out (HLL.out.trans h6))
        rw [h6]
        clear h6
        obtain ⟨a6, c6, hv6, hc6, hh6⟩ := HS4.out
        injection hv6 with i1 i2 i3
        subst i1 i3
        obtain ⟨B6, o6, i4, hB6, hcell6⟩ := hh6 (by intro e; have := hw3.out; rw [e] at this; simp at this)
        subst i4
        have j1 := hcell6 1 (by rw [hw3.out]; decide)
        have hl3 : ws.length = 3 := hw3.out
        obtain ⟨Y, hY⟩ : ∃ Y, ws[1]'(by omega) = Y := ⟨_, rfl⟩
        rw [hY] at j1
        have HY : Hid (wordL (x :: xs) = Y) := Lib.hid (by rw [HF.out.2, List.getD_eq_getElem?_getD, List.getElem?_eq_getElem (by omega), hY]; rfl)
        clear hcell6 hh6 hY
        go_wp2_with fail
        have HB5 := Lib.hid (bstep HB4.out (below_agg2 w4 (.int .i64 (askedA (getS fs rangeK))) (.int .i64 (askedB (getS fs rangeK))) 46))
        obtain ⟨n0, n1⟩ := box2 w4 (.int .i64 (askedA (getS fs rangeK))) (.int .i64 (askedB (getS fs rangeK))) 46
        have j5 := ((below_agg2 w4 (.int .i64 (askedA (getS fs rangeK))) (.int .i64 (askedB (getS fs rangeK))) 46).cell (p := ⟨B6, o6 + 1, none⟩) hB6).trans j1
        generalize w4.alloc (.cells #[.int .i64 (askedA (getS fs rangeK)), .int .i64 (askedB (getS fs rangeK))] 46) = w5 at HB5 n0 n1 j5 ⊢
        obtain ⟨⟨d0, d1, d2, d3⟩, ⟨g0, g1, g2, g3⟩⟩ := four_of (res_block HB5.out)
        have hrb0 := res_block HB5.out
        have HRB : Hid (w5.drew.heap[w.heap.size]? = some (.cells #[.string ⟨#[]⟩, .string ⟨#[]⟩, .int .i64 0, .int .i64 0] 48 (0, 0))) := Lib.hid (by exact hrb0)
        clear j1 hrb0
        go_region
        all_goals go_wp2_with fail
        all_goals
          refine ret_cell3 (A := ⟨w.heap.size, 0, none⟩) rfl (load_rreq _ _ _ _ _ _ _ (four_set (w := w5.drew) HRB.out _ _ _ _)) rfl rfl rfl rfl ?_
          exact ⟨by rw [← HV.out, HVG.out, HY.out, List.tail_cons, HFS.out]; rfl, four_below ((bstep (below_agg4 w _ _ _ _ _) HB5.out).drew) _ (Nat.le_refl _) _ _ _ _⟩
end Go.Proofs.YtfjdppngeillcaaGreatDoor
namespace Go.Proofs.YtfjdppngeillcaaGreatDoor
open Go.RowKit

theorem eq_range_in (d : Nat) (x y : Int) (w : World) : (Op.equalIn (d + 2) 69 (.agg #[.int .i64 x, .int .i64 y]) (.agg #[.int .i64 x, .int .i64 y])).run Tryz.prog w = .ok true w := by
  have u4 := Tryz.underlying3
  have hS : Tryz.prog.underlying 69 = some (.struct (Tryz.prog.fieldsOf 69)) := by kernel_rfl
  have hp : Tryz.prog.stoodInHeld 69 = false := by kernel_rfl
  rw [run_equalIn_agg w (d + 1) 69 _ _ hS hp]
  simp only [Program.fieldsOf, Tryz.underlying69]
  go_simp
theorem eq_req_in (d : Nat) (a b : ByteArray) (x y : Int) (w : World) : (Op.equalIn (d + 3) 71 (.agg #[.string a, .string b, .int .i64 x, .int .i64 y]) (.agg #[.string a, .string b, .int .i64 x, .int .i64 y])).run Tryz.prog w = .ok true w := by
  have u3 := Tryz.underlying9
  have hS : Tryz.prog.underlying 71 = some (.struct (Tryz.prog.fieldsOf 71)) := by kernel_rfl
  have hp : Tryz.prog.stoodInHeld 71 = false := by kernel_rfl
  have hi := Tryz.sizeOf69
  have ha := Tryz.isAgg69
  have hin := eq_range_in d x y
  rw [run_equalIn_agg w (d + 2) 71 _ _ hS hp]
  simp only [Program.fieldsOf, Tryz.underlying71]
  go_simp
theorem eq_req (a b : ByteArray) (x y : Int) (w : World) : (binOp .eql 71 (.agg #[.string a, .string b, .int .i64 x, .int .i64 y]) (.agg #[.string a, .string b, .int .i64 x, .int .i64 y])).run Tryz.prog w = .ok (.bool true) w := by
  rw [run_eql_struct, show (10000 : Nat) = 9997 + 3 from rfl, eq_req_in]; rfl
theorem guard_req (op : BinOp) (x y : Operand) (xs ys : Array Value) (w : World) : (eqGuard op 71 x y (.agg xs) (.agg ys)).run Tryz.prog w = .ok () w :=
  run_eqGuard_agg w op 71 x y xs ys (by kernel_rfl)
theorem aparse_at (s P H : ByteArray) (a b n : Int) (e : Nat) (h : askPath s = P.data.toList ∧ askHost s = H.data.toList ∧ askA s = a ∧ askB s = b ∧ askN s = n ∧ askE s = e) (w : World) (hs : s.size ≤ 1000000) (hE : EnvF w) :
    Calls Tryz.prog 28 #[.string s] w fun r w' => r = .returned (.tuple #[.agg #[.string P, .string H, .int .i64 a, .int .i64 b], .int .i64 n, .int .i64 (e : Nat)]) ∧ Below w.heap.size w w' := by
  have := asking_parse s w hs hE
  unfold askV at this
  obtain ⟨h1, h2, h3, h4, h5, h6⟩ := h
  rw [h1, h2, h3, h4, h5, h6, bs_self, bs_self] at this
  exact this
theorem acheck_at (p h : ByteArray) (a b : Int) (e : Nat) (hh : aErr p.data.toList h.data.toList a b = e) (w : World) :
    Calls Tryz.prog 40 #[.agg #[.string p, .string h, .int .i64 a, .int .i64 b]] w fun r w' => r = .returned (.int .i64 (e : Nat)) ∧ Below w.heap.size w w' := by
  have := asking_check p h a b w
  rw [hh] at this
  exact this
theorem dig0 : digL 0 = [48] := by
  unfold digL; rw [if_neg (by decide)]; exact Go.Lib.decDigits_one (by decide)
theorem dig9 : digL 9 = [57] := by
  unfold digL; rw [if_neg (by decide)]; exact Go.Lib.decDigits_one (by decide)
theorem ask09 : askL 0 9 = [98, 121, 116, 101, 115, 61, 48, 45, 57] := by
  unfold askL textR; rw [dig0, dig9]; rfl
theorem qw1 : aPrint (ByteArray.mk #[47, 97]).data.toList (ByteArray.mk #[104]).data.toList 0 9 = (ByteArray.mk #[71, 69, 84, 32, 47, 97, 32, 72, 84, 84, 80, 47, 49, 46, 49, 13, 10, 72, 111, 115, 116, 58, 32, 104, 13, 10, 82, 97, 110, 103, 101, 58, 32, 98, 121, 116, 101, 115, 61, 48, 45, 57, 13, 10, 13, 10]).data.toList ∧ aErr (ByteArray.mk #[47, 97]).data.toList (ByteArray.mk #[104]).data.toList 0 9 = 0 := by
  have h : aErr (ByteArray.mk #[47, 97]).data.toList (ByteArray.mk #[104]).data.toList 0 9 = 0 := by decide +kernel
  refine ⟨?_, h⟩
  unfold aPrint
  rw [if_pos h]
  unfold reqL line3
  rw [ask09]
  decide +kernel
theorem qw2 : askPath ((ByteArray.mk #[71, 69, 84, 32, 47, 97, 32, 72, 84, 84, 80, 47, 49, 46, 49, 13, 10, 72, 111, 115, 116, 58, 32, 104, 13, 10, 82, 97, 110, 103, 101, 58, 32, 98, 121, 116, 101, 115, 61, 48, 45, 57, 13, 10, 13, 10]) ++ ⟨#[120]⟩) = (ByteArray.mk #[47, 97]).data.toList ∧ askHost ((ByteArray.mk #[71, 69, 84, 32, 47, 97, 32, 72, 84, 84, 80, 47, 49, 46, 49, 13, 10, 72, 111, 115, 116, 58, 32, 104, 13, 10, 82, 97, 110, 103, 101, 58, 32, 98, 121, 116, 101, 115, 61, 48, 45, 57, 13, 10, 13, 10]) ++ ⟨#[120]⟩) = (ByteArray.mk #[104]).data.toList ∧ askA ((ByteArray.mk #[71, 69, 84, 32, 47, 97, 32, 72, 84, 84, 80, 47, 49, 46, 49, 13, 10, 72, 111, 115, 116, 58, 32, 104, 13, 10, 82, 97, 110, 103, 101, 58, 32, 98, 121, 116, 101, 115, 61, 48, 45, 57, 13, 10, 13, 10]) ++ ⟨#[120]⟩) = 0 ∧ askB ((ByteArray.mk #[71, 69, 84, 32, 47, 97, 32, 72, 84, 84, 80, 47, 49, 46, 49, 13, 10, 72, 111, 115, 116, 58, 32, 104, 13, 10, 82, 97, 110, 103, 101, 58, 32, 98, 121, 116, 101, 115, 61, 48, 45, 57, 13, 10, 13, 10]) ++ ⟨#[120]⟩) = 9 ∧ askN ((ByteArray.mk #[71, 69, 84, 32, 47, 97, 32, 72, 84, 84, 80, 47, 49, 46, 49, 13, 10, 72, 111, 115, 116, 58, 32, 104, 13, 10, 82, 97, 110, 103, 101, 58, 32, 98, 121, 116, 101, 115, 61, 48, 45, 57, 13, 10, 13, 10]) ++ ⟨#[120]⟩) = 46 ∧ askE ((ByteArray.mk #[71, 69, 84, 32, 47, 97, 32, 72, 84, 84, 80, 47, 49, 46, 49, 13, 10, 72, 111, 115, 116, 58, 32, 104, 13, 10, 82, 97, 110, 103, 101, 58, 32, 98, 121, 116, 101, 115, 61, 48, 45, 57, 13, 10, 13, 10]) ++ ⟨#[120]⟩) = 0 := by decide +kernel
theorem qw3 : askPath (ByteArray.mk #[80, 85, 84, 32, 47, 97, 32, 72, 84, 84, 80, 47, 49, 46, 49, 13, 10, 13, 10]) = (ByteArray.mk #[]).data.toList ∧ askHost (ByteArray.mk #[80, 85, 84, 32, 47, 97, 32, 72, 84, 84, 80, 47, 49, 46, 49, 13, 10, 13, 10]) = (ByteArray.mk #[]).data.toList ∧ askA (ByteArray.mk #[80, 85, 84, 32, 47, 97, 32, 72, 84, 84, 80, 47, 49, 46, 49, 13, 10, 13, 10]) = 0 ∧ askB (ByteArray.mk #[80, 85, 84, 32, 47, 97, 32, 72, 84, 84, 80, 47, 49, 46, 49, 13, 10, 13, 10]) = 0 ∧ askN (ByteArray.mk #[80, 85, 84, 32, 47, 97, 32, 72, 84, 84, 80, 47, 49, 46, 49, 13, 10, 13, 10]) = 0 ∧ askE (ByteArray.mk #[80, 85, 84, 32, 47, 97, 32, 72, 84, 84, 80, 47, 49, 46, 49, 13, 10, 13, 10]) = 14 := by decide +kernel
theorem qw4 : askPath (ByteArray.mk #[71, 69, 84, 32, 47, 97, 32, 72, 84, 84, 80, 47, 49, 46, 49, 13, 10, 13, 10]) = (ByteArray.mk #[]).data.toList ∧ askHost (ByteArray.mk #[71, 69, 84, 32, 47, 97, 32, 72, 84, 84, 80, 47, 49, 46, 49, 13, 10, 13, 10]) = (ByteArray.mk #[]).data.toList ∧ askA (ByteArray.mk #[71, 69, 84, 32, 47, 97, 32, 72, 84, 84, 80, 47, 49, 46, 49, 13, 10, 13, 10]) = 0 ∧ askB (ByteArray.mk #[71, 69, 84, 32, 47, 97, 32, 72, 84, 84, 80, 47, 49, 46, 49, 13, 10, 13, 10]) = 0 ∧ askN (ByteArray.mk #[71, 69, 84, 32, 47, 97, 32, 72, 84, 84, 80, 47, 49, 46, 49, 13, 10, 13, 10]) = 0 ∧ askE (ByteArray.mk #[71, 69, 84, 32, 47, 97, 32, 72, 84, 84, 80, 47, 49, 46, 49, 13, 10, 13, 10]) = 6 := by decide +kernel
theorem qw5 : aErr (ByteArray.mk #[97]).data.toList (ByteArray.mk #[104]).data.toList 0 0 = 2 := by decide +kernel
def Four (w : World) (b : Nat) (x y z u : Value) : Prop := b < w.heap.size ∧ w.cell? ⟨b, 0, none⟩ = some x ∧ w.cell? ⟨b, 1, none⟩ = some y ∧ w.cell? ⟨b, 2, none⟩ = some z ∧ w.cell? ⟨b, 3, none⟩ = some u
theorem Four.below {w w' : World} {b : Nat} {x y z u : Value} (h : Four w b x y z u) (hb : Below w.heap.size w w') : Four w' b x y z u :=
  ⟨Nat.lt_of_lt_of_le h.1 hb.size, (hb.cell (p := ⟨b, 0, none⟩) h.1).trans h.2.1, (hb.cell (p := ⟨b, 1, none⟩) h.1).trans h.2.2.1, (hb.cell (p := ⟨b, 2, none⟩) h.1).trans h.2.2.2.1, (hb.cell (p := ⟨b, 3, none⟩) h.1).trans h.2.2.2.2⟩
theorem Four.alloc {w : World} {b : Nat} {x y z u : Value} (h : Four w b x y z u) (o : Obj) : Four (w.alloc o) b x y z u := h.below ((Below.refl _ _).alloc (Nat.le_refl _) o)
theorem Four.new (w : World) (x y z u : Value) (t : TypeId) : Four (w.alloc (.cells #[x, y, z, u] t)) w.heap.size x y z u := ⟨by simp, box4 w x y z u t⟩
end Go.Proofs.YtfjdppngeillcaaGreatDoor
namespace Go.Proofs.YtfjdppngeillcaaGreatDoor
open Go.RowKit

theorem aparse_vals (s : ByteArray) : ∃ (P H : ByteArray) (a b n : Int) (e : Nat), askV s = .tuple #[.agg #[.string P, .string H, .int .i64 a, .int .i64 b], .int .i64 n, .int .i64 (e : Nat)] := ⟨_, _, _, _, _, _, rfl⟩
theorem cells_of {W : World} {b : Nat} {x y z u : Value} (h : Four W b x y z u) : (∀ p : BelowOf W, p.world.cell? ⟨b, 0, none⟩ = some x) ∧ (∀ p : BelowOf W, p.world.cell? ⟨b, 1, none⟩ = some y) ∧ (∀ p : BelowOf W, p.world.cell? ⟨b, 2, none⟩ = some z) ∧ (∀ p : BelowOf W, p.world.cell? ⟨b, 3, none⟩ = some u) :=
  ⟨fun p => cell_of p h.1 h.2.1, fun p => cell_of p h.1 h.2.2.1, fun p => cell_of p h.1 h.2.2.2.1, fun p => cell_of p h.1 h.2.2.2.2⟩
end Go.Proofs.YtfjdppngeillcaaGreatDoor
namespace Go.Proofs.YtfjdppngeillcaaGreatDoor
open Go.RowKit

/-- the end of a head lies behind its beginning, within the text -/
theorem take_next_bd (s : ByteArray) (a : Int) (h : takeErr s a = 0) (h0 : 0 ≤ a) : a + 2 ≤ takeNext s a ∧ takeNext s a ≤ (s.size : Int) := by
  have hin : ¬ (a < 0 ∨ (s.size : Int) < a) := by
    intro hh
    rw [takeErr_out s a hh] at h
    exact absurd h (by decide)
  obtain ⟨i, rfl⟩ : ∃ i : Nat, a = (i : Int) := ⟨a.toNat, by omega⟩
  have hi : i ≤ s.size := by omega
  have hz := h
  rw [takeErr_in s i hi] at hz
  unfold takeNext
  rw [if_pos h, Int.toNat_natCast]
  have := scan_zero (s.data.toList.drop i) 0 hz
  unfold scanAt
  have hl : (s.data.toList.drop i).length = s.size - i := by rw [List.length_drop, size_len]
  omega
theorem headR_bd (s : ByteArray) : ∀ (f : Nat) (a : Int) (xs : List (List UInt8)), 0 ≤ a → (headR f s a xs).2.2 = 0 → 0 < f → a + 2 ≤ (headR f s a xs).2.1 ∧ (headR f s a xs).2.1 ≤ (s.size : Int) := by
  intro f
  induction f with
  | zero => intro a xs _ _ hf; omega
  | succ f ih =>
    intro a xs h0 he _
    by_cases h : takeErr s a = 0
    · obtain ⟨b1, b2⟩ := take_next_bd s a h h0
      by_cases h2 : (takeLine s a).toList.isEmpty = true
      · rw [headR_end f s a xs h h2]
        exact ⟨b1, b2⟩
      · rw [Bool.not_eq_true] at h2
        by_cases h3 : xs.length = 17
        · rw [headR_many f s a xs h h2 h3] at he
          exact absurd he (by decide)
        · rw [headR_more f s a xs h h2 h3] at he ⊢
          rcases f with _ | f
          · simp [headR] at he
          · obtain ⟨c1, c2⟩ := ih (takeNext s a) _ (by omega) he (by omega)
            exact ⟨by omega, c2⟩
    · rw [headR_err f s a xs h] at he
      exact absurd he h
theorem headOf_bd (s : ByteArray) (h : (headOf s).2.2 = 0) : 0 < (headOf s).2.1 ∧ (headOf s).2.1 ≤ (s.size : Int) := by
  have := headR_bd s 18 0 [] (by omega) h (by omega)
  unfold headOf
  exact ⟨by omega, this.2⟩

theorem words_one (p : List UInt8) (h : ∀ c ∈ p, c ≠ 32) : words p = [p] := by
  induction p with
  | nil => rfl
  | cons c t ih =>
    rw [words, if_neg (h c (List.mem_cons_self ..)), ih fun c hc => h c (List.mem_cons_of_mem _ hc)]
theorem words_pre (p r : List UInt8) (h : ∀ c ∈ p, c ≠ 32) : words (p ++ 32 :: r) = p :: words r := by
  induction p with
  | nil => rw [List.nil_append, words, if_pos rfl]
  | cons c t ih =>
    rw [List.cons_append, words, if_neg (h c (List.mem_cons_self ..)), ih fun c hc => h c (List.mem_cons_of_mem _ hc)]
theorem path_no32 (p : List UInt8) (h : pathB p = true) : ∀ c ∈ p, c ≠ 32 := by
  intro c hc e
  subst e
  exact absurd ((pathB_and p h).2.1 32 hc) (by decide)
theorem line1_words (p : List UInt8) (h : pathB p = true) : words (line1 p) = [[71, 69, 84], p, [72, 84, 84, 80, 47, 49, 46, 49]] := by
  have e : line1 p = [71, 69, 84] ++ 32 :: (p ++ 32 :: [72, 84, 84, 80, 47, 49, 46, 49]) := by unfold line1; simp
  rw [e, words_pre _ _ (by decide), words_pre _ _ (path_no32 p h), words_one _ (by decide)]
theorem line2_print (h : List UInt8) (hh : hostB h = true) : line2 h = printL hostK h := by
  have hne := (hostB_and h hh).2.2
  unfold line2 printL tailV
  rw [if_neg (by cases h <;> simp_all), show titL true hostK = [72, 111, 115, 116] by decide]
  rfl
theorem host_gap (h : List UInt8) (hh : hostB h = true) : printOk hostK h = true := by
  obtain ⟨-, h2, h3⟩ := hostB_and h hh
  have hg : ∀ c ∈ h, gapB c = false := by
    intro c hc
    have := hostN_plain c.toNat (h2 c hc)
    have h9 : c ≠ 9 := by rintro rfl; exact absurd (h2 9 hc) (by decide)
    have h32 : c ≠ 32 := by rintro rfl; exact absurd (h2 32 hc) (by decide)
    rw [← gapL_contains]
    unfold gapL
    simp [h9, h32]
  have hgap : ∀ l : List UInt8, (∀ c ∈ l, gapB c = false) → headGap l = false := by
    intro l hl
    cases l with
    | nil => rfl
    | cons c t => exact hl c (List.mem_cons_self ..)
  unfold printOk
  rw [show nameL hostK = true by decide, Bool.true_and, Bool.and_eq_true]
  refine ⟨List.all_eq_true.2 fun c hc => (hostN_plain c.toNat (h2 c hc)).1, ?_⟩
  unfold noGap
  rw [hgap h hg, hgap h.reverse (fun c hc => hg c (List.mem_reverse.1 hc))]
  rfl
theorem rangeL_eq (a b : Int) (h : rErr a b = 0) : askL a b = asksL ++ (Go.Lib.decDigits a.toNat ++ 45 :: Go.Lib.decDigits b.toNat) := by
  obtain ⟨h1, h2, h3⟩ := rErr_ok a b h
  unfold askL textR digL
  rw [if_pos h, if_neg (by omega), if_neg (by omega)]
theorem line3_print (a b : Int) (h : rErr a b = 0) : line3 a b = printL rangeK (askL a b) := by
  unfold line3 printL tailV
  rw [rangeL_eq a b h, if_neg (by simp [asksL]), show titL true rangeK = [82, 97, 110, 103, 101] by decide]
  rfl
theorem dig_gap (n : Nat) (t : List UInt8) : headGap (Go.Lib.decDigits n ++ t).reverse = headGap (Go.Lib.decDigits n ++ t).reverse := rfl
theorem dig_no (n : Nat) : ∀ c ∈ Go.Lib.decDigits n, gapB c = false ∧ c ≠ 45 ∧ c ≠ 47 := by
  intro c hc
  have := digN_bd _ (List.all_eq_true.1 (decDigits_all n) c hc)
  have h9 : c ≠ 9 := by rintro rfl; exact absurd this (by decide)
  have h32 : c ≠ 32 := by rintro rfl; exact absurd this (by decide)
  refine ⟨?_, by rintro rfl; exact absurd this (by decide), by rintro rfl; exact absurd this (by decide)⟩
  rw [← gapL_contains]
  unfold gapL
  simp [h9, h32]
theorem dig_last (n : Nat) (x : List UInt8) : headGap (x ++ Go.Lib.decDigits n).reverse = false := by
  rw [List.reverse_append]
  cases e : (Go.Lib.decDigits n).reverse with
  | nil => exact absurd (List.reverse_eq_nil_iff.1 e) (decDigits_ne n)
  | cons c t => exact (dig_no n c (by rw [← List.mem_reverse, e]; exact List.mem_cons_self ..)).1
theorem range_gap (a b : Int) (h : rErr a b = 0) : printOk rangeK (askL a b) = true := by
  unfold printOk
  rw [show nameL rangeK = true by decide, Bool.true_and, Bool.and_eq_true]
  refine ⟨List.all_eq_true.2 fun c hc => askL_plain a b c hc, ?_⟩
  unfold noGap
  rw [rangeL_eq a b h]
  have e1 : headGap (asksL ++ (Go.Lib.decDigits a.toNat ++ 45 :: Go.Lib.decDigits b.toNat)) = false := by
    unfold asksL; rfl
  have e2 : asksL ++ (Go.Lib.decDigits a.toNat ++ 45 :: Go.Lib.decDigits b.toNat) = (asksL ++ (Go.Lib.decDigits a.toNat ++ [45])) ++ Go.Lib.decDigits b.toNat := by simp
  rw [e1, e2, dig_last]
  rfl
theorem upTo_of (c : UInt8) (x t : List UInt8) (h : ∀ d ∈ x, d ≠ c) : upTo c (x ++ c :: t) = x := by
  unfold upTo
  rw [List.takeWhile_append_of_pos (fun d hd => by simpa using h d hd), List.takeWhile_cons_of_neg (by simp)]
  simp
theorem hasB_of (c : UInt8) (x t : List UInt8) (h : ∀ d ∈ x, d ≠ c) : hasB c (x ++ c :: t) = true := by
  unfold hasB
  rw [upTo_of c x t h]
  simp
theorem behind_of (c : UInt8) (x t : List UInt8) (h : ∀ d ∈ x, d ≠ c) : behind c (x ++ c :: t) = t := by
  unfold behind
  rw [upTo_of c x t h, ← List.drop_drop, List.drop_left]
  rfl
theorem numE_dec (n : Nat) (h : n ≤ 9007199254740991) : numE (Go.Lib.decDigits n) = 0 ∧ numV (Go.Lib.decDigits n) = n := by
  have e : numE (Go.Lib.decDigits n) = 0 := by
    unfold numE
    rw [numBad_dec, if_neg (by decide), decV_decDigits, if_neg (by omega)]
  refine ⟨e, ?_⟩
  unfold numV
  rw [if_pos e, decV_decDigits]
theorem asked_ask (a b : Int) (h : rErr a b = 0) : askedE (askL a b) = 0 ∧ askedA (askL a b) = a ∧ askedB (askL a b) = b := by
  obtain ⟨h1, h2, h3⟩ := rErr_ok a b h
  have hd : (askL a b).drop 6 = Go.Lib.decDigits a.toNat ++ 45 :: Go.Lib.decDigits b.toNat := by rw [rangeL_eq a b h]; rfl
  have hno : ∀ d ∈ Go.Lib.decDigits a.toNat, d ≠ 45 := fun d hd => (dig_no _ d hd).2.1
  have hok : askedOk (askL a b) = true := by
    unfold askedOk
    rw [hd, hasB_of _ _ _ hno, rangeL_eq a b h, Bool.and_true]
    exact List.isPrefixOf_iff_prefix.2 (List.prefix_append _ _)
  have hF : askedF (askL a b) = a.toNat := by unfold askedF; rw [hd, upTo_of _ _ _ hno, (numE_dec _ (by omega)).2]
  have hT : askedT (askL a b) = b.toNat := by unfold askedT; rw [hd, behind_of _ _ _ hno, (numE_dec _ (by omega)).2]
  have he : askedE (askL a b) = 0 := by
    unfold askedE
    rw [if_neg (by rw [hok]; decide), hF, hT, hd, upTo_of _ _ _ hno, behind_of _ _ _ hno]
    unfold twoE
    rw [(numE_dec _ (by omega)).1, (numE_dec _ (by omega)).1, if_neg (by decide), Int.toNat_of_nonneg h1, Int.toNat_of_nonneg (by omega)]
    exact h
  refine ⟨he, ?_, ?_⟩
  · unfold askedA; rw [if_pos he, hF]; exact Int.toNat_of_nonneg h1
  · unfold askedB; rw [if_pos he, hT]; exact Int.toNat_of_nonneg (by omega)

theorem fields_req (h : List UInt8) (a b : Int) (hh : hostB h = true) (hr : rErr a b = 0) : fldE [line2 h, line3 a b] = 0 ∧ fldL [line2 h, line3 a b] = [(hostK, h), (rangeK, askL a b)] := by
  obtain ⟨x1, x2, x3⟩ := print_parse hostK h (host_gap h hh)
  obtain ⟨y1, y2, y3⟩ := print_parse rangeK (askL a b) (range_gap a b hr)
  rw [line2_print h hh, line3_print a b hr]
  refine ⟨?_, ?_⟩
  · unfold fldE fldE fldE
    rw [x3, y3]; rfl
  · unfold fldL
    simp [x1, x2, y1, y2]
theorem hits_req (x y : List UInt8) : getE [(hostK, x), (rangeK, y)] hostK = 0 ∧ getS [(hostK, x), (rangeK, y)] hostK = x ∧ getE [(hostK, x), (rangeK, y)] rangeK = 0 ∧ getS [(hostK, x), (rangeK, y)] rangeK = y := by
  have n1 : (rangeK == hostK) = false := by decide
  have n2 : (hostK == rangeK) = false := by decide
  have e1 : hits [(hostK, x), (rangeK, y)] hostK = [x] := by unfold hits; simp [List.filter, n1]
  have e2 : hits [(hostK, x), (rangeK, y)] rangeK = [y] := by unfold hits; simp [List.filter, n2]
  unfold getE getS
  rw [e1, e2]
  exact ⟨rfl, rfl, rfl, rfl⟩
theorem ln_req (p h : List UInt8) (a b : Int) (he : aErr p h a b = 0) : lnE [line1 p, line2 h, line3 a b] = 0 ∧ wordL [line1 p, line2 h, line3 a b] = p := by
  obtain ⟨hp, hh, hr⟩ := aErr_zero p h a b he
  obtain ⟨f1, f2⟩ := fields_req h a b hh hr
  obtain ⟨g1, g2, g3, g4⟩ := hits_req h (askL a b)
  obtain ⟨k1, k2, k3⟩ := asked_ask a b hr
  have hf : firstL [line1 p, line2 h, line3 a b] = 0 := by
    unfold firstL firstW
    rw [if_neg (by simp), show ([line1 p, line2 h, line3 a b] : List (List UInt8)).getD 0 [] = line1 p from rfl, line1_words p hp]
    simp [hp]
  refine ⟨?_, ?_⟩
  · unfold lnE
    rw [hf, List.tail_cons, f1, f2]
    unfold whoE whatE
    rw [g1, g2, g3, g4, hh, k1]
    rfl
  · unfold wordL
    rw [show ([line1 p, line2 h, line3 a b] : List (List UInt8)).getD 0 [] = line1 p from rfl, line1_words p hp]
    rfl
theorem lines_good (p h : List UInt8) (a b : Int) (he : aErr p h a b = 0) (ha : a ≤ 9223372036854775807) (hb : b ≤ 9223372036854775807) : ∀ x ∈ [line1 p, line2 h, line3 a b], goodLine x := by
  obtain ⟨hp, hh, hr⟩ := aErr_zero p h a b he
  intro x hx
  simp only [List.mem_cons, List.not_mem_nil, or_false] at hx
  rcases hx with rfl | rfl | rfl
  · have := putErr_good _ (line1_put p hp); exact ⟨by simp [line1], this.1, this.2⟩
  · have := putErr_good _ (line2_put h hh); exact ⟨by simp [line2], this.1, this.2⟩
  · have := putErr_good _ (line3_put a b ha hb); exact ⟨by simp [line3], this.1, this.2⟩
/-- what is taken of a printed request with anything behind it -/
theorem ask_req (p h : List UInt8) (a b : Int) (he : aErr p h a b = 0) (ha : a ≤ 9223372036854775807) (hb : b ≤ 9223372036854775807) (s : ByteArray) (rest : List UInt8) (hs : s.data.toList = reqL p h a b ++ rest) :
    askE s = 0 ∧ askPath s = p ∧ askHost s = h ∧ askA s = a ∧ askB s = b ∧ askN s = (reqL p h a b).length := by
  obtain ⟨hp, hh, hr⟩ := aErr_zero p h a b he
  have hd : headOf s = ([line1 p, line2 h, line3 a b], ((reqL p h a b).length : Int), 0) := by
    have := head_ok s rest [line1 p, line2 h, line3 a b] [] [] 18 (lines_good p h a b he ha hb) (by simp) (by simp) (by rw [hs]; unfold reqL; simp)
    unfold headOf
    rw [show (0 : Int) = ((([] : List UInt8).length : Nat) : Int) from rfl, this]
    unfold reqL
    simp
  obtain ⟨l1, l2⟩ := ln_req p h a b he
  obtain ⟨f1, f2⟩ := fields_req h a b hh hr
  obtain ⟨g1, g2, g3, g4⟩ := hits_req h (askL a b)
  obtain ⟨k1, k2, k3⟩ := asked_ask a b hr
  have e0 : askE s = 0 := by unfold askE; rw [hd]; simpa using l1
  refine ⟨e0, ?_, ?_, ?_, ?_, ?_⟩
  · unfold askPath; rw [if_pos e0, hd]; exact l2
  · unfold askHost; rw [if_pos e0, hd]; simp only [List.tail_cons]; rw [f2, g2]
  · unfold askA; rw [if_pos e0, hd]; simp only [List.tail_cons]; rw [f2, g4, k2]
  · unfold askB; rw [if_pos e0, hd]; simp only [List.tail_cons]; rw [f2, g4, k3]
  · unfold askN; rw [if_pos e0, hd]
theorem ask_cut (p h : List UInt8) (a b : Int) (he : aErr p h a b = 0) (ha : a ≤ 9223372036854775807) (hb : b ≤ 9223372036854775807) (s : ByteArray) (k : Nat) (hk : k < (reqL p h a b).length) (hs : s.data.toList = (reqL p h a b).take k) : askE s = 3 := by
  have := head_cut s [line1 p, line2 h, line3 a b] [] [] 18 k (lines_good p h a b he ha hb) (by simp) (by simp) (by unfold reqL at hk; simpa using hk) (by rw [hs]; unfold reqL; simp)
  unfold askE headOf
  rw [show (0 : Int) = ((([] : List UInt8).length : Nat) : Int) from rfl, this]
  rfl
/-- what is taken may be printed, and what is printed of it is taken for the same -/
theorem ask_again (s : ByteArray) (h0 : askE s = 0) : aErr (askPath s) (askHost s) (askA s) (askB s) = 0 ∧ 0 < askN s ∧ askN s ≤ (s.size : Int) ∧ 0 ≤ askA s ∧ askA s ≤ 9007199254740990 ∧ 0 ≤ askB s ∧ askB s ≤ 9007199254740990 := by
  have hh : (headOf s).2.2 = 0 := by
    by_cases h : (headOf s).2.2 = 0
    · exact h
    · unfold askE at h0; rw [if_pos h] at h0; exact h0
  have hl : lnE (headOf s).1 = 0 := by unfold askE at h0; rw [if_neg (by simp [hh])] at h0; exact h0
  have h1 : firstL (headOf s).1 = 0 := by
    by_cases h : firstL (headOf s).1 = 0
    · exact h
    · unfold lnE at hl; rw [if_pos h] at hl; exact hl
  unfold lnE at hl
  rw [if_neg (by simp [h1])] at hl
  have h2 : fldE (headOf s).1.tail = 0 := by
    by_cases h : fldE (headOf s).1.tail = 0
    · exact h
    · rw [if_pos h] at hl; exact hl
  rw [if_neg (by simp [h2])] at hl
  have h3 : whoE (fldL (headOf s).1.tail) = 0 := by
    by_cases h : whoE (fldL (headOf s).1.tail) = 0
    · exact h
    · rw [if_pos h] at hl; exact hl
  rw [if_neg (by simp [h3])] at hl
  have hp : pathB (wordL (headOf s).1) = true := by
    unfold firstL firstW at h1
    unfold wordL
    split at h1
    · exact absurd h1 (by decide)
    split at h1
    · exact absurd h1 (by decide)
    split at h1
    · exact absurd h1 (by decide)
    split at h1
    · exact absurd h1 (by decide)
    split at h1
    · exact absurd h1 (by decide)
    · rename_i hx
      simpa using hx
  have hH : hostB (getS (fldL (headOf s).1.tail) hostK) = true := by
    unfold whoE at h3
    split at h3
    · rename_i hx; exact absurd h3 hx
    split at h3
    · exact absurd h3 (by decide)
    · rename_i hx
      simpa using hx
  have hA : askedE (getS (fldL (headOf s).1.tail) rangeK) = 0 := by
    unfold whatE at hl
    split at hl
    · rename_i hx; exact absurd hl hx
    · exact hl
  have hr : rErr (askedF (getS (fldL (headOf s).1.tail) rangeK)) (askedT (getS (fldL (headOf s).1.tail) rangeK)) = 0 := by
    have hA' := hA
    unfold askedE at hA'
    split at hA'
    · exact absurd hA' (by decide)
    split at hA'
    · rename_i hx; exact absurd hA' hx
    · exact hA'
  obtain ⟨n1, n2⟩ := headOf_bd s hh
  obtain ⟨r1, r2, r3⟩ := rErr_ok _ _ hr
  unfold askPath askHost askA askB askN
  rw [if_pos h0, if_pos h0, if_pos h0, if_pos h0, if_pos h0]
  unfold askedA askedB
  rw [if_pos hA, if_pos hA]
  refine ⟨?_, n1, n2, r1, by omega, by omega, r3⟩
  unfold aErr
  rw [if_neg (by simp [hp, hH])]
  exact hr
theorem ask_bad (s : ByteArray) (h0 : askE s ≠ 0) : askPath s = [] ∧ askHost s = [] ∧ askA s = 0 ∧ askB s = 0 ∧ askN s = 0 := by
  unfold askPath askHost askA askB askN
  rw [if_neg h0, if_neg h0, if_neg h0, if_neg h0, if_neg h0]
  exact ⟨rfl, rfl, rfl, rfl, rfl⟩
end Go.Proofs.YtfjdppngeillcaaGreatDoor
namespace Go.Proofs.YtfjdppngeillcaaGreatDoor
open Go.RowKit

def reasonOf (code : Int) : ByteArray :=
  if code = 200 then ⟨#[79, 75]⟩ else if code = 206 then ⟨#[80, 97, 114, 116, 105, 97, 108, 32, 67, 111, 110, 116, 101, 110, 116]⟩
  else if code = 400 then ⟨#[66, 97, 100, 32, 82, 101, 113, 117, 101, 115, 116]⟩ else if code = 404 then ⟨#[78, 111, 116, 32, 70, 111, 117, 110, 100]⟩
  else if code = 416 then ⟨#[82, 97, 110, 103, 101, 32, 78, 111, 116, 32, 83, 97, 116, 105, 115, 102, 105, 97, 98, 108, 101]⟩
  else if code = 502 then ⟨#[66, 97, 100, 32, 71, 97, 116, 101, 119, 97, 121]⟩ else ⟨#[79, 116, 104, 101, 114]⟩
def classOf (code : Int) : Int := if code < 100 ∨ 599 < code then 0 else code / 100
def isDigitB (c : UInt8) : Bool := decide (48 ≤ c.toNat) && decide (c.toNat ≤ 57)
def versionL : List UInt8 := [72, 84, 84, 80, 47, 49, 46, 49, 32]
/-- the code of a status line, from what stands behind the version. -/
def codeOf (r : List UInt8) : Int × Nat := match r with
  | a :: b :: c :: t => if t ≠ [] ∧ t.head? ≠ some 32 then (0, 4) else if (isDigitB a && isDigitB b && isDigitB c) = false then (0, 4)
      else if classOf (100 * ((a.toNat : Int) - 48) + 10 * ((b.toNat : Int) - 48) + ((c.toNat : Int) - 48)) = 0 then (0, 4)
      else (100 * ((a.toNat : Int) - 48) + 10 * ((b.toNat : Int) - 48) + ((c.toNat : Int) - 48), 0)
  | _ => (0, 4)
def statusOf (l : List UInt8) : Int × Nat := if putErr l = 4 then (0, 4) else if versionL.isPrefixOf l = false then (0, 13) else codeOf (l.drop 9)
theorem reason_size (code : Int) : (reasonOf code).size ≤ 21 := by
  unfold reasonOf
  repeat' split
  all_goals decide
theorem class_out (code : Int) (h : code < 100 ∨ 599 < code) : classOf code = 0 := if_pos h
theorem class_in (code : Int) (h1 : 100 ≤ code) (h2 : code ≤ 599) : classOf code = code / 100 := if_neg (by omega)
theorem class_pos (code : Int) (h1 : 100 ≤ code) (h2 : code ≤ 599) : 1 ≤ classOf code ∧ classOf code ≤ 5 := by rw [class_in code h1 h2]; omega
theorem class_iff (code : Int) : classOf code = 0 ↔ (code < 100 ∨ 599 < code) := by
  constructor
  · intro h
    rcases Classical.em (code < 100 ∨ 599 < code) with h' | h'
    · exact h'
    · have := class_pos code (by omega) (by omega); omega
  · exact class_out code
/-- the first line of a code, laid. -/
def statusLine (code : Int) : ByteArray := (⟨versionL.toArray⟩ ++ ⟨(Go.Lib.itoa code).toArray⟩ ++ ⟨#[32]⟩) ++ reasonOf code
def printOf (code : Int) : ByteArray := if classOf code = 0 then ⟨#[]⟩ else statusLine code
def printErr (code : Int) : Nat := if classOf code = 0 then 8 else 0
end Go.Proofs.YtfjdppngeillcaaGreatDoor
namespace Go.Proofs.YtfjdppngeillcaaGreatDoor
open Go.RowKit

/-- the library's variables: MaxLen holds some number, the table of powers its numbers. -/
structure Env (w : World) : Prop where
  m : ∃ m, MaxLenIs w m
  tab : Go.Lib.TabIs Tryz.prog w "internal/strconv.uint64pow10" .u64 Go.Lib.pow10Tab
  big : 3 < w.heap.size

theorem Env.below {w w' : World} (h : Env w) (hb : Below w.heap.size w w') : Env w' :=
  ⟨let ⟨m, hm⟩ := h.m; ⟨m, hm.below hb⟩, var?_below hb g_pow10 h.big h.tab, Nat.lt_of_lt_of_le h.big hb.size⟩
end Go.Proofs.YtfjdppngeillcaaGreatDoor
namespace Go.Proofs.YtfjdppngeillcaaGreatDoor
open Go.RowKit

set_option maxHeartbeats 1000000 in
theorem status_reason (code : Int) (w : World) :
    Calls Tryz.prog 87 #[.int .i64 code] w fun e w' => e = .returned (.string (reasonOf code)) ∧ w' = w := by
  by_cases h1 : code = 200
  · subst h1; go_enter Tryz.func87, Tryz.ntmps87; go_wp2_with fail; go_ret; exact ⟨ret_str rfl, rfl⟩
  · by_cases h2 : code = 206
    · subst h2; go_enter Tryz.func87, Tryz.ntmps87; go_wp2_with fail; go_ret; exact ⟨ret_str rfl, rfl⟩
    · by_cases h3 : code = 400
      · subst h3; go_enter Tryz.func87, Tryz.ntmps87; go_wp2_with fail; go_ret; exact ⟨ret_str rfl, rfl⟩
      · by_cases h4 : code = 404
        · subst h4; go_enter Tryz.func87, Tryz.ntmps87; go_wp2_with fail; go_ret; exact ⟨ret_str rfl, rfl⟩
        · by_cases h5 : code = 416
          · subst h5; go_enter Tryz.func87, Tryz.ntmps87; go_wp2_with fail; go_ret; exact ⟨ret_str rfl, rfl⟩
          · by_cases h6 : code = 502
            · subst h6; go_enter Tryz.func87, Tryz.ntmps87; go_wp2_with fail; go_ret; exact ⟨ret_str rfl, rfl⟩
            · have H : Hid (reasonOf code = ⟨#[79, 116, 104, 101, 114]⟩) := Lib.hid (by unfold reasonOf; rw [if_neg h1, if_neg h2, if_neg h3, if_neg h4, if_neg h5, if_neg h6])
              have k1 : (code == 200) = false := by rw [beq_eq_false_iff_ne]; exact h1
              have k2 : (code == 206) = false := by rw [beq_eq_false_iff_ne]; exact h2
              have k3 : (code == 400) = false := by rw [beq_eq_false_iff_ne]; exact h3
              have k4 : (code == 404) = false := by rw [beq_eq_false_iff_ne]; exact h4
              have k5 : (code == 416) = false := by rw [beq_eq_false_iff_ne]; exact h5
              have k6 : (code == 502) = false := by rw [beq_eq_false_iff_ne]; exact h6
              clear h1 h2 h3 h4 h5 h6
              go_enter Tryz.func87, Tryz.ntmps87
              go_wp2_with fail
              go_ret
              exact ⟨ret_str H.out.symm, rfl⟩

theorem status_class (code : Int) (w : World) :
    Calls Tryz.prog 85 #[.int .i64 code] w fun e w' => e = .returned (.int .i64 (classOf code)) ∧ w' = w := by
  by_cases h : code < 100
  · have H := Lib.hid (class_out code (.inl h))
    go_enter Tryz.func85, Tryz.ntmps85; go_wp2_with fail; go_ret; exact ⟨ret_int H.out.symm, rfl⟩
  · by_cases h2 : 599 < code
    · have H := Lib.hid (class_out code (.inr h2))
      go_enter Tryz.func85, Tryz.ntmps85; go_wp2_with fail; go_ret; exact ⟨ret_int H.out.symm, rfl⟩
    · have H := Lib.hid (class_in code (by omega) (by omega))
      go_enter Tryz.func85, Tryz.ntmps85; go_wp2_with fail; go_ret; exact ⟨ret_int H.out.symm, rfl⟩
theorem ref_class (code : Int) (w : World) :
    Calls Tryz.prog 110 #[.int .i64 code] w fun e w' => e = .returned (.int .i64 (classOf code)) ∧ w' = w := by
  by_cases h : code < 100
  · have H := Lib.hid (class_out code (.inl h))
    go_enter Tryz.func110, Tryz.ntmps110; go_wp2_with fail; go_ret; exact ⟨ret_int H.out.symm, rfl⟩
  · by_cases h2 : 599 < code
    · have H := Lib.hid (class_out code (.inr h2))
      go_enter Tryz.func110, Tryz.ntmps110; go_wp2_with fail; go_ret; exact ⟨ret_int H.out.symm, rfl⟩
    · have H := Lib.hid (class_in code (by omega) (by omega))
      go_enter Tryz.func110, Tryz.ntmps110; go_wp2_with fail; go_ret; exact ⟨ret_int H.out.symm, rfl⟩

def codesL : List Int := [200, 206, 400, 404, 416, 502]
def reasonsL : List ByteArray := [⟨#[79, 75]⟩, ⟨#[80, 97, 114, 116, 105, 97, 108, 32, 67, 111, 110, 116, 101, 110, 116]⟩, ⟨#[66, 97, 100, 32, 82, 101, 113, 117, 101, 115, 116]⟩, ⟨#[78, 111, 116, 32, 70, 111, 117, 110, 100]⟩,
  ⟨#[82, 97, 110, 103, 101, 32, 78, 111, 116, 32, 83, 97, 116, 105, 115, 102, 105, 97, 98, 108, 101]⟩, ⟨#[66, 97, 100, 32, 71, 97, 116, 101, 119, 97, 121]⟩]
set_option maxRecDepth 100000 in
set_option maxHeartbeats 1000000 in
theorem ref_reason (code : Int) (w : World) :
    Calls Tryz.prog 111 #[.int .i64 code] w fun e w' => e = .returned (.string (reasonOf code)) ∧ Below w.heap.size w w' := by
  go_enter Tryz.func111, Tryz.ntmps111
  go_wp2_with fail
  go_loop [5] (fun j => ∃ k : Nat, k ≤ 6 ∧ j = .int .i64 k ∧ Hid (∀ j, j < k → codesL.getD j 0 ≠ code)) (fun j => 6 - (intOf j).toNat)
  case atStart => exact ⟨0, by omega, rfl, Lib.hid (fun j hj => by omega)⟩
  case round =>
    obtain ⟨k, hk, rfl, Hno⟩ := hrel
    have hb : Below w.heap.size w ((w.alloc (.cells #[.int .i64 200, .int .i64 206, .int .i64 400, .int .i64 404, .int .i64 416, .int .i64 502] 3)).alloc (.cells #[.string ⟨#[79, 75]⟩, .string ⟨#[80, 97, 114, 116, 105, 97, 108, 32, 67, 111, 110, 116, 101, 110, 116]⟩, .string ⟨#[66, 97, 100, 32, 82, 101, 113, 117, 101, 115, 116]⟩, .string ⟨#[78, 111, 116, 32, 70, 111, 117, 110, 100]⟩, .string ⟨#[82, 97, 110, 103, 101, 32, 78, 111, 116, 32, 83, 97, 116, 105, 115, 102, 105, 97, 98, 108, 101]⟩, .string ⟨#[66, 97, 100, 32, 71, 97, 116, 101, 119, 97, 121]⟩] 9)) := ((Below.refl _ _).alloc (Nat.le_refl _) _).alloc (by simp) _
    rcases (show k = 0 ∨ k = 1 ∨ k = 2 ∨ k = 3 ∨ k = 4 ∨ k = 5 ∨ k = 6 by omega) with rfl | rfl | rfl | rfl | rfl | rfl | rfl
    · by_cases h : code = 200
      · subst h
        go_wp2_with fail
        go_ret
        exact ⟨ret_str rfl, hb⟩
      · have h1 : ((200 : Int) == code) = false := by rw [beq_eq_false_iff_ne]; exact fun e => h e.symm
        have Hn : Hid (∀ j, j < 1 → codesL.getD j 0 ≠ code) := Lib.hid (fun j hj => by
          by_cases e : j = 0
          · subst e; exact fun e => h e.symm
          · exact Hno.out j (by omega))
        clear h Hno
        go_wp2_with fail
        go_round
        case rel => exact ⟨1, by omega, rfl, Hn⟩
        case measure => simp [intOf]
    · by_cases h : code = 206
      · subst h
        go_wp2_with fail
        go_ret
        exact ⟨ret_str rfl, hb⟩
      · have h1 : ((206 : Int) == code) = false := by rw [beq_eq_false_iff_ne]; exact fun e => h e.symm
        have Hn : Hid (∀ j, j < 2 → codesL.getD j 0 ≠ code) := Lib.hid (fun j hj => by
          by_cases e : j = 1
          · subst e; exact fun e => h e.symm
          · exact Hno.out j (by omega))
        clear h Hno
        go_wp2_with fail
        go_round
        case rel => exact ⟨2, by omega, rfl, Hn⟩
        case measure => simp [intOf]
    · by_cases h : code = 400
      · subst h
        go_wp2_with fail
        go_ret
        exact ⟨ret_str rfl, hb⟩
      · have h1 : ((400 : Int) == code) = false := by rw [beq_eq_false_iff_ne]; exact fun e => h e.symm
        have Hn : Hid (∀ j, j < 3 → codesL.getD j 0 ≠ code) := Lib.hid (fun j hj => by
          by_cases e : j = 2
          · subst e; exact fun e => h e.symm
          · exact Hno.out j (by omega))
        clear h Hno
        go_wp2_with fail
        go_round
        case rel => exact ⟨3, by omega, rfl, Hn⟩
        case measure => simp [intOf]
    · by_cases h : code = 404
      · subst h
        go_wp2_with fail
        go_ret
        exact ⟨ret_str rfl, hb⟩
      · have h1 : ((404 : Int) == code) = false := by rw [beq_eq_false_iff_ne]; exact fun e => h e.symm
        have Hn : Hid (∀ j, j < 4 → codesL.getD j 0 ≠ code) := Lib.hid (fun j hj => by
          by_cases e : j = 3
          · subst e; exact fun e => h e.symm
          · exact Hno.out j (by omega))
        clear h Hno
        go_wp2_with fail
        go_round
        case rel => exact ⟨4, by omega, rfl, Hn⟩
        case measure => simp [intOf]
    · by_cases h : code = 416
      · subst h
        go_wp2_with fail
        go_ret
        exact ⟨ret_str rfl, hb⟩
      · have h1 : ((416 : Int) == code) = false := by rw [beq_eq_false_iff_ne]; exact fun e => h e.symm
        have Hn : Hid (∀ j, j < 5 → codesL.getD j 0 ≠ code) := Lib.hid (fun j hj => by
          by_cases e : j = 4
          · subst e; exact fun e => h e.symm
          · exact Hno.out j (by omega))
        clear h Hno
        go_wp2_with fail
        go_round
        case rel => exact ⟨5, by omega, rfl, Hn⟩
        case measure => simp [intOf]
    · by_cases h : code = 502
      · subst h
        go_wp2_with fail
        go_ret
        exact ⟨ret_str rfl, hb⟩
      · have h1 : ((502 : Int) == code) = false := by rw [beq_eq_false_iff_ne]; exact fun e => h e.symm
        have Hn : Hid (∀ j, j < 6 → codesL.getD j 0 ≠ code) := Lib.hid (fun j hj => by
          by_cases e : j = 5
          · subst e; exact fun e => h e.symm
          · exact Hno.out j (by omega))
        clear h Hno
        go_wp2_with fail
        go_round
        case rel => exact ⟨6, by omega, rfl, Hn⟩
        case measure => simp [intOf]
    · have H : Hid (reasonOf code = ⟨#[79, 116, 104, 101, 114]⟩) := Lib.hid (by
        have n0 := Hno.out 0 (by decide)
        have n1 := Hno.out 1 (by decide)
        have n2 := Hno.out 2 (by decide)
        have n3 := Hno.out 3 (by decide)
        have n4 := Hno.out 4 (by decide)
        have n5 := Hno.out 5 (by decide)
        simp only [codesL, List.getD_cons_zero, List.getD_cons_succ] at n0 n1 n2 n3 n4 n5
        unfold reasonOf
        rw [if_neg n0.symm, if_neg n1.symm, if_neg n2.symm, if_neg n3.symm, if_neg n4.symm, if_neg n5.symm])
      clear Hno
      go_wp2_with fail
      go_ret
      exact ⟨ret_str H.out.symm, hb⟩
end Go.Proofs.YtfjdppngeillcaaGreatDoor
namespace Go.Proofs.YtfjdppngeillcaaGreatDoor
open Go.RowKit

theorem below_grow (w : World) (k : Nat) (os : Array Obj) : Below w.heap.size w (Go.Sort.grow (w.drewN k) os) := by
  refine ⟨rfl, rfl, rfl, ?_, fun j hj => ?_⟩
  · show w.heap.size ≤ (w.heap ++ os).size
    simp
  · show (w.heap ++ os)[j]? = w.heap[j]?
    rw [Array.getElem?_append_left hj]

theorem itoa_any (n : Int) (h0 : -9223372036854775808 ≤ n) (h1 : n ≤ 9223372036854775807) (w : World) (hE : Env w) :
    Calls Tryz.prog 86 #[.int .i64 n] w fun e w' => e = .returned (.string (bs (Go.Lib.itoa n))) ∧ Below w.heap.size w w' :=
  (Tryz.strconv_Itoa n h0 h1 w hE.tab).mono fun _ _ ⟨he, k, os, hw⟩ => ⟨he, hw ▸ below_grow w k os⟩

theorem status_print (code : Int) (w : World) (hE : Env w) (h0 : -9223372036854775808 ≤ code) (h1 : code ≤ 9223372036854775807) :
    Calls Tryz.prog 57 #[.int .i64 code] w fun e w' => e = .returned (.tuple #[.string (printOf code), .int .i64 (printErr code)]) ∧ Below w.heap.size w w' := by
  by_cases hc : classOf code = 0
  · have hP : Hid (printOf code = ⟨#[]⟩ ∧ printErr code = 8) := Lib.hid ⟨if_pos hc, if_pos hc⟩
    go_enter Tryz.func57, Tryz.ntmps57
    go_wp2_with (go_at_call 85; refine (status_class _ _).mono ?_; rintro e w' ⟨rfl, rfl⟩)
    go_ret2
    exact ⟨by rw [hP.out.1, hP.out.2]; rfl, Below.refl _ _⟩
  · have hP : Hid (printOf code = statusLine code ∧ printErr code = 0) := Lib.hid ⟨if_neg hc, if_neg hc⟩
    have hcb : (classOf code == 0) = false := by rw [beq_eq_false_iff_ne]; exact hc
    have hl := itoa_len code h0 h1
    have hr := reason_size code
    obtain ⟨I, hI⟩ : ∃ I, I = bs (Go.Lib.itoa code) := ⟨_, rfl⟩
    have hIs : I.size ≤ 21 := by rw [hI, bs_size]; exact hl
    have y1 : (ByteArray.mk #[72, 84, 84, 80, 47, 49, 46, 49, 32]).size + I.size ≤ 9223372036854775807 := by show 9 + _ ≤ _; omega
    have y2 : ((ByteArray.mk #[72, 84, 84, 80, 47, 49, 46, 49, 32]) ++ I).size + (ByteArray.mk #[32]).size ≤ 9223372036854775807 := by rw [ByteArray.size_append]; show 9 + _ + 1 ≤ _; omega
    have y3 : ((ByteArray.mk #[72, 84, 84, 80, 47, 49, 46, 49, 32]) ++ I ++ ByteArray.mk #[32]).size + (reasonOf code).size ≤ 9223372036854775807 := by rw [ByteArray.size_append, ByteArray.size_append]; show 9 + _ + 1 + _ ≤ _; omega
    have HI := Lib.hid hI
    have HE := Lib.hid hE
    clear hc hI hE
    go_enter Tryz.func57, Tryz.ntmps57
    go_wp2_with (go_at_call 85; refine (status_class _ _).mono ?_; rintro e w' ⟨rfl, rfl⟩)
    refine (itoa_any code h0 h1 _ HE.out).mono ?_
    rw [← HI.out]
    rintro e w1 ⟨rfl, hb⟩
    go_wp2_with (go_at_call 87; refine (status_reason _ _).mono ?_; rintro e w' ⟨rfl, rfl⟩)
    go_ret2
    refine ⟨?_, hb⟩
    rw [hP.out.1, hP.out.2]
    unfold statusLine
    rw [HI.out]
    rfl

set_option maxHeartbeats 1000000 in
theorem ref_print (code : Int) (w : World) (h0 : -9223372036854775808 ≤ code) (h1 : code ≤ 9223372036854775807) :
    Calls Tryz.prog 75 #[.int .i64 code] w fun e w' => e = .returned (.tuple #[.string (printOf code), .int .i64 (printErr code)]) ∧ Below w.heap.size w w' := by
  by_cases hc : classOf code = 0
  · have hP : Hid (printOf code = ⟨#[]⟩ ∧ printErr code = 8) := Lib.hid ⟨if_pos hc, if_pos hc⟩
    go_enter Tryz.func75, Tryz.ntmps75
    go_wp2_with (go_at_call 110; refine (ref_class _ _).mono ?_; rintro e w' ⟨rfl, rfl⟩)
    go_ret2
    exact ⟨by rw [hP.out.1, hP.out.2]; rfl, Below.refl _ _⟩
  · have hP : Hid (printOf code = statusLine code ∧ printErr code = 0) := Lib.hid ⟨if_neg hc, if_neg hc⟩
    have hcb : (classOf code == 0) = false := by rw [beq_eq_false_iff_ne]; exact hc
    have hin : 100 ≤ code ∧ code ≤ 599 := by
      rcases Classical.em (code < 100 ∨ 599 < code) with h | h
      · exact absurd (class_out code h) hc
      · omega
    obtain ⟨n, rfl⟩ := Int.eq_ofNat_of_zero_le (show 0 ≤ code by omega)
    have hl := itoa_len (n : Int) h0 h1
    have hit := itoa_nonneg (n : Int) (by omega)
    rw [Int.toNat_natCast] at hit
    have hr := reason_size (n : Int)
    obtain ⟨I, hI⟩ : ∃ I, I = bs (Go.Lib.decDigits n) := ⟨_, rfl⟩
    have hIs : I.size ≤ 21 := by rw [hI, bs_size, ← hit]; exact hl
    have y1 : (ByteArray.mk #[72, 84, 84, 80, 47, 49, 46, 49, 32]).size + I.size ≤ 9223372036854775807 := by show 9 + _ ≤ _; omega
    have y2 : ((ByteArray.mk #[72, 84, 84, 80, 47, 49, 46, 49, 32]) ++ I).size + (ByteArray.mk #[32]).size ≤ 9223372036854775807 := by rw [ByteArray.size_append]; show 9 + _ + 1 ≤ _; omega
    have y3 : ((ByteArray.mk #[72, 84, 84, 80, 47, 49, 46, 49, 32]) ++ I ++ ByteArray.mk #[32]).size + (reasonOf (n : Int)).size ≤ 9223372036854775807 := by rw [ByteArray.size_append, ByteArray.size_append]; show 9 + _ + 1 + _ ≤ _; omega
    have hdg := ref_digits n n w (Nat.le_refl _) (by omega)
    rw [← hI] at hdg
    have Hdg := Lib.hid hdg
    have HI := Lib.hid (hI.trans (congrArg bs hit.symm))
    clear hc hI hit hdg hl
    go_enter Tryz.func75, Tryz.ntmps75
    go_wp2_with (go_at_call 110; refine (ref_class _ _).mono ?_; rintro e w' ⟨rfl, rfl⟩)
    refine Hdg.out.mono ?_
    rintro e w1 ⟨rfl, rfl⟩
    go_wp2_with (go_at_call 111; refine (ref_reason _ _).mono ?_; rintro e w' ⟨rfl, hb⟩)
    go_ret2
    refine ⟨?_, by assumption⟩
    rw [hP.out.1, hP.out.2]
    unfold statusLine
    rw [HI.out]
    rfl
end Go.Proofs.YtfjdppngeillcaaGreatDoor
namespace Go.Proofs.YtfjdppngeillcaaGreatDoor
open Go.RowKit

def digitSet : List UInt8 := [48, 49, 50, 51, 52, 53, 54, 55, 56, 57]
theorem digitSet_iff (c : UInt8) : digitSet.contains c = isDigitB c := by
  have h : ∀ n : Fin 256, digitSet.contains (UInt8.ofNat n.val) = isDigitB (UInt8.ofNat n.val) := by decide +kernel
  have := h ⟨c.toNat, c.toNat_lt⟩
  simpa using this

theorem dropWhile_nil {p : UInt8 → Bool} (l : List UInt8) : l.dropWhile p = [] ↔ l.all p = true := by
  induction l with
  | nil => simp
  | cons a t ih =>
    by_cases h : p a = true
    · rw [List.dropWhile_cons_of_pos h, ih]; simp [h]
    · rw [List.dropWhile_cons_of_neg h]; simp [h]

theorem trimS_empty (l cs : List UInt8) : (Go.Lib.trimS l cs).isEmpty = l.all (cs.contains ·) := by
  unfold Go.Lib.trimS Go.Lib.trimLeftS Go.Lib.trimRightS
  rw [Bool.eq_iff_iff, List.isEmpty_iff]
  constructor
  · intro h
    have h1 := (dropWhile_nil _).1 h
    rw [List.all_reverse] at h1
    have h2 : (l.reverse.dropWhile (cs.contains ·)) = [] := by
      cases hd : l.reverse.dropWhile (cs.contains ·) with
      | nil => rfl
      | cons a t =>
        have hn := List.head?_dropWhile_not (cs.contains ·) l.reverse
        rw [hd] at h1 hn
        simp only [List.head?_cons] at hn
        simp only [List.all_cons, Bool.and_eq_true] at h1
        rw [h1.1] at hn
        exact absurd hn (by decide)
    have h3 := (dropWhile_nil _).1 h2
    rwa [List.all_reverse] at h3
  · intro h
    have h2 : (l.reverse.dropWhile (cs.contains ·)) = [] := (dropWhile_nil _).2 (by rw [List.all_reverse]; exact h)
    rw [h2]; rfl

theorem digits_trim (l : List UInt8) : (Go.Lib.trimS l digitSet).isEmpty = l.all isDigitB := by
  rw [trimS_empty]
  congr 1
  funext c
  exact digitSet_iff c

theorem three (l : List UInt8) (h : 3 ≤ l.length) : l = l[0] :: l[1] :: l[2] :: l.drop 3 := by
  match l, h with
  | a :: b :: c :: t, _ => rfl

theorem codeOf_short (l : List UInt8) (h : l.length < 3) : codeOf l = (0, 4) := by
  match l, h with
  | [], _ => rfl
  | [_], _ => rfl
  | [_, _], _ => rfl
/-- the three digits' number. -/
def numOf (a b c : UInt8) : Int := 100 * ((a.toNat : Int) - 48) + 10 * ((b.toNat : Int) - 48) + ((c.toNat : Int) - 48)
theorem codeOf_cons (a b c : UInt8) (t : List UInt8) : codeOf (a :: b :: c :: t) = if t ≠ [] ∧ t.head? ≠ some 32 then (0, 4) else if (isDigitB a && isDigitB b && isDigitB c) = false then (0, 4)
      else if classOf (numOf a b c) = 0 then (0, 4) else (numOf a b c, 0) := rfl
theorem codeOf_tail (l : List UInt8) (h : 3 < l.length) (h2 : l[3] ≠ 32) : codeOf l = (0, 4) := by
  match l, h, h2 with
  | a :: b :: c :: d :: t, _, h2 =>
    rw [codeOf_cons, if_pos ⟨by simp, by simpa using h2⟩]
theorem codeOf_main (l : List UInt8) (h : 3 ≤ l.length) (h2 : ∀ h3 : 3 < l.length, l[3] = 32) :
    codeOf l = if (isDigitB l[0] && isDigitB l[1] && isDigitB l[2]) = false then (0, 4) else if classOf (numOf l[0] l[1] l[2]) = 0 then (0, 4) else (numOf l[0] l[1] l[2], 0) := by
  match l, h, h2 with
  | [a, b, c], _, _ =>
    rw [codeOf_cons]; rfl
  | a :: b :: c :: d :: t, _, h2 =>
    have hd : d = 32 := h2 (by simp)
    rw [codeOf_cons, if_neg (by simp [hd])]; rfl
theorem codeOf_digits (l : List UInt8) (h : 3 ≤ l.length) (hd : (isDigitB l[0] && isDigitB l[1] && isDigitB l[2]) = false) : codeOf l = (0, 4) := by
  by_cases h3 : 3 < l.length
  · by_cases h4 : l[3] = 32
    · rw [codeOf_main l h (fun _ => h4), if_pos hd]
    · exact codeOf_tail l h3 h4
  · rw [codeOf_main l h (fun h' => absurd h' h3), if_pos hd]

theorem digit_bd (c : UInt8) (h : isDigitB c = true) : 48 ≤ c.toNat ∧ c.toNat ≤ 57 := by
  unfold isDigitB at h; simpa using h

theorem atoi_three (a b c : UInt8) (ha : isDigitB a = true) (hb : isDigitB b = true) (hc : isDigitB c = true) : Go.Lib.atoi [a, b, c] = some (numOf a b c) := by
  obtain ⟨a1, a2⟩ := digit_bd a ha
  obtain ⟨b1, b2⟩ := digit_bd b hb
  obtain ⟨c1, c2⟩ := digit_bd c hc
  have d1 : Go.Lib.digitVal a = some (a.toNat - 48) := if_pos ⟨a1, a2⟩
  have d2 : Go.Lib.digitVal b = some (b.toNat - 48) := if_pos ⟨b1, b2⟩
  have d3 : Go.Lib.digitVal c = some (c.toNat - 48) := if_pos ⟨c1, c2⟩
  have n1 : (a == 45) = false := by rw [beq_eq_false_iff_ne]; intro e; subst e; simp at a1
  have n2 : (a == 43) = false := by rw [beq_eq_false_iff_ne]; intro e; subst e; simp at a1
  unfold Go.Lib.atoi Go.Lib.decNat
  simp only [n1, n2, Go.Lib.decFrom, d1, d2, d3, List.isEmpty_cons, Bool.false_eq_true, if_false, Option.map_some]
  unfold numOf
  congr 1
  omega
end Go.Proofs.YtfjdppngeillcaaGreatDoor
namespace Go.Proofs.YtfjdppngeillcaaGreatDoor
open Go.RowKit

theorem prefix_take (l : List UInt8) : versionL.isPrefixOf l = (l.take 9 == versionL) := by
  rw [Bool.eq_iff_iff, List.isPrefixOf_iff_prefix, beq_iff_eq, List.prefix_iff_eq_take]
  exact ⟨fun h => h.symm, fun h => h.symm⟩
theorem status_form (l : List UInt8) (h : putErr l = 4) : statusOf l = (0, 4) := if_pos h
theorem status_version (l : List UInt8) (h : putErr l ≠ 4) (h2 : versionL.isPrefixOf l = false) : statusOf l = (0, 13) := by
  unfold statusOf; rw [if_neg h, if_pos h2]
theorem status_code (l : List UInt8) (h : putErr l ≠ 4) (h2 : versionL.isPrefixOf l = true) : statusOf l = codeOf (l.drop 9) := by
  unfold statusOf; rw [if_neg h, if_neg (by simp [h2])]
theorem putErr_not4 (l : List UInt8) (h : plainL l) : putErr l ≠ 4 := by
  rw [putErr_ok l fun _ hk => h _ (List.getElem_mem hk)]; split <;> decide
theorem not_digit (c : UInt8) (h : c.toNat < 48 ∨ 57 < c.toNat) : isDigitB c = false := by
  unfold isDigitB; rcases h with h | h <;> simp <;> omega
theorem is_digit (c : UInt8) (h1 : 48 ≤ c.toNat) (h2 : c.toNat ≤ 57) : isDigitB c = true := by
  unfold isDigitB; simp [h1, h2]
theorem status_fin (l : List UInt8) (n : Int) (e : Nat) (h : statusOf l = (n, e)) : Ending.returned (.tuple #[.int .i64 n, .int .i64 e]) = .returned (.tuple #[.int .i64 (statusOf l).1, .int .i64 (statusOf l).2]) := by rw [h]

/-- what stands behind the version, in the walk's own spelling. -/
theorem status_split (s : ByteArray) (h : 12 ≤ s.size) (hcode : statusOf s.data.toList = codeOf (s.data.toList.drop 9)) : ∃ a b c : UInt8,
    (∀ h, ((s.extract 9 s.size)[0]'h).toNat = a.toNat) ∧ (∀ h, ((s.extract 9 s.size)[1]'h).toNat = b.toNat) ∧ (∀ h, ((s.extract 9 s.size)[2]'h).toNat = c.toNat) ∧
    ((∃ h, (s.extract 9 s.size)[3]'h ≠ 32) → statusOf s.data.toList = (0, 4)) ∧
    ((isDigitB a && isDigitB b && isDigitB c) = false → statusOf s.data.toList = (0, 4)) ∧
    ((∀ h, (s.extract 9 s.size)[3]'h = 32) → isDigitB a = true → isDigitB b = true → isDigitB c = true → statusOf s.data.toList = if classOf (numOf a b c) = 0 then (0, 4) else (numOf a b c, 0)) := by
  have hRl : (s.extract 9 s.size).data.toList = s.data.toList.drop 9 := by rw [extract_bs, bs_data, ← size_len s, List.take_length]
  have hRs : (s.extract 9 s.size).size = s.size - 9 := by rw [← size_len, hRl, List.length_drop, size_len]
  rw [← hRl] at hcode
  generalize s.extract 9 s.size = R at *
  have hz : 3 ≤ R.data.toList.length := by rw [size_len, hRs]; omega
  refine ⟨R.data.toList[0], R.data.toList[1], R.data.toList[2], fun _ => rfl, fun _ => rfl, fun _ => rfl, ?_, ?_, ?_⟩
  · rintro ⟨h3, hne⟩
    exact hcode.trans (codeOf_tail _ (by rw [size_len]; exact h3) hne)
  · exact fun hd => hcode.trans (codeOf_digits _ hz hd)
  · intro h3 ha hb hc
    rw [hcode, codeOf_main _ hz (fun h' => h3 (by rw [← size_len]; exact h')), if_neg (by rw [ha, hb, hc]; decide)]

end Go.Proofs.YtfjdppngeillcaaGreatDoor
namespace Go.Proofs.YtfjdppngeillcaaGreatDoor
open Go.RowKit

theorem status_digits (s : ByteArray) (w : World) (hs : s.size ≤ 9223372036854775807) :
    Calls Tryz.prog 150 #[.string s] w fun e w' => e = .returned (.bool (s.data.toList.all isDigitB)) ∧ Below w.heap.size w w' := by
  have hcon : Calls Tryz.prog 92 #[.string s, .string ⟨#[48, 49, 50, 51, 52, 53, 54, 55, 56, 57]⟩] w (fun e w' => e = .returned (.string (bs (Go.Lib.trimS s.data.toList digitSet))) ∧ Below w.heap.size w w') :=
    Any.strings_Trim_laid Tryz.lays160 (by kernel_rfl) s ⟨#[48, 49, 50, 51, 52, 53, 54, 55, 56, 57]⟩ w hs (by decide) (Go.Proofs.ascii_of_all (by decide))
  have he : (bs (Go.Lib.trimS s.data.toList digitSet)).toList.isEmpty = s.data.toList.all isDigitB := by
    rw [isEmpty_bs]; exact digits_trim _
  obtain ⟨R, hR⟩ : ∃ R, R = bs (Go.Lib.trimS s.data.toList digitSet) := ⟨_, rfl⟩
  rw [← hR] at hcon he
  have Hcon := Lib.hid hcon
  have He := Lib.hid he
  clear hR hcon he
  go_enter Tryz.func150, Tryz.ntmps150
  go_wp2_with fail
  refine Hcon.out.mono ?_
  rintro e w' ⟨rfl, hb⟩
  go_wp2_with fail
  go_ret
  exact ⟨ret_bool He.out, hb⟩

/-- may what stands behind the version be? -/
def shapeB (l : List UInt8) : Bool := decide (3 ≤ l.length) && (decide (l.length = 3) || l[3]? == some 32) && ((l.take 3).all isDigitB)
theorem shape_short (l : List UInt8) (h : l.length < 3) : shapeB l = false := by
  unfold shapeB; rw [decide_eq_false (by omega)]; rfl
theorem shape_tail (l : List UInt8) (h : 3 < l.length) (h2 : l[3]? ≠ some 32) : shapeB l = false := by
  unfold shapeB
  have : (l[3]? == some 32) = false := by rw [beq_eq_false_iff_ne]; exact h2
  rw [this, decide_eq_false (show ¬ l.length = 3 by omega)]; simp
theorem shape_main (l : List UInt8) (h : 3 ≤ l.length) (h2 : l.length = 3 ∨ l[3]? = some 32) : shapeB l = (isDigitB l[0] && isDigitB l[1] && isDigitB l[2]) := by
  unfold shapeB
  have h3 : (decide (l.length = 3) || l[3]? == some 32) = true := by
    rcases h2 with h2 | h2
    · rw [decide_eq_true h2]; rfl
    · rw [h2]; simp
  rw [decide_eq_true h, h3, Bool.true_and, Bool.true_and]
  match l, h with
  | a :: b :: c :: t, _ => simp [Bool.and_assoc]
theorem piece1 (s : ByteArray) (k : Nat) (h : k < s.size) : (s.extract k (k + 1)).data.toList = [s[k]] := by
  rw [extract_bs, bs_data, List.take_succ_eq_append_getElem (by simpa using h), List.drop_append_of_le_length (by simp; omega), List.drop_of_length_le (by simp; omega)]
  rfl

theorem digit_at (t : ByteArray) (b : UInt8) (B : Bool) (w : World) (hs : t.size ≤ 9223372036854775807) (hb : t.data.toList = [b]) (hB : isDigitB b = B) :
    Calls Tryz.prog 150 #[.string t] w fun e w' => e = .returned (.bool B) ∧ Below w.heap.size w w' := by
  have h := status_digits t w hs
  rw [hb] at h
  simpa [hB] using h

set_option maxRecDepth 100000 in
set_option maxHeartbeats 4000000 in
theorem status_shape (s : ByteArray) (w : World) (hs : s.size ≤ 9223372036854775807) :
    Calls Tryz.prog 130 #[.string s] w fun e w' => e = .returned (.bool (shapeB s.data.toList)) ∧ Below w.heap.size w w' := by
  by_cases h3 : s.size < 3
  · have H := Lib.hid (shape_short s.data.toList (by rw [size_len]; exact h3))
    have t1 : ((s.size : Int) == 3) = false := by rw [beq_eq_false_iff_ne]; omega
    go_enter Tryz.func130, Tryz.ntmps130
    go_wp2_with fail
    go_ret
    exact ⟨ret_bool H.out.symm, Below.refl _ _⟩
  · by_cases ht : ∃ h : 3 < s.size, s[3] ≠ 32
    · obtain ⟨hlt, hne⟩ := ht
      have H := Lib.hid (shape_tail s.data.toList (by rw [size_len]; exact hlt) (by rw [List.getElem?_eq_getElem (by rw [size_len]; exact hlt)]; intro e; exact hne (Option.some.inj e)))
      have hc3 : ((s[3].toNat : Int) != 32) = true := by
        rw [bne_iff_ne]; intro e; exact hne (UInt8.toNat_inj.1 (by show _ = 32; omega))
      clear hne
      go_enter Tryz.func130, Tryz.ntmps130
      go_wp2_with fail
      go_ret
      exact ⟨ret_bool H.out.symm, Below.refl _ _⟩
    · have hm := shape_main s.data.toList (by rw [size_len]; omega) (by
        rcases Nat.lt_or_ge 3 s.size with h | h
        · right
          rw [List.getElem?_eq_getElem (by rw [size_len]; exact h)]
          have : s[3] = 32 := Classical.byContradiction fun hne => ht ⟨h, hne⟩
          exact congrArg some this
        · left; rw [size_len]; omega)
      change shapeB s.data.toList = (isDigitB (s[0]'(by omega)) && isDigitB (s[1]'(by omega)) && isDigitB (s[2]'(by omega))) at hm
      have hx : s.data.toList.length = s.size := size_len s
      have hsz3 : (s.extract 0 3).size = 3 := by rw [ByteArray.size_extract]; omega
      obtain ⟨a, ha⟩ : ∃ a, a = s[0]'(by omega) := ⟨_, rfl⟩
      obtain ⟨b, hb⟩ : ∃ b, b = s[1]'(by omega) := ⟨_, rfl⟩
      obtain ⟨c, hc⟩ : ∃ c, c = s[2]'(by omega) := ⟨_, rfl⟩
      have g0 : ((s.extract 0 3).extract 0 1).data.toList = [a] := by
        rw [piece1 (s.extract 0 3) 0 (by omega), ByteArray.getElem_extract, ha]
      have g1 : ((s.extract 0 3).extract 1 2).data.toList = [b] := by
        rw [piece1 (s.extract 0 3) 1 (by omega), ByteArray.getElem_extract, hb]
      have g2 : ((s.extract 0 3).extract 2 3).data.toList = [c] := by
        rw [piece1 (s.extract 0 3) 2 (by omega), ByteArray.getElem_extract, hc]
      have k0 : (s.extract 0 1).data.toList = [a] := by
        rw [piece1 s 0 (by omega), ha]
      have k1 : (s.extract 1 2).data.toList = [b] := by
        rw [piece1 s 1 (by omega), hb]
      have k2 : (s.extract 2 3).data.toList = [c] := by
        rw [piece1 s 2 (by omega), hc]
      rw [← ha, ← hb, ← hc] at hm
      clear ha hb hc
      obtain ⟨da, hda⟩ : ∃ d, isDigitB a = d := ⟨_, rfl⟩
      obtain ⟨db, hdb⟩ : ∃ d, isDigitB b = d := ⟨_, rfl⟩
      obtain ⟨dc, hdc⟩ : ∃ d, isDigitB c = d := ⟨_, rfl⟩
      rw [hda, hdb, hdc] at hm
      have z1 : ((s.extract 0 3).extract 0 1).size ≤ 9223372036854775807 := by rw [ByteArray.size_extract]; omega
      have z2 : ((s.extract 0 3).extract 1 2).size ≤ 9223372036854775807 := by rw [ByteArray.size_extract]; omega
      have z3 : ((s.extract 0 3).extract 2 3).size ≤ 9223372036854775807 := by rw [ByteArray.size_extract]; omega
      have y1 : (s.extract 0 1).size ≤ 9223372036854775807 := by rw [ByteArray.size_extract]; omega
      have y2 : (s.extract 1 2).size ≤ 9223372036854775807 := by rw [ByteArray.size_extract]; omega
      have y3 : (s.extract 2 3).size ≤ 9223372036854775807 := by rw [ByteArray.size_extract]; omega
      have C0 := fun w => digit_at _ a da w z1 g0 hda
      have C1 := fun w => digit_at _ b db w z2 g1 hdb
      have C2 := fun w => digit_at _ c dc w z3 g2 hdc
      have D0 := fun w => digit_at _ a da w y1 k0 hda
      have D1 := fun w => digit_at _ b db w y2 k1 hdb
      have D2 := fun w => digit_at _ c dc w y3 k2 hdc
      clear hda hdb hdc g0 g1 g2 k0 k1 k2 z1 z2 z3 y1 y2 y3 hx
      have Hm := Lib.hid hm
      have HC0 := Lib.hid C0
      have HC1 := Lib.hid C1
      have HC2 := Lib.hid C2
      have HD0 := Lib.hid D0
      have HD1 := Lib.hid D1
      have HD2 := Lib.hid D2
      clear hm C0 C1 C2 D0 D1 D2
      by_cases h4 : 3 < s.size
      · have hc3 : ((s[3].toNat : Int) != 32) = false := by
          have : s[3] = 32 := Classical.byContradiction fun hne => ht ⟨h4, hne⟩
          rw [this]; rfl
        clear ht
        cases da
        · go_enter Tryz.func130, Tryz.ntmps130
          go_wp2_with fail
          refine (HC0.out _).mono ?_
          rintro e w1 ⟨rfl, hb1⟩
          go_wp2_with fail
          go_ret
          exact ⟨ret_bool (by rw [Hm.out]; rfl), hb1⟩
        · cases db
          · go_enter Tryz.func130, Tryz.ntmps130
            go_wp2_with fail
            refine (HC0.out _).mono ?_
            rintro e w1 ⟨rfl, hb1⟩
            go_wp2_with fail
            refine (HC1.out _).mono ?_
            rintro e w2 ⟨rfl, hb2⟩
            go_wp2_with fail
            go_ret
            exact ⟨ret_bool (by rw [Hm.out]; rfl), bstep hb1 hb2⟩
          · go_enter Tryz.func130, Tryz.ntmps130
            go_wp2_with fail
            refine (HC0.out _).mono ?_
            rintro e w1 ⟨rfl, hb1⟩
            go_wp2_with fail
            refine (HC1.out _).mono ?_
            rintro e w2 ⟨rfl, hb2⟩
            go_wp2_with fail
            refine (HC2.out _).mono ?_
            rintro e w3 ⟨rfl, hb3⟩
            cases dc <;>
            · go_wp2_with fail
              go_ret
              exact ⟨ret_bool (by rw [Hm.out]; rfl), bstep hb1 (bstep hb2 hb3)⟩
      · have t3 : ((s.size : Int) == 3) = true := by rw [beq_iff_eq]; omega
        have t4 : s.size = 3 := by omega
        clear ht
        cases da
        · go_enter Tryz.func130, Tryz.ntmps130
          go_wp2_with fail
          refine (HD0.out _).mono ?_
          rintro e w1 ⟨rfl, hb1⟩
          go_wp2_with fail
          go_ret
          exact ⟨ret_bool (by rw [Hm.out]; rfl), hb1⟩
        · cases db
          · go_enter Tryz.func130, Tryz.ntmps130
            go_wp2_with fail
            refine (HD0.out _).mono ?_
            rintro e w1 ⟨rfl, hb1⟩
            go_wp2_with fail
            refine (HD1.out _).mono ?_
            rintro e w2 ⟨rfl, hb2⟩
            go_wp2_with fail
            go_ret
            exact ⟨ret_bool (by rw [Hm.out]; rfl), bstep hb1 hb2⟩
          · go_enter Tryz.func130, Tryz.ntmps130
            go_wp2_with fail
            refine (HD0.out _).mono ?_
            rintro e w1 ⟨rfl, hb1⟩
            go_wp2_with fail
            refine (HD1.out _).mono ?_
            rintro e w2 ⟨rfl, hb2⟩
            go_wp2_with fail
            refine (HD2.out _).mono ?_
            rintro e w3 ⟨rfl, hb3⟩
            cases dc <;>
            · go_wp2_with fail
              go_ret
              exact ⟨ret_bool (by rw [Hm.out]; rfl), bstep hb1 (bstep hb2 hb3)⟩

theorem codeOf_shape_no (l : List UInt8) (h : shapeB l = false) : codeOf l = (0, 4) := by
  rcases Nat.lt_or_ge l.length 3 with h3 | h3
  · exact codeOf_short l h3
  · by_cases h2 : l.length = 3 ∨ l[3]? = some 32
    · exact codeOf_digits l h3 (by rw [← shape_main l h3 h2]; exact h)
    · have h4 : 3 < l.length := by omega
      exact codeOf_tail l h4 (fun e => h2 (.inr (by rw [List.getElem?_eq_getElem h4, e])))
theorem codeOf_shape (l : List UInt8) (h : shapeB l = true) : ∃ a b c, 3 ≤ l.length ∧ l.take 3 = [a, b, c] ∧ isDigitB a = true ∧ isDigitB b = true ∧ isDigitB c = true ∧ codeOf l = if classOf (numOf a b c) = 0 then (0, 4) else (numOf a b c, 0) := by
  rcases Nat.lt_or_ge l.length 3 with h3 | h3
  · rw [shape_short l h3] at h; exact absurd h (by decide)
  · by_cases h2 : l.length = 3 ∨ l[3]? = some 32
    · have hm := shape_main l h3 h2
      rw [h] at hm
      have hm' := hm.symm
      rw [Bool.and_eq_true, Bool.and_eq_true] at hm'
      refine ⟨l[0], l[1], l[2], h3, ?_, hm'.1.1, hm'.1.2, hm'.2, ?_⟩
      · match l, h3 with
        | a :: b :: c :: t, _ => rfl
      · rw [codeOf_main l h3 ?_, if_neg (by rw [← hm]; decide)]
        intro h4
        rcases h2 with h2 | h2
        · omega
        · rw [List.getElem?_eq_getElem h4] at h2; exact Option.some.inj h2
    · have h4 : 3 < l.length := by omega
      rw [shape_tail l h4 (fun e => h2 (.inr e))] at h; exact absurd h (by decide)

theorem cut_prefix (s : ByteArray) (w : World) (R : ByteArray) (B : Bool) (hR : R = bs (Lib.trimPrefix s.data.toList versionL)) (hB : Lib.hasPrefix s.data.toList versionL = B) :
    Calls Tryz.prog 116 #[.string s, .string ⟨#[72, 84, 84, 80, 47, 49, 46, 49, 32]⟩] w fun e w' => e = .returned (.tuple #[.string R, .bool B]) ∧ w' = w := by
  have h := Tryz.strings_CutPrefix s ⟨#[72, 84, 84, 80, 47, 49, 46, 49, 32]⟩ w
  subst hR; subst hB
  exact h

theorem status_fin2 (l : List UInt8) (n : Int) (e : Nat) (h : statusOf l = (n, e)) : Ending.returned (.tuple #[.int .i64 n, .int .i64 e]) = .returned (.tuple #[.int .i64 (statusOf l).1, .int .i64 (statusOf l).2]) := by rw [h]

set_option maxRecDepth 100000 in
set_option maxHeartbeats 4000000 in
theorem status_parse (s : ByteArray) (w : World) (hs : s.size ≤ 9223372036854775807) :
    Calls Tryz.prog 96 #[.string s] w fun e w' => e = .returned (.tuple #[.int .i64 (statusOf s.data.toList).1, .int .i64 (statusOf s.data.toList).2]) ∧ Below w.heap.size w w' := by
  by_cases h4 : putErr s.data.toList = 4
  · have H := Lib.hid (status_form s.data.toList h4)
    have hput := lines_put s w hs
    rw [h4] at hput
    have Hput := Lib.hid hput
    clear hput h4
    go_enter Tryz.func96, Tryz.ntmps96
    go_wp2_with fail
    refine Hput.out.mono ?_
    rintro e w' ⟨rfl, rfl⟩
    go_wp2_with fail
    go_ret2
    exact ⟨status_fin2 _ 0 4 H.out, Below.refl _ _⟩
  · obtain ⟨E, hE⟩ : ∃ E, E = putErr s.data.toList := ⟨_, rfl⟩
    have hE4 : ((E : Int) == 4) = false := by rw [beq_eq_false_iff_ne, hE]; omega
    have hE4' : (E == 4) = false := by rw [beq_eq_false_iff_ne, hE]; omega
    have hput := lines_put s w hs
    rw [← hE] at hput
    obtain ⟨PL, hPL⟩ : ∃ PL, PL = putLine s := ⟨_, rfl⟩
    rw [← hPL] at hput
    have Hput := Lib.hid hput
    clear hput hE hPL
    by_cases hpre : versionL.isPrefixOf s.data.toList = true
    · have hcode := status_code _ h4 hpre
      obtain ⟨R, hR⟩ : ∃ R, R = bs (Lib.trimPrefix s.data.toList versionL) := ⟨_, rfl⟩
      have Hcut := Lib.hid (cut_prefix s w R true hR hpre)
      have hRl : R.data.toList = s.data.toList.drop 9 := by
        rw [hR, bs_data]; unfold Lib.trimPrefix; rw [if_pos (show Lib.hasPrefix s.data.toList versionL = true from hpre)]; rfl
      have hRs : R.size ≤ 9223372036854775807 := by
        rw [← size_len, hRl, List.length_drop, size_len]; omega
      rw [← hRl] at hcode
      clear hR hRl hpre h4
      cases hsh : shapeB R.data.toList with
      | false =>
        have H := Lib.hid (hcode.trans (codeOf_shape_no _ hsh))
        have hshp := fun w => status_shape R w hRs
        rw [hsh] at hshp
        have Hshp := Lib.hid hshp
        clear hshp hsh hcode
        go_enter Tryz.func96, Tryz.ntmps96
        go_wp2_with fail
        refine Hput.out.mono ?_
        rintro e w' ⟨rfl, rfl⟩
        go_wp2_with fail
        refine Hcut.out.mono ?_
        rintro e w' ⟨rfl, rfl⟩
        go_wp2_with fail
        refine (Hshp.out _).mono ?_
        rintro e w1 ⟨rfl, hb1⟩
        go_wp2_with fail
        go_ret2
        exact ⟨status_fin2 _ 0 4 H.out, hb1⟩
      | true =>
        obtain ⟨a, b, c, h3, ht, ha, hb, hc, hcd⟩ := codeOf_shape _ hsh
        rw [hcd] at hcode
        rw [size_len] at h3
        have hshp := fun w => status_shape R w hRs
        rw [hsh] at hshp
        have Hshp := Lib.hid hshp
        have hT : (R.extract 0 3).data.toList = [a, b, c] := by rw [extract_bs, bs_data, List.drop_zero]; exact ht
        have hato := fun w => Tryz.strconv_Atoi (R.extract 0 3) (numOf a b c) (by rw [ByteArray.size_extract]; omega) (by rw [hT]; exact atoi_three a b c ha hb hc) w
        have Hato := Lib.hid hato
        obtain ⟨C, hC⟩ : ∃ C, C = numOf a b c := ⟨_, rfl⟩
        rw [← hC] at Hato hcode
        have hCb : 0 ≤ C ∧ C ≤ 999 := by
          obtain ⟨a1, a2⟩ := digit_bd a ha
          obtain ⟨b1, b2⟩ := digit_bd b hb
          obtain ⟨c1, c2⟩ := digit_bd c hc
          rw [hC]; unfold numOf; omega
        obtain ⟨hC0, hC9⟩ := hCb
        clear hshp hsh hcd ht ha hb hc hT hato hC
        by_cases hcl : classOf C = 0
        · rw [if_pos hcl] at hcode
          have H := Lib.hid hcode
          clear hcode
          go_enter Tryz.func96, Tryz.ntmps96
          go_wp2_with fail
          refine Hput.out.mono ?_
          rintro e w' ⟨rfl, rfl⟩
          go_wp2_with fail
          refine Hcut.out.mono ?_
          rintro e w' ⟨rfl, rfl⟩
          go_wp2_with fail
          refine (Hshp.out _).mono ?_
          rintro e w1 ⟨rfl, hb1⟩
          go_wp2_with fail
          refine (Hato.out _).mono ?_
          rintro e w2 ⟨rfl, t, rfl⟩
          go_wp2_with (go_at_call 85; refine (status_class _ _).mono ?_; rintro e w' ⟨rfl, rfl⟩)
          go_ret2
          exact ⟨status_fin2 _ 0 4 H.out, bstep hb1 (Go.Joins.below_bytesWorld _ _ _ _ (Nat.le_refl _))⟩
        · rw [if_neg hcl] at hcode
          have H := Lib.hid hcode
          have hclb : (classOf C == 0) = false := by rw [beq_eq_false_iff_ne]; exact hcl
          clear hcode hcl
          go_enter Tryz.func96, Tryz.ntmps96
          go_wp2_with fail
          refine Hput.out.mono ?_
          rintro e w' ⟨rfl, rfl⟩
          go_wp2_with fail
          refine Hcut.out.mono ?_
          rintro e w' ⟨rfl, rfl⟩
          go_wp2_with fail
          refine (Hshp.out _).mono ?_
          rintro e w1 ⟨rfl, hb1⟩
          go_wp2_with fail
          refine (Hato.out _).mono ?_
          rintro e w2 ⟨rfl, t, rfl⟩
          go_wp2_with (go_at_call 85; refine (status_class _ _).mono ?_; rintro e w' ⟨rfl, rfl⟩)
          go_ret2
          exact ⟨status_fin2 _ C 0 H.out, bstep hb1 (Go.Joins.below_bytesWorld _ _ _ _ (Nat.le_refl _))⟩
    · have hpre' : versionL.isPrefixOf s.data.toList = false := Bool.eq_false_iff.2 hpre
      have H := Lib.hid (status_version _ h4 hpre')
      obtain ⟨R, hR⟩ : ∃ R, R = bs (Lib.trimPrefix s.data.toList versionL) := ⟨_, rfl⟩
      have Hcut := Lib.hid (cut_prefix s w R false hR hpre')
      clear hR hpre hpre' h4
      go_enter Tryz.func96, Tryz.ntmps96
      go_wp2_with fail
      refine Hput.out.mono ?_
      rintro e w' ⟨rfl, rfl⟩
      go_wp2_with fail
      refine Hcut.out.mono ?_
      rintro e w' ⟨rfl, rfl⟩
      go_wp2_with fail
      go_ret2
      exact ⟨status_fin2 _ 0 13 H.out, Below.refl _ _⟩
end Go.Proofs.YtfjdppngeillcaaGreatDoor
