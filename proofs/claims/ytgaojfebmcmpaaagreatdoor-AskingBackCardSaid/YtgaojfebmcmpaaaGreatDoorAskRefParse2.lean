/- What Parse of the reference of asking returns. -/
import Derived.Test.YtgaojfebmcmpaaaGreatDoorAskRefParse
namespace Go.Proofs.YtgaojfebmcmpaaaGreatDoor
open Go.RowKit

theorem res_block {w w1 : World} {x y z u : Value} {t : TypeId} (hb : Below (w.alloc (.cells #[x, y, z, u] t)).heap.size (w.alloc (.cells #[x, y, z, u] t)) w1) : w1.heap[w.heap.size]? = some (.cells #[x, y, z, u] t (0, 0)) :=
  (hb.block _ (by simp)).trans (heap_alloc_new w _)
theorem get_rk (v : Value) (fs : List (List UInt8 × List UInt8)) (n : ByteArray) (k : List UInt8) (hk : n.data.toList = k) (w : World) (hv : HoldsF w v fs) (hlen : fs.length ≤ 1000000) :
    Calls Tryz.prog 67 #[v, .string n] w fun e w' => e = .returned (.tuple #[.string (bs (getS fs k)), .int .i64 (getE fs k)]) ∧ w' = w := by
  subst hk; exact ref_get v fs n w hv hlen
/-- the tail of a slice of texts -/
theorem HoldsS.tail {w : World} {b o c : Nat} {x : List UInt8} {xs : List (List UInt8)} (h : HoldsS w (.slice (some ⟨b, o, none⟩) (x :: xs).length c) (x :: xs)) (hc : 1 < c) : HoldsS w (.slice (some ⟨b, o + 1, none⟩) xs.length (c - 1)) xs := by
  obtain ⟨a, c', hv, hcc, hh⟩ := h
  injection hv with h1 h2 h3
  subst h1 h3
  obtain ⟨b', o', hbo, hbl, hcell⟩ := hh (by simp)
  injection hbo with hbo
  injection hbo with h4 h5
  subst h4 h5
  refine ⟨_, _, rfl, by simp at hcc; omega, fun _ => ⟨b, o + 1, rfl, hbl, fun j hj => ?_⟩⟩
  have := hcell (j + 1) (by simp; omega)
  rw [show o + 1 + j = o + (j + 1) by omega]; exact this
theorem lnE_split (ls : List (List UInt8)) : lnE ls = if firstL ls ≠ 0 then firstL ls else if fldE ls.tail ≠ 0 then fldE ls.tail else if getE (fldL ls.tail) hostK ≠ 0 then getE (fldL ls.tail) hostK else if hostB (getS (fldL ls.tail) hostK) = false then 2 else if getE (fldL ls.tail) rangeK ≠ 0 then getE (fldL ls.tail) rangeK else askedE (getS (fldL ls.tail) rangeK) := by
  unfold lnE whoE whatE
  by_cases h1 : firstL ls ≠ 0
  · rw [if_pos h1, if_pos h1]
  · rw [if_neg h1, if_neg h1]
    by_cases h2 : fldE ls.tail ≠ 0
    · rw [if_pos h2, if_pos h2]
    · rw [if_neg h2, if_neg h2]
      by_cases h3 : getE (fldL ls.tail) hostK ≠ 0
      · rw [if_pos h3, if_pos h3, if_pos h3]
      · rw [if_neg h3, if_neg h3]
        by_cases h4 : hostB (getS (fldL ls.tail) hostK) = false
        · rw [if_pos h4, if_pos h4, if_pos (by decide)]
        · rw [if_neg h4, if_neg h4, if_neg (by decide)]
set_option maxRecDepth 100000 in
set_option maxHeartbeats 3000000 in
theorem ref_aparse (s : ByteArray) (w : World) (hs : s.size ≤ 1000000) :
    Calls Tryz.prog 20 #[.string s] w fun e w' => e = .returned (askV s) ∧ Below w.heap.size w w' := by
  have HH := Lib.hid (ref_head s (w.alloc (.cells #[.string ⟨#[]⟩, .string ⟨#[]⟩, .int .i64 0, .int .i64 0] 25)) (by omega))
  obtain ⟨V, hV⟩ : ∃ V, askV s = V := ⟨_, rfl⟩
  rw [hV]
  have HV := Lib.hid hV
  have hbd := headOf_bound s
  unfold HeadPost at HH
  obtain ⟨⟨ls, n, e⟩, hh⟩ : ∃ T, headOf s = T := ⟨_, rfl⟩
  rw [hh] at HH hbd
  have HHd := Lib.hid hh
  change (∀ x ∈ ls, x.length ≤ 256) ∧ ls.length ≤ 17 at hbd
  change Hid (Calls _ _ _ _ fun r w' => ∃ v, r = .returned (.tuple #[v, .int .i64 n, .int .i64 (e : Nat)]) ∧ w'.ownsRow _ 9 1 v ls.length (strs ls) ∧ _) at HH
  have HBD := Lib.hid hbd
  clear hV hbd hh
  by_cases he : e ≠ 0
  · have HVB := Lib.hid (askV_bad s e (by unfold askE; rw [HHd.out]; exact if_pos he) he)
    have tz : ((e : Int) != 0) = true := by rw [bne_iff_ne]; omega
    clear he
    go_enter Tryz.func20, Tryz.ntmps20
    go_wp2_with fail
    refine HH.out.mono ?_
    rintro e w1 ⟨v, rfl, -, hb1⟩
    have HB1 := Lib.hid hb1
    obtain ⟨⟨d0, d1, d2, d3⟩, ⟨g0, g1, g2, g3⟩⟩ := four_of (res_block hb1)
    clear hb1
    go_wp2_with fail
    refine ret_cell3 (A := ⟨w.heap.size, 0, none⟩) rfl (load_rreq _ _ _ _ _ _ _ (four_set (res_block HB1.out) _ _ _ _)) rfl rfl rfl rfl ?_
    exact ⟨by rw [← HV.out, HVB.out]; rfl, four_below (bstep (below_agg4 w _ _ _ _ _) HB1.out) _ (Nat.le_refl _) _ _ _ _⟩
  have he0 : e = 0 := by omega
  subst he0
  have HL : Hid (askE s = lnE ls) := Lib.hid (by unfold askE; rw [HHd.out]; rfl)
  cases ls with
  | nil =>
    have HVB := Lib.hid (askV_bad s 4 (by rw [HL.out]; rfl) (by decide))
    clear he
    go_enter Tryz.func20, Tryz.ntmps20
    go_wp2_with fail
    refine HH.out.mono ?_
    rintro e w1 ⟨v, rfl, hown, hb1⟩
    obtain ⟨av, cv, rfl⟩ := slice_of_own hown
    have HB1 := Lib.hid hb1
    obtain ⟨⟨d0, d1, d2, d3⟩, ⟨g0, g1, g2, g3⟩⟩ := four_of (res_block hb1)
    clear hb1 hown
    go_wp2_with fail
    refine ret_cell3 (A := ⟨w.heap.size, 0, none⟩) rfl (load_rreq _ _ _ _ _ _ _ (four_set (res_block HB1.out) _ _ _ _)) rfl rfl rfl rfl ?_
    exact ⟨by rw [← HV.out, HVB.out]; rfl, four_below (bstep (below_agg4 w _ _ _ _ _) HB1.out) _ (Nat.le_refl _) _ _ _ _⟩
  | cons x xs =>
    have hxl : x.length ≤ 256 := HBD.out.1 x (List.mem_cons_self ..)
    have HF : Hid (firstL (x :: xs) = firstW (words x) ∧ wordL (x :: xs) = (words x).getD 1 []) := Lib.hid ⟨by unfold firstL; rw [if_neg (by simp)]; rfl, rfl⟩
    have HW := Lib.hid (fun w => ref_words (bs x) w (by rw [bs_size]; omega))
    rw [bs_data] at HW
    have hwl := words_len x
    obtain ⟨ws, hws⟩ : ∃ ws, words x = ws := ⟨_, rfl⟩
    rw [hws] at HF HW hwl
    have HWL := Lib.hid hwl
    have HXS : Hid (∀ y ∈ xs, y.length ≤ 256) := Lib.hid (fun y hy => HBD.out.1 y (List.mem_cons_of_mem _ hy))
    have hxn : xs.length ≤ 16 := by have := HBD.out.2; simp at this; omega
    clear hwl he hws
    go_enter Tryz.func20, Tryz.ntmps20
    go_wp2_with fail
    refine HH.out.mono ?_
    rintro e w1 ⟨v, rfl, hown, hb1⟩
    have hS := HoldsS.of_own hown
    obtain ⟨av, cv, hv, hcv, hhv⟩ := hS
    subst hv
    obtain ⟨B, o, rfl, hBl, hcell⟩ := hhv (by simp)
    have c0 := hcell 0 (by simp)
    rw [Nat.add_zero] at c0
    change w1.cell? ⟨B, o, none⟩ = some (.string (bs x)) at c0
    have HS : Hid (HoldsS w1 (.slice (some ⟨B, o, none⟩) (x :: xs).length cv) (x :: xs)) := Lib.hid (HoldsS.of_own hown)
    have HB1 := Lib.hid hb1
    have hll : ((x :: xs).length : Nat) = xs.length + 1 := rfl
    rw [hll] at hcv ⊢
    clear hb1 hown hcell hhv hll
    go_wp2_with fail
    refine (HW.out _).mono ?_
    rintro e w2 ⟨v2, rfl, hown2, hb2⟩
    obtain ⟨a2, cv2, rfl⟩ := slice_of_own hown2
    have HS2 := Lib.hid (HoldsS.of_own hown2)
    have HST := Lib.hid (HS.out.below hb2)
    have HB2 := Lib.hid (bstep HB1.out hb2)
    clear hb2 hown2 c0
    go_wp2_with fail
    refine (ref_first _ _ ws HS2.out (fun y hy => by have := HWL.out y hy; omega)).mono ?_
    rintro e w2 ⟨rfl, rfl⟩
    by_cases h1 : firstW ws = 0
    case neg =>
      have HVB := Lib.hid (askV_bad s (firstW ws) (by rw [HL.out, lnE_split, HF.out.1, if_pos h1]) h1)
      have tz : ((firstW ws : Int) != 0) = true := by rw [bne_iff_ne]; omega
      obtain ⟨⟨d0, d1, d2, d3⟩, ⟨g0, g1, g2, g3⟩⟩ := four_of (res_block HB2.out)
      clear h1
      go_wp2_with fail
      refine ret_cell3 (A := ⟨w.heap.size, 0, none⟩) rfl (load_rreq _ _ _ _ _ _ _ (four_set (res_block HB2.out) _ _ _ _)) rfl rfl rfl rfl ?_
      exact ⟨by rw [← HV.out, HVB.out]; rfl, four_below (bstep (below_agg4 w _ _ _ _ _) HB2.out) _ (Nat.le_refl _) _ _ _ _⟩
    have H1 : Hid (firstL (x :: xs) = 0) := Lib.hid (HF.out.1.trans h1)
    have hw3 : Hid (ws.length = 3) := Lib.hid (by
      unfold firstW at h1
      split at h1
      · exact absurd h1 (by decide)
      · rename_i hn; exact Classical.not_not.1 hn)
    rw [h1]
    clear h1
    by_cases hx0 : xs = []
    · subst hx0
      have HVB := Lib.hid (askV_bad s 6 (by rw [HL.out, lnE_split, if_neg (fun h => h H1.out)]; rfl) (by decide))
      have HFE : Hid (∀ a c w, Calls Tryz.prog 66 #[.slice a 0 c] w (FieldsPost [] w)) := Lib.hid (fun a c w => ref_fields w (.slice a 0 c) [] (HoldsS.empty w a c) (by decide) (fun x h => by simp at h))
      by_cases hc : cv = 1
      all_goals
        go_wp2_with fail
        refine (HFE.out _ _ _).mono ?_
        rintro e w3 ⟨v3, rfl, ⟨a3, n3, c3, rfl⟩, hf3, hb3⟩
        have HF3 := Lib.hid (hf3 rfl)
        have HB3 := Lib.hid (bstep HB2.out hb3)
        clear hf3 hb3
        go_wp2_with fail
        refine (get_rk _ _ ⟨#[104, 111, 115, 116]⟩ hostK rfl _ HF3.out (by decide)).mono ?_
        rintro e w3 ⟨rfl, rfl⟩
        obtain ⟨⟨d0, d1, d2, d3⟩, ⟨g0, g1, g2, g3⟩⟩ := four_of (res_block HB3.out)
        rw [show getE (fldL []) hostK = 6 from rfl]
        go_wp2_with fail
        refine ret_cell3 (A := ⟨w.heap.size, 0, none⟩) rfl (load_rreq _ _ _ _ _ _ _ (four_set (res_block HB3.out) _ _ _ _)) rfl rfl rfl rfl ?_
        exact ⟨by rw [← HV.out, HVB.out]; rfl, four_below (bstep (below_agg4 w _ _ _ _ _) HB3.out) _ (Nat.le_refl _) _ _ _ _⟩
    · have hyp : 0 < xs.length := List.length_pos_iff.2 hx0
      have hc : 1 < cv := by omega
      have HT : Hid (HoldsS w2 (.slice (some ⟨B, o + 1, none⟩) xs.length (cv - 1)) xs) := Lib.hid (HST.out.tail hc)
      have HFE := Lib.hid (ref_fields w2 _ xs HT.out (by omega) (fun y hy => by have := HXS.out y hy; omega))
      obtain ⟨fs, hfs⟩ : ∃ fs, fldL xs = fs := ⟨_, rfl⟩
      have hfl : fs.length ≤ 17 := by rw [← hfs]; unfold fldL; rw [List.length_map]; omega
      have hgl : (getS fs rangeK).length ≤ 256 := by rw [← hfs]; exact getS_len xs rangeK HXS.out
      have hgh : (getS fs hostK).length ≤ 256 := by rw [← hfs]; exact getS_len xs hostK HXS.out
      have HLN : Hid (lnE (x :: xs) = if fldE xs ≠ 0 then fldE xs else if getE fs hostK ≠ 0 then getE fs hostK else if hostB (getS fs hostK) = false then 2 else if getE fs rangeK ≠ 0 then getE fs rangeK else askedE (getS fs rangeK)) := Lib.hid (by rw [lnE_split, if_neg (fun h => h H1.out), List.tail_cons, hfs])
      have HFS := Lib.hid hfs
      clear hfs hx0
      go_wp2_with fail
      refine HFE.out.mono ?_
      rintro e w3 ⟨v3, rfl, ⟨a3, n3, c3, rfl⟩, hf3, hb3⟩
      have HF3' := Lib.hid hf3
      have HB3 := Lib.hid (bstep HB2.out hb3)
      have HS3 := Lib.hid (HS2.out.below hb3)
      clear hf3 hb3
      by_cases h2 : fldE xs = 0
      case neg =>
        have HVB := Lib.hid (askV_bad s (fldE xs) (by rw [HL.out, HLN.out, if_pos h2]) h2)
        have tz : ((fldE xs : Int) != 0) = true := by rw [bne_iff_ne]; omega
        obtain ⟨⟨d0, d1, d2, d3⟩, ⟨g0, g1, g2, g3⟩⟩ := four_of (res_block HB3.out)
        clear h2
        go_wp2_with fail
        refine ret_cell3 (A := ⟨w.heap.size, 0, none⟩) rfl (load_rreq _ _ _ _ _ _ _ (four_set (res_block HB3.out) _ _ _ _)) rfl rfl rfl rfl ?_
        exact ⟨by rw [← HV.out, HVB.out]; rfl, four_below (bstep (below_agg4 w _ _ _ _ _) HB3.out) _ (Nat.le_refl _) _ _ _ _⟩
      have HF3 : Hid (HoldsF w3 (.slice a3 c3 n3) fs) := Lib.hid (by rw [← HFS.out]; exact HF3'.out h2)
      have H2 := Lib.hid h2
      rw [h2]
      clear h2 HF3'
      go_wp2_with fail
      refine (get_rk _ fs ⟨#[104, 111, 115, 116]⟩ hostK rfl _ HF3.out (by omega)).mono ?_
      rintro e w3 ⟨rfl, rfl⟩
      by_cases h3 : getE fs hostK = 0
      case neg =>
        have HVB := Lib.hid (askV_bad s (getE fs hostK) (by rw [HL.out, HLN.out, if_neg (fun h => h H2.out), if_pos h3]) h3)
        have tz : ((getE fs hostK : Int) != 0) = true := by rw [bne_iff_ne]; omega
        obtain ⟨⟨d0, d1, d2, d3⟩, ⟨g0, g1, g2, g3⟩⟩ := four_of (res_block HB3.out)
        clear h3
        go_wp2_with fail
        refine ret_cell3 (A := ⟨w.heap.size, 0, none⟩) rfl (load_rreq _ _ _ _ _ _ _ (four_set (res_block HB3.out) _ _ _ _)) rfl rfl rfl rfl ?_
        exact ⟨by rw [← HV.out, HVB.out]; rfl, four_below (bstep (below_agg4 w _ _ _ _ _) HB3.out) _ (Nat.le_refl _) _ _ _ _⟩
      have H3 := Lib.hid h3
      rw [h3]
      clear h3
      go_wp2_with fail
      refine (ref_host _ _ (by rw [bs_size]; omega)).mono ?_
      rintro e w3 ⟨rfl, rfl⟩
      rw [bs_data]
      cases h4 : hostB (getS fs hostK) with
      | false =>
        have HVB := Lib.hid (askV_bad s 2 (by rw [HL.out, HLN.out, if_neg (fun h => h H2.out), if_neg (fun h => h H3.out), if_pos h4]) (by decide))
        obtain ⟨⟨d0, d1, d2, d3⟩, ⟨g0, g1, g2, g3⟩⟩ := four_of (res_block HB3.out)
        clear h4
        go_wp2_with fail
        refine ret_cell3 (A := ⟨w.heap.size, 0, none⟩) rfl (load_rreq _ _ _ _ _ _ _ (four_set (res_block HB3.out) _ _ _ _)) rfl rfl rfl rfl ?_
        exact ⟨by rw [← HV.out, HVB.out]; rfl, four_below (bstep (below_agg4 w _ _ _ _ _) HB3.out) _ (Nat.le_refl _) _ _ _ _⟩
      | true =>
        have H4 := Lib.hid h4
        clear h4
        go_wp2_with fail
        refine (get_rk _ fs ⟨#[114, 97, 110, 103, 101]⟩ rangeK rfl _ HF3.out (by omega)).mono ?_
        rintro e w3 ⟨rfl, rfl⟩
        by_cases h5 : getE fs rangeK = 0
        case neg =>
          have HVB := Lib.hid (askV_bad s (getE fs rangeK) (by rw [HL.out, HLN.out, if_neg (fun h => h H2.out), if_neg (fun h => h H3.out), if_neg (by rw [H4.out]; decide), if_pos h5]) h5)
          have tz : ((getE fs rangeK : Int) != 0) = true := by rw [bne_iff_ne]; omega
          obtain ⟨⟨d0, d1, d2, d3⟩, ⟨g0, g1, g2, g3⟩⟩ := four_of (res_block HB3.out)
          clear h5
          go_wp2_with fail
          refine ret_cell3 (A := ⟨w.heap.size, 0, none⟩) rfl (load_rreq _ _ _ _ _ _ _ (four_set (res_block HB3.out) _ _ _ _)) rfl rfl rfl rfl ?_
          exact ⟨by rw [← HV.out, HVB.out]; rfl, four_below (bstep (below_agg4 w _ _ _ _ _) HB3.out) _ (Nat.le_refl _) _ _ _ _⟩
        have H5 := Lib.hid h5
        rw [h5]
        clear h5
        go_wp2_with fail
        refine (ref_asked (bs (getS fs rangeK)) _ (by rw [bs_size]; omega)).mono ?_
        rintro e w4 ⟨rfl, hb4⟩
        rw [bs_data]
        have HB4 := Lib.hid (bstep HB3.out hb4)
        have HS4 := Lib.hid (HS3.out.below hb4)
        obtain ⟨⟨d0, d1, d2, d3⟩, ⟨g0, g1, g2, g3⟩⟩ := four_of (res_block HB4.out)
        clear hb4
        have HLL : Hid (lnE (x :: xs) = askedE (getS fs rangeK)) := Lib.hid (by rw [HLN.out, if_neg (fun h => h H2.out), if_neg (fun h => h H3.out), if_neg (by rw [H4.out]; decide), if_neg (fun h => h H5.out)])
        by_cases h6 : askedE (getS fs rangeK) = 0
        case neg =>
          have HVB := Lib.hid (askV_bad s (askedE (getS fs rangeK)) (by rw [HL.out, HLL.out]) h6)
          have tz : ((askedE (getS fs rangeK) : Int) != 0) = true := by rw [bne_iff_ne]; omega
          have HB5 := Lib.hid (bstep HB4.out (below_agg2 w4 (.int .i64 (askedA (getS fs rangeK))) (.int .i64 (askedB (getS fs rangeK))) 23))
          obtain ⟨⟨d0, d1, d2, d3⟩, ⟨g0, g1, g2, g3⟩⟩ := four_of (res_block HB5.out)
          clear h6
          go_wp2_with fail
          refine ret_cell3 (A := ⟨w.heap.size, 0, none⟩) rfl (load_rreq _ _ _ _ _ _ _ (four_set (res_block HB5.out) _ _ _ _)) rfl rfl rfl rfl ?_
          exact ⟨by rw [← HV.out, HVB.out]; rfl, four_below (bstep (below_agg4 w _ _ _ _ _) HB5.out) _ (Nat.le_refl _) _ _ _ _⟩
        have HVG := Lib.hid (askV_good s (x :: xs) n HHd.out (HLL.out.trans h6))
        rw [h6]
        clear h6
        obtain ⟨a6, c6, hv6, hc6, hh6⟩ := HS4.out
        injection hv6 with i1 i2 i3
        subst i1 i3
        obtain ⟨B6, o6, i4, hB6, hcell6⟩ := hh6 (by intro e; have := hw3.out; rw [e] at this; simp at this)
        subst i4
        have j1 := hcell6 1 (by rw [hw3.out]; decide)
        have hl3 : ws.length = 3 := hw3.out
        obtain ⟨Y, hY⟩ : ∃ Y, ws[1]'(by omega) = Y := ⟨_, rfl⟩
        rw [hY] at j1
        have HY : Hid (wordL (x :: xs) = Y) := Lib.hid (by rw [HF.out.2, List.getD_eq_getElem?_getD, List.getElem?_eq_getElem (by omega), hY]; rfl)
        clear hcell6 hh6 hY
        go_wp2_with fail
        have HB5 := Lib.hid (bstep HB4.out (below_agg2 w4 (.int .i64 (askedA (getS fs rangeK))) (.int .i64 (askedB (getS fs rangeK))) 23))
        obtain ⟨n0, n1⟩ := box2 w4 (.int .i64 (askedA (getS fs rangeK))) (.int .i64 (askedB (getS fs rangeK))) 23
        have j5 := ((below_agg2 w4 (.int .i64 (askedA (getS fs rangeK))) (.int .i64 (askedB (getS fs rangeK))) 23).cell (p := ⟨B6, o6 + 1, none⟩) hB6).trans j1
        generalize w4.alloc (.cells #[.int .i64 (askedA (getS fs rangeK)), .int .i64 (askedB (getS fs rangeK))] 23) = w5 at HB5 n0 n1 j5 ⊢
        obtain ⟨⟨d0, d1, d2, d3⟩, ⟨g0, g1, g2, g3⟩⟩ := four_of (res_block HB5.out)
        have hrb0 := res_block HB5.out
        have HRB : Hid (w5.drew.heap[w.heap.size]? = some (.cells #[.string ⟨#[]⟩, .string ⟨#[]⟩, .int .i64 0, .int .i64 0] 25 (0, 0))) := Lib.hid (by exact hrb0)
        clear j1 hrb0
        go_region
        all_goals go_wp2_with fail
        all_goals
          refine ret_cell3 (A := ⟨w.heap.size, 0, none⟩) rfl (load_rreq _ _ _ _ _ _ _ (four_set (w := w5.drew) HRB.out _ _ _ _)) rfl rfl rfl rfl ?_
          exact ⟨by rw [← HV.out, HVG.out, HY.out, List.tail_cons, HFS.out]; rfl, four_below ((bstep (below_agg4 w _ _ _ _ _) HB5.out).drew) _ (Nat.le_refl _) _ _ _ _⟩
end Go.Proofs.YtgaojfebmcmpaaaGreatDoor
