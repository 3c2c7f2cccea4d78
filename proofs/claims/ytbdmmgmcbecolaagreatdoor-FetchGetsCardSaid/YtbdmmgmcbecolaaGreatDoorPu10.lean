/- What Parse of the reference of reply returns. What the laws' Own and Back make of replies. What each kind of fault does: keep, shut, cut, code, garble, place. -/
import Derived.Test.YtbdmmgmcbecolaaGreatDoorPu9
import Derived.Deep.RegionHeld3
set_option linter.unusedVariables false
set_option linter.unusedSimpArgs false
namespace Go.Proofs.YtbdmmgmcbecolaaGreatDoor
open Go.RowKit
theorem load_rrep (w : World) (b : Nat) (t : TypeId) (x y z : Value) (h : w.heap[b]? = some (.cells #[x, y, z] t (0, 0))) : (loadVar 79 ⟨b, 0, none⟩).run Tryz.prog w = .ok (.agg #[x, y, z]) w :=
  run_loadVar_row w b t 79 #[x, y, z] (0, 0) _ h Tryz.underlying79 rfl (by kernel_rfl)
/-- the block of a reply of the document's -/
def RqB (w : World) (R : Nat) (c f b : Value) : Prop := w.heap[R]? = some (.cells #[c, f, b] 79 (0, 0))
theorem RqB.below {w w' : World} {R : Nat} {c f b : Value} (k : RqB w R c f b) (hb : Below w.heap.size w w') : RqB w' R c f b :=
  (hb.block R (Array.getElem?_eq_some_iff.1 k).1).trans k
theorem RqB.lt {w : World} {R : Nat} {c f b : Value} (k : RqB w R c f b) : R < w.heap.size := (Array.getElem?_eq_some_iff.1 k).1
theorem RqB.set1 {w : World} {R : Nat} {c f b : Value} (k : RqB w R c f b) (v : Value) : RqB (w.setCell ⟨R, 1, none⟩ v) R c v b := by
  unfold RqB at k ⊢; simp [World.setCell, Array.getElem?_modify, k]
theorem step_appG {ops : Array Oper} {o : Oper} {a : Act} {K : Act → World → Prop} {Q : Exit → Act → World → Prop} {E : Prop} (W : World) (hgd : o.guard = none) (s x : Operand)
    (ho : o.op = .call { callee := .builtin .append, args := #[s, x], argTypes := #[77, 77] })
    (base : Nat) (v : Value) (fs : List (List UInt8 × List UInt8)) (hs : a.eval s = v) (hown : W.ownsRow base 139 2 v fs.length (fcells fs))
    (B : Nat) (f : List UInt8 × List UInt8) (hB : W.heap[B]? = some (.cells #[.string (bs f.1), .string (bs f.2)] 139 (0, 0))) (hx : a.eval x = .slice (some ⟨B, 0, none⟩) 1 1) (hn : fs.length < 2147483648) (hbase : base ≤ W.heap.size)
    (h : ∀ g cap w', w'.ownsRow base 139 2 (.slice (some ⟨g, 0, none⟩) (fs.length + 1) cap) (fs ++ [f]).length (fcells (fs ++ [f])) → W.grownBy w' v.ownBlock → K (a.put o.dst (.slice (some ⟨g, 0, none⟩) (fs.length + 1) cap)) w') :
    if Region.wanted o (yielded ops a.tmps) = true then Oper.wp Tryz.prog o a W K Q else E := by
  obtain ⟨i0, hi, hz0, hz1, hz2⟩ := info_parts info_rfield
  refine step_append_lies W hgd s x 77 ho base 139 i0 _ 2 32 Tryz.underlying77 hi hz0 hz1 hz2 rfl (by decide) v fs.length (fcells fs) hs hown ⟨B, 0, none⟩ 1 1 [.string (bs f.1), .string (bs f.2)] hx rfl (World.news_of_block hB) (by simp [Value.oneCell']) (by decide) (by unfold maxLen; omega) (by omega) hbase _ rfl ?_
  intro g cap w' h1 h2 _ _
  refine h g cap w' ?_ h2
  rw [List.length_append, fcells_append]; exact h1
def AfterAppQ (R : Nat) (W w' : World) (c v b : Value) : Prop := RqB w' R c v b ∧ W.grownBy w' (some R)
theorem step_appQ {ops : Array Oper} {o : Oper} {a : Act} {K : Act → World → Prop} {Q : Exit → Act → World → Prop} {E : Prop} {R base : Nat} (w0 : World) (hw0 : w0.heap.size = base) (hR0 : R < base) {c v b : Value} {W2 : World} {fs : List (List UInt8 × List UInt8)} (W : World) (hgd : o.guard = none) (s z : Operand)
    (ho : o.op = .call { callee := .builtin .append, args := #[s, z], argTypes := #[77, 77] })
    (hR2 : RqB W2 R c v b) (hown : W2.ownsRow base 139 2 v fs.length (fcells fs)) (hg0 : w0.grownBy W2 (some R)) (hs : a.eval s = v) (hn : fs.length < 2147483648) (hbW : Below W2.heap.size W2 W)
    (B : Nat) (f : List UInt8 × List UInt8) (hB : W.heap[B]? = some (.cells #[.string (bs f.1), .string (bs f.2)] 139 (0, 0))) (hx : a.eval z = .slice (some ⟨B, 0, none⟩) 1 1)
    (hK : ∀ g cap w', w'.ownsRow base 139 2 (.slice (some ⟨g, 0, none⟩) (fs.length + 1) cap) (fs ++ [f]).length (fcells (fs ++ [f])) → w'.cell? ⟨R, 1, none⟩ = some v → w'.frozen? ⟨R, 1, none⟩ = false → AfterAppQ R w0 w' c v b → K (a.put o.dst (.slice (some ⟨g, 0, none⟩) (fs.length + 1) cap)) w') :
    if Region.wanted o (yielded ops a.tmps) = true then Oper.wp Tryz.prog o a W K Q else E := by
  have hoW := own_keep hown hbW
  have hlt := hR2.lt
  have hsz := hbW.size
  have hs0 := hg0.size
  refine step_appG W hgd s z ho base v fs hs hoW B f hB hx hn (by omega) (fun g cap w' h1 h2 => ?_)
  have hR3 : RqB w' R c v b := (grow_block h2 hoW hR0 (by omega)).trans (hR2.below hbW)
  have hg1 := hg0.below hbW
  have hb3 : w0.grownBy w' (some R) := ⟨h2.os.trans hg1.os, h2.tape.trans hg1.tape, h2.output.trans hg1.output, Nat.le_trans hg1.size h2.size, fun k hk hne =>
    (h2.block k (Nat.lt_of_lt_of_le hk hg1.size) (fun h => by have := (hoW.lt k h.symm).1; omega)).trans (hg1.block k hk hne)⟩
  obtain ⟨-, k1, -, -, f1, -⟩ := three_facts hR3
  exact hK g cap w' h1 k1 f1 ⟨hR3, hb3⟩
def RefPost (s : ByteArray) (most : Int) (w : World) (e : Ending) (w' : World) : Prop :=
  ∃ fv, e = .returned (RepV s most fv) ∧ (∃ B, w'.ownsRow B 139 2 fv (takF s most).length (fcells (takF s most))) ∧ Below w.heap.size w w'
theorem rparse_bad (s : ByteArray) (most : Int) (e : Nat) (h : takE s most = e) (h0 : e ≠ 0) (w w' : World) (hb : Below w.heap.size w w') :
    RefPost s most w (.returned (.tuple #[.agg #[.int .i64 0, .slice none 0 0, .string ⟨#[]⟩], .int .i64 0, .int .i64 (e : Nat)])) w' := by
  obtain ⟨h1, h2, h3, h4⟩ := tak_bad s most (by rw [h]; exact h0)
  refine ⟨.slice none 0 0, ?_, ?_, hb⟩
  · unfold RepV; rw [h1, h3, h4, h]; rfl
  · rw [h2]; exact ⟨0, World.ownsRow_nil _ _ _ _⟩
theorem rparse_good (s : ByteArray) (most : Int) (h : takE s most = 0) (w w' : World) (fv : Value) (hown : ∃ B, w'.ownsRow B 139 2 fv (takF s most).length (fcells (takF s most))) (hb : Below w.heap.size w w') (C n : Int) (B : ByteArray) (h1 : takC s most = C) (h2 : takN s most = n) (h3 : bs (takB s most) = B) :
    RefPost s most w (.returned (.tuple #[.agg #[.int .i64 C, fv, .string B], .int .i64 n, .int .i64 0])) w' := by
  refine ⟨fv, ?_, hown, hb⟩
  unfold RepV; rw [h1, h2, h3, h]; rfl
theorem res3 {w w1 : World} (hb : Below (w.alloc (.cells #[.int .i64 0, .slice none 0 0, .string ⟨#[]⟩] 79)).heap.size (w.alloc (.cells #[.int .i64 0, .slice none 0 0, .string ⟨#[]⟩] 79)) w1) :
    w1.heap[w.heap.size]? = some (.cells #[.int .i64 0, .slice none 0 0, .string ⟨#[]⟩] 79 (0, 0)) := (hb.block w.heap.size (by simp)).trans (heap_alloc_new w _)
theorem restF_take (fs : List (List UInt8 × List UInt8)) (k : Nat) (hk : k < fs.length) : restF (fs.take (k + 1)) = restF (fs.take k) ++ (if fs[k].1 = clen then [] else [fs[k]]) := by
  unfold restF
  rw [List.take_succ_eq_append_getElem hk, List.filter_append]
  congr 1
  by_cases h : fs[k].1 = clen
  · rw [if_pos h, List.filter_cons_of_neg (by simp [h])]; rfl
  · rw [if_neg h, List.filter_cons_of_pos (by simp [h])]; rfl
theorem restF_len (fs : List (List UInt8 × List UInt8)) : (restF fs).length ≤ fs.length := List.length_filter_le _ _
theorem hdE_split (x : List UInt8) (xs : List (List UInt8)) : hdE (x :: xs) = if (statusOf x).2 ≠ 0 then (statusOf x).2 else if fldE xs ≠ 0 then fldE xs else if getE (fldL xs) clen ≠ 0 then getE (fldL xs) clen else numE (getS (fldL xs) clen) := by
  unfold hdE
  rw [if_neg (by simp)]; rfl
set_option maxRecDepth 100000 in
set_option maxHeartbeats 4000000 in
theorem ref_rparse (s : ByteArray) (most : Int) (w : World) (hs : s.size ≤ 1000000) :
    Calls Tryz.prog 28 #[.string s, .int .i64 most] w (RefPost s most w) := by
  have HH := Lib.hid (ref_head s (w.alloc (.cells #[.int .i64 0, .slice none 0 0, .string ⟨#[]⟩] 79)) (by omega))
  have hbd := headOf_bound s
  have hbd2 := headOf_bd s
  unfold HeadPost at HH
  obtain ⟨⟨ls, n, e⟩, hh⟩ : ∃ T, headOf s = T := ⟨_, rfl⟩
  rw [hh] at HH hbd hbd2
  have HHd := Lib.hid hh
  change (∀ x ∈ ls, x.length ≤ 256) ∧ ls.length ≤ 17 at hbd
  change e = 0 → 0 < n ∧ n ≤ (s.size : Int) at hbd2
  change Hid (Calls _ _ _ _ fun r w' => ∃ v, r = .returned (.tuple #[v, .int .i64 n, .int .i64 (e : Nat)]) ∧ w'.ownsRow _ 9 1 v ls.length (strs ls) ∧ _) at HH
  have HBD := Lib.hid hbd
  have HB0 := Lib.hid (below_r3 w (.int .i64 0) (.slice none 0 0) (.string ⟨#[]⟩))
  clear hbd hh
  by_cases he : e = 0
  case neg =>
    have HV : Hid (takE s most = e ∧ e ≠ 0) := Lib.hid ⟨by unfold takE; rw [HHd.out]; exact if_pos he, he⟩
    have tz : ((e : Int) != 0) = true := by rw [bne_iff_ne]; omega
    clear he hbd2
    go_enter Tryz.func28, Tryz.ntmps28
    go_wp2_with fail
    refine HH.out.mono ?_
    rintro r w1 ⟨v, rfl, -, hb1⟩
    have HB1 := Lib.hid hb1
    obtain ⟨d0, d1, d2, g0, g1, g2⟩ := three_facts (res3 hb1)
    clear hb1
    go_wp2_with fail
    refine ret_cell3 (A := ⟨w.heap.size, 0, none⟩) rfl (load_rrep _ _ _ _ _ _ (three_set (res3 HB1.out) _ _ _)) rfl rfl rfl rfl ?_
    exact rparse_bad s most e HV.out.1 HV.out.2 w _ (three_below (bstep HB0.out HB1.out) _ (Nat.le_refl _) _ _ _)
  subst he
  obtain ⟨n1, n2⟩ := hbd2 rfl
  obtain ⟨nx, rfl⟩ : ∃ nx : Nat, n = nx := ⟨n.toNat, by omega⟩
  have hh2 : Hid (∀ q, takE s most = q ↔ (if hdE ls ≠ 0 then hdE ls else if most < (hdN ls : Int) then 5 else if (s.size : Int) - nx < (hdN ls : Int) then 3 else 0) = q) := Lib.hid (fun q => by unfold takE; rw [HHd.out]; rfl)
  clear hbd2
  cases ls with
  | nil =>
    have HV : Hid (takE s most = 4) := Lib.hid ((hh2.out 4).2 rfl)
    go_enter Tryz.func28, Tryz.ntmps28
    go_wp2_with fail
    refine HH.out.mono ?_
    rintro e w1 ⟨v, rfl, hown, hb1⟩
    obtain ⟨av, cv, rfl⟩ := slice_of_own hown
    have HB1 := Lib.hid hb1
    obtain ⟨d0, d1, d2, g0, g1, g2⟩ := three_facts (res3 hb1)
    clear hb1 hown
    go_wp2_with fail
    refine ret_cell3 (A := ⟨w.heap.size, 0, none⟩) rfl (load_rrep _ _ _ _ _ _ (three_set (res3 HB1.out) _ _ _)) rfl rfl rfl rfl ?_
    exact rparse_bad s most 4 HV.out (by decide) w _ (three_below (bstep HB0.out HB1.out) _ (Nat.le_refl _) _ _ _)
  | cons x xs =>
    have hxl : x.length ≤ 256 := HBD.out.1 x (List.mem_cons_self ..)
    have HS := Lib.hid (fun w => ref_status_parse (bs x) w (by rw [bs_size]; omega))
    rw [bs_data] at HS
    have HXS : Hid (∀ y ∈ xs, y.length ≤ 256) := Lib.hid (fun y hy => HBD.out.1 y (List.mem_cons_of_mem _ hy))
    have hxn : xs.length ≤ 16 := by have := HBD.out.2; simp at this; omega
    have HSp := Lib.hid (hdE_split x xs)
    have HCN : Hid (hdC (x :: xs) = (statusOf x).1 ∧ hdN (x :: xs) = numV (getS (fldL xs) clen)) := Lib.hid ⟨rfl, rfl⟩
    obtain ⟨⟨C, e0⟩, hst⟩ : ∃ T, statusOf x = T := ⟨_, rfl⟩
    rw [hst] at HS HSp HCN
    clear hst
    go_enter Tryz.func28, Tryz.ntmps28
    go_wp2_with fail
    refine HH.out.mono ?_
    rintro e w1 ⟨v, rfl, hown, hb1⟩
    have hSS := HoldsS.of_own hown
    obtain ⟨av, cv, hv, hcv, hhv⟩ := hSS
    subst hv
    obtain ⟨B, o, rfl, hBl, hcell⟩ := hhv (by simp)
    have c0 := hcell 0 (by simp)
    rw [Nat.add_zero] at c0
    change w1.cell? ⟨B, o, none⟩ = some (.string (bs x)) at c0
    have HST : Hid (HoldsS w1 (.slice (some ⟨B, o, none⟩) (x :: xs).length cv) (x :: xs)) := Lib.hid (HoldsS.of_own hown)
    have HB1 := Lib.hid hb1
    have hll : ((x :: xs).length : Nat) = xs.length + 1 := rfl
    rw [hll] at hcv ⊢
    have tl : (((xs.length : Int) + 1) == 0) = false := by rw [beq_eq_false_iff_ne]; omega
    clear hb1 hown hcell hhv hll HH
    go_wp2_with fail
    refine (HS.out _).mono ?_
    rintro e w2 ⟨rfl, hww⟩
    obtain rfl := hww.symm
    by_cases h1 : e0 = 0
    case neg =>
      have HV : Hid (takE s most = e0 ∧ e0 ≠ 0) := Lib.hid ⟨(hh2.out e0).2 (by rw [HSp.out, if_pos h1, if_pos h1]), h1⟩
      have tz : ((e0 : Int) != 0) = true := by rw [bne_iff_ne]; omega
      obtain ⟨d0, d1, d2, g0, g1, g2⟩ := three_facts (res3 HB1.out)
      clear h1 c0
      go_wp2_with fail
      refine ret_cell3 (A := ⟨w.heap.size, 0, none⟩) rfl (load_rrep _ _ _ _ _ _ (three_set (res3 HB1.out) _ _ _)) rfl rfl rfl rfl ?_
      exact rparse_bad s most _ HV.out.1 HV.out.2 w _ (three_below (bstep HB0.out HB1.out) _ (Nat.le_refl _) _ _ _)
    subst h1
    rw [if_neg (by simp)] at HSp
    clear HS c0
    by_cases hx0 : xs = []
    · subst hx0
      have HV : Hid (takE s most = 6) := Lib.hid ((hh2.out 6).2 (by rw [HSp.out]; rfl))
      have HFE : Hid (∀ a c w, Calls Tryz.prog 55 #[.slice a 0 c] w (FieldsPost [] w)) := Lib.hid (fun a c w => ref_fields w (.slice a 0 c) [] (HoldsS.empty w a c) (by decide) (fun x h => by simp at h))
      by_cases hc : cv = 1
      all_goals
        go_wp2_with fail
        refine (HFE.out _ _ _).mono ?_
        rintro e w3 ⟨v3, rfl, ⟨a3, c3, n3, rfl⟩, hf3, hb3⟩
        have HF3 := Lib.hid (hf3 rfl)
        have HB3 := Lib.hid (bstep HB1.out hb3)
        clear hf3 hb3
        go_wp2_with fail
        refine (get_rk _ _ ⟨#[99, 111, 110, 116, 101, 110, 116, 45, 108, 101, 110, 103, 116, 104]⟩ clen rfl _ HF3.out (by decide)).mono ?_
        rintro e w3 ⟨rfl, rfl⟩
        obtain ⟨d0, d1, d2, g0, g1, g2⟩ := three_facts (res3 HB3.out)
        rw [show getE (fldL []) clen = 6 from rfl]
        go_wp2_with fail
        refine ret_cell3 (A := ⟨w.heap.size, 0, none⟩) rfl (load_rrep _ _ _ _ _ _ (three_set (res3 HB3.out) _ _ _)) rfl rfl rfl rfl ?_
        exact rparse_bad s most 6 HV.out (by decide) w _ (three_below (bstep HB0.out HB3.out) _ (Nat.le_refl _) _ _ _)
    · have hyp : 0 < xs.length := List.length_pos_iff.2 hx0
      have hc : 1 < cv := by omega
      have HT : Hid (HoldsS w1 (.slice (some ⟨B, o + 1, none⟩) xs.length (cv - 1)) xs) := Lib.hid (HST.out.tail hc)
      have HFE := Lib.hid (ref_fields w1 _ xs HT.out (by omega) (fun y hy => by have := HXS.out y hy; omega))
      obtain ⟨fs, hfs⟩ : ∃ fs, fldL xs = fs := ⟨_, rfl⟩
      have hfl : fs.length ≤ 16 := by rw [← hfs]; unfold fldL; rw [List.length_map]; omega
      have hgl : (getS fs clen).length ≤ 256 := by rw [← hfs]; exact getS_len xs clen HXS.out
      have HTL : Hid (restF (fldL (x :: xs).tail) = restF fs) := Lib.hid (by rw [List.tail_cons, hfs])
      have HFS := Lib.hid hfs
      rw [hfs] at HSp HCN
      clear hfs hx0
      go_wp2_with fail
      refine HFE.out.mono ?_
      rintro e w3 ⟨v3, rfl, ⟨a3, c3, n3, rfl⟩, hf3, hb3⟩
      have HB3 := Lib.hid (bstep HB1.out hb3)
      have HF3 := Lib.hid hf3
      clear hf3 hb3
      by_cases h2 : fldE xs = 0
      case neg =>
        have HV : Hid (takE s most = fldE xs ∧ fldE xs ≠ 0) := Lib.hid ⟨(hh2.out _).2 (by rw [HSp.out, if_pos h2, if_pos h2]), h2⟩
        have tz : ((fldE xs : Int) != 0) = true := by rw [bne_iff_ne]; omega
        obtain ⟨d0, d1, d2, g0, g1, g2⟩ := three_facts (res3 HB3.out)
        clear h2
        go_wp2_with fail
        refine ret_cell3 (A := ⟨w.heap.size, 0, none⟩) rfl (load_rrep _ _ _ _ _ _ (three_set (res3 HB3.out) _ _ _)) rfl rfl rfl rfl ?_
        exact rparse_bad s most _ HV.out.1 HV.out.2 w _ (three_below (bstep HB0.out HB3.out) _ (Nat.le_refl _) _ _ _)
      have HF : Hid (HoldsF w3 (.slice a3 n3 c3) fs) := Lib.hid (by have := HF3.out h2; rwa [HFS.out] at this)
      rw [h2, if_neg (by simp)] at HSp
      rw [h2]
      have HG := Lib.hid (get_rk _ fs ⟨#[99, 111, 110, 116, 101, 110, 116, 45, 108, 101, 110, 103, 116, 104]⟩ clen rfl _ HF.out (by omega))
      clear h2 HF3
      go_wp2_with fail
      refine HG.out.mono ?_
      rintro e w4 ⟨rfl, hww⟩
      obtain rfl := hww.symm
      by_cases h3 : getE fs clen = 0
      case neg =>
        have HV : Hid (takE s most = getE fs clen ∧ getE fs clen ≠ 0) := Lib.hid ⟨(hh2.out _).2 (by rw [HSp.out, if_pos h3, if_pos h3]), h3⟩
        have tz : ((getE fs clen : Int) != 0) = true := by rw [bne_iff_ne]; omega
        obtain ⟨d0, d1, d2, g0, g1, g2⟩ := three_facts (res3 HB3.out)
        clear h3
        go_wp2_with fail
        refine ret_cell3 (A := ⟨w.heap.size, 0, none⟩) rfl (load_rrep _ _ _ _ _ _ (three_set (res3 HB3.out) _ _ _)) rfl rfl rfl rfl ?_
        exact rparse_bad s most _ HV.out.1 HV.out.2 w _ (three_below (bstep HB0.out HB3.out) _ (Nat.le_refl _) _ _ _)
      rw [h3, if_neg (by simp)] at HSp
      rw [h3]
      have HN := Lib.hid (fun w => ref_number (bs (getS fs clen)) w (by rw [bs_size]; omega))
      rw [bs_data] at HN
      clear h3 HG
      go_wp2_with fail
      refine (HN.out _).mono ?_
      rintro e w4 ⟨rfl, hww⟩
      obtain rfl := hww.symm
      by_cases h4 : numE (getS fs clen) = 0
      case neg =>
        have HV : Hid (takE s most = numE (getS fs clen) ∧ numE (getS fs clen) ≠ 0) := Lib.hid ⟨(hh2.out _).2 (by rw [HSp.out, if_pos h4]), h4⟩
        have tz : ((numE (getS fs clen) : Int) != 0) = true := by rw [bne_iff_ne]; omega
        obtain ⟨d0, d1, d2, g0, g1, g2⟩ := three_facts (res3 HB3.out)
        clear h4
        go_wp2_with fail
        refine ret_cell3 (A := ⟨w.heap.size, 0, none⟩) rfl (load_rrep _ _ _ _ _ _ (three_set (res3 HB3.out) _ _ _)) rfl rfl rfl rfl ?_
        exact rparse_bad s most _ HV.out.1 HV.out.2 w _ (three_below (bstep HB0.out HB3.out) _ (Nat.le_refl _) _ _ _)
      have HZ : Hid (hdE (x :: xs) = 0) := Lib.hid (by rw [HSp.out]; exact h4)
      rw [h4]
      obtain ⟨N, hN⟩ : ∃ N, numV (getS fs clen) = N := ⟨_, rfl⟩
      rw [hN] at HCN ⊢
      obtain ⟨d0, d1, d2, g0, g1, g2⟩ := three_facts (res3 HB3.out)
      clear h4 hN HN HSp
      by_cases hm : most < (N : Int)
      · have HV : Hid (takE s most = 5) := Lib.hid ((hh2.out 5).2 (by rw [if_neg (by rw [HZ.out]; simp), HCN.out.2, if_pos hm]))
        have tm : decide ((N : Int) > most) = true := decide_eq_true (by omega)
        clear hm
        go_wp2_with fail
        refine ret_cell3 (A := ⟨w.heap.size, 0, none⟩) rfl (load_rrep _ _ _ _ _ _ (three_set (res3 HB3.out) _ _ _)) rfl rfl rfl rfl ?_
        exact rparse_bad s most 5 HV.out (by decide) w _ (three_below (bstep HB0.out HB3.out) _ (Nat.le_refl _) _ _ _)
      have tm : decide ((N : Int) > most) = false := decide_eq_false (by omega)
      have tw : IntKind.i64.wrap ((s.size : Int) - (nx : Int)) = (s.size : Int) - (nx : Int) := by rw [IntKind.wrap_i64]; omega
      by_cases hsh : (s.size : Int) - (nx : Int) < (N : Int)
      · have HV : Hid (takE s most = 3) := Lib.hid ((hh2.out 3).2 (by rw [if_neg (by rw [HZ.out]; simp), HCN.out.2, if_neg hm, if_pos hsh]))
        have ts : decide ((s.size : Int) - (nx : Int) < (N : Int)) = true := decide_eq_true hsh
        clear hm hsh
        go_wp2_with fail
        refine ret_cell3 (A := ⟨w.heap.size, 0, none⟩) rfl (load_rrep _ _ _ _ _ _ (three_set (res3 HB3.out) _ _ _)) rfl rfl rfl rfl ?_
        exact rparse_bad s most 3 HV.out (by decide) w _ (three_below (bstep HB0.out HB3.out) _ (Nat.le_refl _) _ _ _)
      have hz : takE s most = 0 := (hh2.out 0).2 (by rw [if_neg (by rw [HZ.out]; simp), HCN.out.2, if_neg hm, if_neg hsh])
      have HV : Hid (takE s most = 0 ∧ takC s most = C ∧ takF s most = restF fs ∧ takN s most = (nx : Int) + (N : Int) ∧ bs (takB s most) = s.extract nx (nx + N)) := Lib.hid ⟨hz, by unfold takC; rw [if_pos hz, HHd.out]; exact HCN.out.1, by unfold takF; rw [if_pos hz, HHd.out]; exact HTL.out, by unfold takN; rw [if_pos hz, HHd.out]; exact congrArg (fun q : Nat => (nx : Int) + (q : Int)) HCN.out.2, by
        unfold takB; rw [if_pos hz, HHd.out, extract_bs]
        show bs ((s.data.toList.take ((nx : Int).toNat + hdN (x :: xs))).drop (nx : Int).toNat) = _
        rw [HCN.out.2, Int.toNat_natCast]⟩
      have ts : decide ((s.size : Int) - (nx : Int) < (N : Int)) = false := decide_eq_false hsh
      have ta : IntKind.i64.wrap ((nx : Int) + (N : Int)) = (nx : Int) + (N : Int) := by rw [IntKind.wrap_i64]; omega
      have hle : nx + N ≤ s.size := by omega
      have hle2 : (nx : Int) + (N : Int) ≤ (s.size : Int) := by omega
      have hf := HF.out
      obtain ⟨aa, cc, hfe, hfc, hfx⟩ := hf
      injection hfe with q1 q2 q3
      subst q1 q2 q3
      have HX := Lib.hid hfx
      clear hm hsh hz hfx d0 d1 d2 g0 g1 g2 HT HST hBl
      go_wp2_with fail
      have hR0 : RqB (w3.alloc (.cells #[.int .i64 C, .slice none 0 0, .string (s.extract nx (nx + N))] 79)) w3.heap.size (.int .i64 C) (.slice none 0 0) (.string (s.extract nx (nx + N))) := heap_alloc_new w3 _
      have hW0 : (w3.alloc (.cells #[.int .i64 C, .slice none 0 0, .string (s.extract nx (nx + N))] 79)).heap.size = w3.heap.size + 1 := by simp
      have hA0 := (Below.refl w3.heap.size w3).alloc (Nat.le_refl _) (.cells #[.int .i64 C, .slice none 0 0, .string (s.extract nx (nx + N))] 79)
      generalize w3.alloc (.cells #[.int .i64 C, .slice none 0 0, .string (s.extract nx (nx + N))] 79) = W0 at hR0 hW0 hA0 ⊢
      obtain ⟨BD, hBD⟩ : ∃ BD, s.extract nx (nx + N) = BD := ⟨_, rfl⟩
      rw [hBD] at hR0 HV
      have hsz3 : w.heap.size < w3.heap.size := by have := HB3.out.size; simp at this; omega
      obtain ⟨R, hRe⟩ : ∃ R, w3.heap.size = R := ⟨_, rfl⟩
      rw [hRe] at hR0 hW0 hsz3
      have HW0 := Lib.hid (And.intro hR0 (And.intro hW0 hA0))
      have HRE := Lib.hid hRe
      rw [hRe]
      clear hR0 hA0 hBD hRe
      have hR0l : R < W0.heap.size := by omega
      have HW0s := Lib.hid hW0
      clear hW0
      go_loopg [15] fs.length (fun gk s15 wr => ∃ (k : Nat) (fv : Value), s15 = .int .i64 (k : Int) ∧ k + gk = fs.length ∧ Hid (RqB wr R (.int .i64 C) fv (.string BD)) ∧ Hid (wr.ownsRow W0.heap.size 139 2 fv (restF (fs.take k)).length (fcells (restF (fs.take k)))) ∧ Hid (W0.grownBy wr (some R)))
      case atStart => exact ⟨0, _, by simp, by omega, Lib.hid HW0.out.1, Lib.hid (by rw [List.take_zero]; exact World.ownsRow_nil _ _ _ _), Lib.hid (GR.refl _ _)⟩
      case round =>
        obtain ⟨k, fv, rfl, hgk, HRr, HOr, HGr⟩ := hrel
        obtain ⟨avv, cvv, rfl⟩ := own_fslice HOr.out
        have hRl := HRr.out.lt
        obtain ⟨r0, r1, r2, -, f1, -⟩ := three_facts HRr.out
        by_cases hk : k < fs.length
        · obtain ⟨g', rfl⟩ : ∃ g', gk = g' + 1 := ⟨gk - 1, by omega⟩
          have hkI : decide ((k : Int) < (fs.length : Int)) = true := decide_eq_true (by omega)
          have hkI2 : (k : Int) < (fs.length : Int) := by omega
          obtain ⟨bb, o', rfl, hbl, hcell⟩ := HX.out (fun e => by rw [e] at hk; exact absurd hk (Nat.not_lt_zero _))
          have HBR : Hid (Below R W0 wr) := Lib.hid (HGr.out.toBelow (Nat.le_of_lt hR0l))
          have hbR : bb < R := by have := HRE.out; omega
          have c0 := (HBR.out.cell (p := ⟨bb, o' + k * 2, none⟩) hbR).trans ((HW0.out.2.2.cell (p := ⟨bb, o' + k * 2, none⟩) hbl).trans (hcell k hk).1)
          have c1 := (HBR.out.cell (p := ⟨bb, o' + k * 2 + 1, none⟩) hbR).trans ((HW0.out.2.2.cell (p := ⟨bb, o' + k * 2 + 1, none⟩) hbl).trans (hcell k hk).2)
          have HTk := Lib.hid (restF_take fs k hk)
          obtain ⟨y, hy⟩ : ∃ y, fs[k] = y := ⟨_, rfl⟩
          rw [hy] at c0 c1 HTk
          have hcmp := bs_lit y.1 [99, 111, 110, 116, 101, 110, 116, 45, 108, 101, 110, 103, 116, 104]
          have hkl : Hid ((restF (fs.take k)).length < 2147483648) := Lib.hid (by have := restF_len (fs.take k); rw [List.length_take] at this; omega)
          obtain ⟨rk, hrk⟩ : ∃ rk, restF (fs.take k) = rk := ⟨_, rfl⟩
          rw [hrk] at HOr HTk hkl HRr r1
          clear hcell hy hrk
          by_cases hnm : y.1 = clen
          · have HTS : Hid (restF (fs.take (k + 1)) = rk) := Lib.hid (by rw [HTk.out, if_pos hnm, List.append_nil])
            rw [decide_eq_true (show y.1 = [99, 111, 110, 116, 101, 110, 116, 45, 108, 101, 110, 103, 116, 104] from hnm)] at hcmp
            have hcmp2 : ((bs y.1).toList != [99, 111, 110, 116, 101, 110, 116, 45, 108, 101, 110, 103, 116, 104]) = false := by unfold bne; rw [hcmp]; rfl
            clear hnm
            go_wp2_with fail
            go_roundg g'
            case measure => omega
            case rel => exact ⟨k + 1, _, by simp, by omega, HRr, by rw [HTS.out]; exact HOr, HGr⟩
          · have HTS : Hid (restF (fs.take (k + 1)) = rk ++ [y]) := Lib.hid (by rw [HTk.out, if_neg hnm])
            rw [decide_eq_false (show ¬ y.1 = [99, 111, 110, 116, 101, 110, 116, 45, 108, 101, 110, 103, 116, 104] from hnm)] at hcmp
            have hcmp2 : ((bs y.1).toList != [99, 111, 110, 116, 101, 110, 116, 45, 108, 101, 110, 103, 116, 104]) = true := by unfold bne; rw [hcmp]; rfl
            clear hnm
            go_wp2_with fail
            go_region_law (refine step_appQ W0 rfl hR0l _ rfl _ _ rfl HRr.out HOr.out HGr.out rfl hkl.out ?_ wr.heap.size y ?_ rfl ?_; exact ((Below.refl _ _).alloc (Nat.le_refl _) _).drew; exact heap_alloc_new wr _; intro g cap w4 hown4 hc4 hf4 haf)
            all_goals
              go_wp2_with fail
              go_roundg g'
              case measure => omega
              case rel =>
                refine ⟨k + 1, _, by simp, by omega, Lib.hid (haf.1.set1 _), Lib.hid ?_, Lib.hid (haf.2.set 1 _)⟩
                rw [HTS.out]; exact ownsRow_setCell_below hown4 (a := ⟨R, 1, none⟩) hR0l _
        · obtain rfl : k = fs.length := by omega
          have hkI : decide ((fs.length : Int) < (fs.length : Int)) = false := decide_eq_false (by omega)
          have HBR : Hid (Below R W0 wr) := Lib.hid (HGr.out.toBelow (Nat.le_of_lt hR0l))
          have HBW : Hid (Below w3.heap.size w3 wr) := Lib.hid (by have h1 := HW0.out.2.2; have h2 := HBR.out; rw [← HRE.out] at h2; exact h1.trans h2)
          have HRES : Hid (wr.heap[w.heap.size]? = some (.cells #[.int .i64 0, .slice none 0 0, .string ⟨#[]⟩] 79 (0, 0))) := Lib.hid (by
            have hl : w.heap.size < w3.heap.size := by rw [HRE.out]; exact hsz3
            exact (HBW.out.block w.heap.size hl).trans (res3 HB3.out))
          obtain ⟨d0, d1, d2, g0, g1, g2⟩ := three_facts HRES.out
          have hFl : Hid ((restF (fs.take fs.length)) = restF fs) := Lib.hid (by rw [List.take_length])
          rw [hFl.out] at HOr HRr r1
          obtain ⟨rk, hrk⟩ : ∃ rk, restF fs = rk := ⟨_, rfl⟩
          rw [hrk] at HOr HRr r1 HV
          clear hrk hFl
          go_wp2_with fail
          refine ret_cell3 (A := ⟨w.heap.size, 0, none⟩) rfl (load_rrep _ _ _ _ _ _ (three_set HRES.out _ _ _)) rfl rfl rfl rfl ?_
          refine rparse_good s most HV.out.1 w _ _ ?_ (three_below (bstep HB0.out (HB3.out.trans (HBW.out.mono HB3.out.size))) _ (Nat.le_refl _) _ _ _) _ _ _ HV.out.2.1 HV.out.2.2.2.1 HV.out.2.2.2.2
          rw [HV.out.2.2.1]
          have hl : w.heap.size < W0.heap.size := by omega
          exact ⟨_, (ownsRow_setCell_below (ownsRow_setCell_below (ownsRow_setCell_below HOr.out (a := ⟨w.heap.size, 0, none⟩) hl _) (a := ⟨w.heap.size, 1, none⟩) hl _) (a := ⟨w.heap.size, 2, none⟩) hl _)⟩
end Go.Proofs.YtbdmmgmcbecolaaGreatDoor
namespace Go.Proofs.YtbdmmgmcbecolaaGreatDoor
open Go.RowKit
end Go.Proofs.YtbdmmgmcbecolaaGreatDoor
namespace Go.Proofs.YtbdmmgmcbecolaaGreatDoor
open Go.RowKit
theorem EnvW.env {w : World} (h : EnvW w) : Env w := ⟨h.m, h.pow, h.big⟩
theorem bs_take (s : ByteArray) (m : Nat) : s.extract 0 m = bs (s.data.toList.take m) := by rw [extract_bs, List.drop_zero]
set_option maxRecDepth 100000 in
theorem fault_keep (k n : Int) (t s : ByteArray) (v : Value) (w : World) :
    Calls Tryz.prog 127 #[.agg #[.int .u8 k, .int .i64 n, .string t], .string s, v] w fun e w' => e = .returned (.string s) ∧ Below w.heap.size w w' := by
  have HB := Lib.hid (below_agg3 w (.int .u8 k) (.int .i64 n) (.string t) 65)
  go_enter Tryz.func127, Tryz.ntmps127
  go_wp2_with fail
  go_ret
  exact ⟨rfl, HB.out⟩
set_option maxRecDepth 100000 in
theorem fault_shut (k n : Int) (t s : ByteArray) (v : Value) (w : World) :
    Calls Tryz.prog 128 #[.agg #[.int .u8 k, .int .i64 n, .string t], .string s, v] w fun e w' => e = .returned (.string ⟨#[]⟩) ∧ Below w.heap.size w w' := by
  have HB := Lib.hid (below_agg3 w (.int .u8 k) (.int .i64 n) (.string t) 65)
  go_enter Tryz.func128, Tryz.ntmps128
  go_wp2_with fail
  go_ret
  exact ⟨rfl, HB.out⟩
set_option maxRecDepth 100000 in
theorem fault_cut (k n : Int) (t s : ByteArray) (v : Value) (w : World) :
    Calls Tryz.prog 129 #[.agg #[.int .u8 k, .int .i64 n, .string t], .string s, v] w fun e w' => e = .returned (.string (bs (s.data.toList.take (max 0 (min n (s.size : Int))).toNat))) ∧ Below w.heap.size w w' := by
  have HB := Lib.hid (below_agg3 w (.int .u8 k) (.int .i64 n) (.string t) 65)
  go_enter Tryz.func129, Tryz.ntmps129
  go_wp2_with fail
  go_ret
  exact ⟨ret_str (bs_take _ _), HB.out⟩
/-- what put makes of s, the new text of a status line -/
def codeF (n : Int) (s : ByteArray) : List UInt8 := if printErr n ≠ 0 then s.data.toList else putF s 0 (printOf n).data.toList
theorem printOf_size (n : Int) : (printOf n).size ≤ 100 := by
  unfold printOf
  split
  · exact Nat.zero_le _
  · rename_i h
    rw [class_iff] at h
    obtain ⟨m, rfl⟩ : ∃ m : Nat, n = m := ⟨n.toNat, by omega⟩
    have h2 := statusLine_len m (by omega) (by omega)
    have h3 := reason_size (m : Int)
    omega
set_option maxRecDepth 100000 in
set_option maxHeartbeats 2000000 in
theorem fault_code (k n : Int) (t s : ByteArray) (v : Value) (w : World) (hE : EnvW w) (h0 : -9223372036854775808 ≤ n) (h1 : n ≤ 9223372036854775807) (hs : s.size ≤ 1000000) :
    Calls Tryz.prog 130 #[.agg #[.int .u8 k, .int .i64 n, .string t], .string s, v] w fun e w' => e = .returned (.string (bs (codeF n s))) ∧ Below w.heap.size w w' := by
  have hB := below_agg3 w (.int .u8 k) (.int .i64 n) (.string t) 65
  have HE1 := Lib.hid (hE.below hB)
  have HB := Lib.hid hB
  have HS := Lib.hid (fun w hE => status_print n w hE h0 h1)
  have HP := Lib.hid (fun W => fault_put s (printOf n) 0 W hs (Nat.le_trans (printOf_size n) (by decide)) (by decide))
  clear hB hE
  by_cases he : printErr n = 0
  · have HR : Hid (codeF n s = putF s 0 (printOf n).data.toList) := Lib.hid (if_neg (fun h => h he))
    rw [he] at HS
    clear he
    go_enter Tryz.func130, Tryz.ntmps130
    go_wp2_with (first
      | (go_at_call 121; refine (HS.out _ HE1.out.env).mono ?_; rintro e w1 ⟨rfl, hb1⟩; have HB1 := Lib.hid hb1; clear hb1)
      | (go_at_call 164; refine (HP.out _).mono ?_; rintro e w2 ⟨rfl, hb2⟩; have HB2 := Lib.hid hb2; clear hb2))
    go_ret
    exact ⟨ret_str (by rw [HR.out]), bstep (bstep HB.out HB1.out) HB2.out⟩
  · have HR : Hid (s = bs (codeF n s)) := Lib.hid (by unfold codeF; rw [if_pos he, bs_self])
    have tz : ((printErr n : Int) != 0) = true := by rw [bne_iff_ne]; omega
    generalize printErr n = E at HS tz
    clear he
    go_enter Tryz.func130, Tryz.ntmps130
    go_wp2_with (first
      | (go_at_call 121; refine (HS.out _ HE1.out.env).mono ?_; rintro e w1 ⟨rfl, hb1⟩; have HB1 := Lib.hid hb1; clear hb1))
    go_ret
    exact ⟨ret_str HR.out, bstep HB.out HB1.out⟩
def garbleF (t : List UInt8) (s : ByteArray) (ls : List (List UInt8)) : List UInt8 := if ls.length < 2 then s.data.toList else putF s 1 (cleanL t)
theorem clean_size (t : ByteArray) : (bs (cleanL t.data.toList)).size ≤ t.size := by rw [bs_size, ← size_len t]; exact cleanL_len _
set_option maxRecDepth 100000 in
set_option maxHeartbeats 2000000 in
theorem fault_garble (k n : Int) (t s : ByteArray) (a : Option Addr) (c : Nat) (ls : List (List UInt8)) (w : World) (hs : s.size ≤ 1000000) (ht : t.size ≤ 1000000) :
    Calls Tryz.prog 132 #[.agg #[.int .u8 k, .int .i64 n, .string t], .string s, .slice a ls.length c] w fun e w' => e = .returned (.string (bs (garbleF t.data.toList s ls))) ∧ Below w.heap.size w w' := by
  have HB := Lib.hid (below_agg3 w (.int .u8 k) (.int .i64 n) (.string t) 65)
  have HC := Lib.hid (fun W => fault_clean t W ht)
  have HP := Lib.hid (fun W => fault_put s (bs (cleanL t.data.toList)) 1 W hs (Nat.le_trans (clean_size t) ht) (by decide))
  by_cases hl : ls.length < 2
  · have HR : Hid (s = bs (garbleF t.data.toList s ls)) := Lib.hid (by unfold garbleF; rw [if_pos hl, bs_self])
    have hli : (ls.length : Int) < 2 := by omega
    go_enter Tryz.func132, Tryz.ntmps132
    go_wp2_with fail
    go_ret
    exact ⟨ret_str HR.out, HB.out⟩
  · have HR : Hid (garbleF t.data.toList s ls = putF s 1 (bs (cleanL t.data.toList)).data.toList) := Lib.hid (by unfold garbleF; rw [if_neg hl, bs_data])
    have hli : ¬ ((ls.length : Int) < 2) := by omega
    generalize bs (cleanL t.data.toList) = Q at HC HP HR
    go_enter Tryz.func132, Tryz.ntmps132
    go_wp2_with (first
      | (go_at_call 165; refine (HC.out _).mono ?_; rintro e w1 ⟨rfl, hb1⟩; have HB1 := Lib.hid hb1; clear hb1)
      | (go_at_call 164; refine (HP.out _).mono ?_; rintro e w2 ⟨rfl, hb2⟩; have HB2 := Lib.hid hb2; clear hb2))
    go_ret
    exact ⟨ret_str (by rw [HR.out]), bstep (bstep HB.out HB1.out) HB2.out⟩
def placeT (t : List UInt8) (s : ByteArray) (ls : List (List UInt8)) : List UInt8 := match placeF crangeN ls 0 with | none => s.data.toList | some i => putF s i (crangeF ++ cleanL t)
theorem place_miss (c : List UInt8) : ∀ (xs : List (List UInt8)) (i : Nat), (∀ j (hj : j < xs.length), ¬ (0 < i + j ∧ parseE xs[j] = 0 ∧ parseN xs[j] = c)) → placeF c xs i = none := by
  intro xs
  induction xs with
  | nil => intro i _; rfl
  | cons x t ih =>
    intro i h
    unfold placeF
    rw [if_neg (by have := h 0 (by simp); simpa using this)]
    exact ih (i + 1) (fun j hj => by
      have := h (j + 1) (by simp; omega)
      simp only [List.getElem_cons_succ] at this
      rw [show i + 1 + j = i + (j + 1) by omega]; exact this)
theorem place_hit (c : List UInt8) : ∀ (xs : List (List UInt8)) (i k : Nat) (hk : k < xs.length), (∀ j (hj : j < xs.length), j < k → ¬ (0 < i + j ∧ parseE xs[j] = 0 ∧ parseN xs[j] = c)) → (0 < i + k ∧ parseE xs[k] = 0 ∧ parseN xs[k] = c) → placeF c xs i = some (i + k) := by
  intro xs
  induction xs with
  | nil => intro i k hk; simp at hk
  | cons x t ih =>
    intro i k hk h h2
    cases k with
    | zero =>
      unfold placeF
      rw [if_pos (by simpa using h2)]; rfl
    | succ k =>
      unfold placeF
      rw [if_neg (by have := h 0 (by simp) (by omega); simpa using this)]
      have := ih (i + 1) k (by simpa using hk) (fun j hj hjk => by
        have := h (j + 1) (by simp; omega) (by omega)
        simp only [List.getElem_cons_succ] at this
        rw [show i + 1 + j = i + (j + 1) by omega]; exact this) (by
        simp only [List.getElem_cons_succ] at h2
        rw [show i + 1 + k = i + (k + 1) by omega]; exact h2)
      rw [this]; congr 1; omega
def crangeB : ByteArray := ⟨#[67, 111, 110, 116, 101, 110, 116, 45, 82, 97, 110, 103, 101, 58, 32]⟩
theorem crange_cat (l : List UInt8) : crangeB ++ bs l = bs (crangeF ++ l) := by
  apply ByteArray.ext
  apply Array.toList_inj.1
  simp [bs, crangeB, crangeF]
set_option maxRecDepth 100000 in
set_option maxHeartbeats 4000000 in
theorem fault_place (k n : Int) (t s : ByteArray) (v : Value) (ls : List (List UInt8)) (w : World) (hE : EnvW w) (hv : HoldsS w v ls) (hs : s.size ≤ 1000000) (ht : t.size ≤ 10000) (hx : ∀ x ∈ ls, x.length ≤ 1000000) (hll : ls.length ≤ 1000) :
    Calls Tryz.prog 131 #[.agg #[.int .u8 k, .int .i64 n, .string t], .string s, v] w fun e w' => e = .returned (.string (bs (placeT t.data.toList s ls))) ∧ Below w.heap.size w w' := by
  have hB := below_agg3 w (.int .u8 k) (.int .i64 n) (.string t) 65
  have hv1 := hv.below hB
  obtain ⟨a, c, rfl, hc, hcell⟩ := hv1
  have HC := Lib.hid (fun W => fault_clean t W (by omega))
  have HP := Lib.hid (fun (i : Nat) (hi : i ≤ 1000) W => fault_put s (bs (crangeF ++ cleanL t.data.toList)) i W hs (by
    have := clean_size t
    rw [bs_size] at this
    rw [bs_size, List.length_append, show crangeF.length = 15 from rfl]; omega) (by omega))
  have HT : Hid (∀ i, placeF crangeN ls 0 = some i → placeT t.data.toList s ls = putF s i (bs (crangeF ++ cleanL t.data.toList)).data.toList) := Lib.hid (fun i hi => by unfold placeT; rw [hi, bs_data])
  have HT0 : Hid (placeF crangeN ls 0 = none → s = bs (placeT t.data.toList s ls)) := Lib.hid (fun hi => by unfold placeT; rw [hi, bs_self])
  have hq : (crangeB.size : Int) + (bs (cleanL t.data.toList)).size ≤ 1000000 := by
    have := clean_size t
    rw [show crangeB.size = 15 from rfl]; omega
  have padd := fun w => run_string_add_sum (P := Tryz.prog) w (⟨#[67, 111, 110, 116, 101, 110, 116, 45, 82, 97, 110, 103, 101, 58, 32]⟩ : ByteArray) (bs (cleanL t.data.toList)) (by have e : crangeB.size = (⟨#[67, 111, 110, 116, 101, 110, 116, 45, 82, 97, 110, 103, 101, 58, 32]⟩ : ByteArray).size := rfl; rw [← e]; omega)
  have HCAT : Hid ((⟨#[67, 111, 110, 116, 101, 110, 116, 45, 82, 97, 110, 103, 101, 58, 32]⟩ : ByteArray) ++ bs (cleanL t.data.toList) = bs (crangeF ++ cleanL t.data.toList)) := Lib.hid (crange_cat (cleanL t.data.toList))
  have HE := Lib.hid (hE.below hB)
  have HF := Lib.hid (fun (x : List UInt8) (hx : x.length ≤ 1000000) w hE => by have := fields_parseW (bs x) w (by rw [bs_size]; exact hx) hE; rw [bs_data] at this; exact this)
  have HX := Lib.hid hx
  have HCL := Lib.hid hcell
  generalize bs (cleanL t.data.toList) = Q at HC padd HCAT
  generalize bs (crangeF ++ cleanL t.data.toList) = R at HP HT HCAT
  have HB := Lib.hid hB
  clear hv hE hB hx hcell hq
  go_enter Tryz.func131, Tryz.ntmps131
  go_wp2_with fail
  have HU : Hid (∀ W, Below (w.alloc (.cells #[.int .u8 k, .int .i64 n, .string t] 65)).heap.size (w.alloc (.cells #[.int .u8 k, .int .i64 n, .string t] 65)) W → W.cell? ⟨w.heap.size, 2, none⟩ = some (.string t)) := Lib.hid (fun W hW => (hW.cell (p := ⟨w.heap.size, 2, none⟩) (by simp)).trans (by simp))
  have hX0 : w.heap.size < (w.alloc (.cells #[.int .u8 k, .int .i64 n, .string t] 65)).heap.size := by simp
  have HX0 := Lib.hid hX0
  clear hX0
  generalize w.alloc (.cells #[.int .u8 k, .int .i64 n, .string t] 65) = W0 at HE HCL HB HU HX0 ⊢
  go_loopg [13] ls.length (fun gk s13 wr => ∃ i : Nat, s13 = .int .i64 (i : Int) ∧ i + gk = ls.length ∧ Below W0.heap.size W0 wr ∧ Hid (∀ j (hj : j < ls.length), j < i → ¬ (0 < 0 + j ∧ parseE ls[j] = 0 ∧ parseN ls[j] = crangeN)))
  case atStart => exact ⟨0, rfl, by omega, Below.refl _ _, Lib.hid (fun j hj h => absurd h (Nat.not_lt_zero _))⟩
  case round =>
    obtain ⟨i, rfl, hgk, hb, HK⟩ := hrel
    cases gk with
    | zero =>
      obtain rfl : i = ls.length := by omega
      have HBw := Lib.hid hb
      clear hb padd
      go_wp2_with fail
      go_ret
      exact ⟨ret_str (HT0.out (place_miss crangeN ls 0 (fun j hj => HK.out j hj hj))), bstep HB.out HBw.out⟩
    | succ gm =>
      have hi : i < ls.length := by omega
      have hii : (i : Int) < (ls.length : Int) := by omega
      obtain ⟨b, o, rfl, hbl, hcl⟩ := HCL.out (by intro e; rw [e] at hi; simp at hi)
      have hci := (hb.cell (p := ⟨b, o + i, none⟩) hbl).trans (hcl i hi)
      have hic : (i : Int) < (c : Int) := by omega
      have HFi := Lib.hid (HF.out ls[i] (HX.out _ (List.getElem_mem hi)) wr (HE.out.below hb))
      have HBw := Lib.hid hb
      have hwk : IntKind.i64.wrap ((i : Int) + 1) = (i : Int) + 1 := by rw [IntKind.wrap_i64]; omega
      have HKn := HK
      obtain ⟨E, hEq⟩ : ∃ E, parseE ls[i] = E := ⟨_, rfl⟩
      obtain ⟨NM, hNq⟩ : ∃ NM, parseN ls[i] = NM := ⟨_, rfl⟩
      have HEN := Lib.hid (And.intro hEq hNq)
      rw [hEq, hNq] at HFi
      have hnm : ((bs NM).toList == [99, 111, 110, 116, 101, 110, 116, 45, 114, 97, 110, 103, 101]) = decide (NM = crangeN) := bs_lit _ _
      have HUr := HU.out wr hb
      clear hcl hb hEq hNq
      have next : ¬ (0 < i ∧ E = 0 ∧ NM = crangeN) → Hid (∀ j (hj : j < ls.length), j < i + 1 → ¬ (0 < 0 + j ∧ parseE ls[j] = 0 ∧ parseN ls[j] = crangeN)) := fun hno => Lib.hid (fun j hj hji hh => by
        rcases Nat.lt_or_ge j i with h1 | h1
        · exact HK.out j hj h1 hh
        · obtain rfl : j = i := by omega
          rw [HEN.out.1, HEN.out.2, Nat.zero_add] at hh
          exact hno hh)
      by_cases hp : 0 < i ∧ E = 0 ∧ NM = crangeN
      · obtain ⟨hp1, rfl, rfl⟩ := hp
        have HH := Lib.hid (place_hit crangeN ls 0 i hi HK.out ⟨by omega, HEN.out.1, HEN.out.2⟩)
        have hpi : (0 : Int) < (i : Int) := by omega
        rw [decide_eq_true rfl] at hnm
        clear next
        generalize bs crangeN = CN at HFi hnm
        have hcat := HCAT.out
        go_wp2_with fail
        (refine HFi.out.mono ?_; rintro e w1 ⟨rfl, hb1⟩; have HB1 := Lib.hid hb1; have HU1 := HU.out _ (HBw.out.trans (hb1.mono HBw.out.size)); have hX1 : w.heap.size ≠ w1.heap.size := Nat.ne_of_lt (Nat.lt_of_lt_of_le HX0.out (Nat.le_trans HBw.out.size hb1.size)); have hX2 : w.heap.size < w1.heap.size := Nat.lt_of_lt_of_le HX0.out (Nat.le_trans HBw.out.size hb1.size); have hX3 : ∀ A, (w1.alloc A).cell? ⟨w.heap.size, 2, none⟩ = some (.string t) := fun A => (World.cell?_alloc_old w1 A ⟨w.heap.size, 2, none⟩ hX1).trans HU1; clear hb1 HUr hci)
        go_wp2_with (first
          | (go_at_call 165; refine (HC.out _).mono ?_; rintro e w2 ⟨rfl, hb2⟩; have HB2 := Lib.hid hb2; clear hb2)
          | (go_at_call 164; refine (HP.out i (by omega) _).mono ?_; rintro e w3 ⟨rfl, hb3⟩; have HB3 := Lib.hid hb3; clear hb3))
        go_ret
        exact ⟨ret_str (by rw [HT.out i (by have := HH.out; rwa [Nat.zero_add] at this)]), bstep (bstep (bstep (bstep (bstep HB.out HBw.out) HB1.out) ((Below.refl _ _).alloc (Nat.le_refl _) _)) HB2.out) HB3.out⟩
      · have HN := next hp
        have HW2 : Hid (∀ W, Below wr.heap.size wr W → Below W0.heap.size W0 W) := Lib.hid (fun W hW => bstep HBw.out hW)
        clear next HUr padd
        rcases Nat.eq_zero_or_pos i with h0 | h0
        · subst h0
          rw [Nat.add_zero] at hci
          clear hp
          go_wp2_with fail
          refine HFi.out.mono ?_
          rintro e w1 ⟨rfl, hb1⟩
          have HB1 := Lib.hid (bstep (HW2.out _ hb1) ((Below.refl _ _).alloc (Nat.le_refl _) (.cells #[.string (bs NM), .string (bs (parseV ls[0]))] 161)))
          clear hb1 hci
          go_wp2_with fail
          go_roundg gm
          case measure => omega
          case rel => exact ⟨1, rfl, by omega, HB1.out, HN⟩
        have hpi : (0 : Int) < (i : Int) := by omega
        by_cases hE0 : E = 0
        · subst hE0
          have hNM : ¬ NM = crangeN := fun e => hp ⟨h0, rfl, e⟩
          rw [decide_eq_false hNM] at hnm
          clear hp hNM
          go_wp2_with fail
          refine HFi.out.mono ?_
          rintro e w1 ⟨rfl, hb1⟩
          have HB1 := Lib.hid (bstep (HW2.out _ hb1) ((Below.refl _ _).alloc (Nat.le_refl _) (.cells #[.string (bs NM), .string (bs (parseV ls[i]))] 161)))
          clear hb1 hci
          generalize bs NM = NB at *
          go_wp2_with fail
          go_roundg gm
          case measure => omega
          case rel => exact ⟨i + 1, rfl, by omega, HB1.out, HN⟩
        · have tz : ((E : Int) == 0) = false := by rw [beq_eq_false_iff_ne]; omega
          have tz2 : ¬ ((E : Int) = 0) := by omega
          clear hp
          go_wp2_with fail
          refine HFi.out.mono ?_
          rintro e w1 ⟨rfl, hb1⟩
          have HB1 := Lib.hid (bstep (HW2.out _ hb1) ((Below.refl _ _).alloc (Nat.le_refl _) (.cells #[.string (bs NM), .string (bs (parseV ls[i]))] 161)))
          clear hb1 hci
          go_wp2_with fail
          go_roundg gm
          case measure => omega
          case rel => exact ⟨i + 1, rfl, by omega, HB1.out, HN⟩
end Go.Proofs.YtbdmmgmcbecolaaGreatDoor
