/- What Parse of the reference of reply returns. What the laws' Own and Back make of replies. The small example of the laws of layer 26. The law function ReplyLays. The law function ReplyTakes. Rows of the document's replies. What Put of package feed does. What Put of package feed does: the loop. The law function ReplyBack. What Put and End of the document's feed do. What Put of the document's feed does: the walk. -/
import Derived.Test.YtdihhbkajcngeaaGreatDoorPa7
import Derived.Deep.RegionHeld3
set_option linter.unusedVariables false
namespace Go.Proofs.YtdihhbkajcngeaaGreatDoor
open Go.RowKit
theorem load_rrep (w : World) (b : Nat) (t : TypeId) (x y z : Value) (h : w.heap[b]? = some (.cells #[x, y, z] t (0, 0))) : (loadVar 45 ⟨b, 0, none⟩).run Tryz.prog w = .ok (.agg #[x, y, z]) w :=
  run_loadVar_row w b t 45 #[x, y, z] (0, 0) _ h Tryz.underlying45 rfl (by kernel_rfl)
/-- the block of a reply of the document's -/
def RqB (w : World) (R : Nat) (c f b : Value) : Prop := w.heap[R]? = some (.cells #[c, f, b] 45 (0, 0))
theorem RqB.below {w w' : World} {R : Nat} {c f b : Value} (k : RqB w R c f b) (hb : Below w.heap.size w w') : RqB w' R c f b :=
  (hb.block R (Array.getElem?_eq_some_iff.1 k).1).trans k
theorem RqB.lt {w : World} {R : Nat} {c f b : Value} (k : RqB w R c f b) : R < w.heap.size := (Array.getElem?_eq_some_iff.1 k).1
theorem RqB.set1 {w : World} {R : Nat} {c f b : Value} (k : RqB w R c f b) (v : Value) : RqB (w.setCell ⟨R, 1, none⟩ v) R c v b := by
  unfold RqB at k ⊢; simp [World.setCell, Array.getElem?_modify, k]
theorem step_appG {ops : Array Oper} {o : Oper} {a : Act} {K : Act → World → Prop} {Q : Exit → Act → World → Prop} {E : Prop} (W : World) (hgd : o.guard = none) (s x : Operand)
    (ho : o.op = .call { callee := .builtin .append, args := #[s, x], argTypes := #[43, 43] })
    (base : Nat) (v : Value) (fs : List (List UInt8 × List UInt8)) (hs : a.eval s = v) (hown : W.ownsRow base 70 2 v fs.length (fcells fs))
    (B : Nat) (f : List UInt8 × List UInt8) (hB : W.heap[B]? = some (.cells #[.string (bs f.1), .string (bs f.2)] 70 (0, 0))) (hx : a.eval x = .slice (some ⟨B, 0, none⟩) 1 1) (hn : fs.length < 2147483648) (hbase : base ≤ W.heap.size)
    (h : ∀ g cap w', w'.ownsRow base 70 2 (.slice (some ⟨g, 0, none⟩) (fs.length + 1) cap) (fs ++ [f]).length (fcells (fs ++ [f])) → W.grownBy w' v.ownBlock → K (a.put o.dst (.slice (some ⟨g, 0, none⟩) (fs.length + 1) cap)) w') :
    if Region.wanted o (yielded ops a.tmps) = true then Oper.wp Tryz.prog o a W K Q else E := by
  obtain ⟨i0, hi, hz0, hz1, hz2⟩ := info_parts info_rfield
  refine step_append_lies W hgd s x 43 ho base 70 i0 _ 2 32 Tryz.underlying43 hi hz0 hz1 hz2 rfl (by decide) v fs.length (fcells fs) hs hown ⟨B, 0, none⟩ 1 1 [.string (bs f.1), .string (bs f.2)] hx rfl (World.news_of_block hB) (by simp [Value.oneCell']) (by decide) (by unfold maxLen; omega) (by omega) hbase _ rfl ?_
  intro g cap w' h1 h2 _ _
  refine h g cap w' ?_ h2
  rw [List.length_append, fcells_append]; exact h1
def AfterAppQ (R : Nat) (W w' : World) (c v b : Value) : Prop := RqB w' R c v b ∧ W.grownBy w' (some R)
theorem step_appQ {ops : Array Oper} {o : Oper} {a : Act} {K : Act → World → Prop} {Q : Exit → Act → World → Prop} {E : Prop} {R base : Nat} (w0 : World) (hw0 : w0.heap.size = base) (hR0 : R < base) {c v b : Value} {W2 : World} {fs : List (List UInt8 × List UInt8)} (W : World) (hgd : o.guard = none) (s z : Operand)
    (ho : o.op = .call { callee := .builtin .append, args := #[s, z], argTypes := #[43, 43] })
    (hR2 : RqB W2 R c v b) (hown : W2.ownsRow base 70 2 v fs.length (fcells fs)) (hg0 : w0.grownBy W2 (some R)) (hs : a.eval s = v) (hn : fs.length < 2147483648) (hbW : Below W2.heap.size W2 W)
    (B : Nat) (f : List UInt8 × List UInt8) (hB : W.heap[B]? = some (.cells #[.string (bs f.1), .string (bs f.2)] 70 (0, 0))) (hx : a.eval z = .slice (some ⟨B, 0, none⟩) 1 1)
    (hK : ∀ g cap w', w'.ownsRow base 70 2 (.slice (some ⟨g, 0, none⟩) (fs.length + 1) cap) (fs ++ [f]).length (fcells (fs ++ [f])) → w'.cell? ⟨R, 1, none⟩ = some v → w'.frozen? ⟨R, 1, none⟩ = false → AfterAppQ R w0 w' c v b → K (a.put o.dst (.slice (some ⟨g, 0, none⟩) (fs.length + 1) cap)) w') :
    if Region.wanted o (yielded ops a.tmps) = true then Oper.wp Tryz.prog o a W K Q else E := by
  have hoW := own_keep hown hbW
  have hlt := hR2.lt
  have hsz := hbW.size
  have hs0 := hg0.size
  refine step_appG W hgd s z ho base v fs hs hoW B f hB hx hn (by omega) (fun g cap w' h1 h2 => ?_)
  have hR3 : RqB w' R c v b := (grow_block h2 hoW hR0 (by omega)).trans (hR2.below hbW)
  have hg1 := hg0.below hbW
  have hb3 : w0.grownBy w' (some R) := ⟨h2.os.trans hg1.os, h2.tape.trans hg1.tape, h2.output.trans hg1.output, Nat.le_trans hg1.size h2.size, fun k hk hne =>
    (h2.block k (Nat.lt_of_lt_of_le hk hg1.size) (fun h => by have := (hoW.lt k h.symm).1; omega)).trans (hg1.block k hk hne)⟩
  obtain ⟨-, k1, -, -, f1, -⟩ := three_facts hR3
  exact hK g cap w' h1 k1 f1 ⟨hR3, hb3⟩
def RefPost (s : ByteArray) (most : Int) (w : World) (e : Ending) (w' : World) : Prop :=
  ∃ fv, e = .returned (RepV s most fv) ∧ (∃ B, w'.ownsRow B 70 2 fv (takF s most).length (fcells (takF s most))) ∧ Below w.heap.size w w'
theorem rparse_bad (s : ByteArray) (most : Int) (e : Nat) (h : takE s most = e) (h0 : e ≠ 0) (w w' : World) (hb : Below w.heap.size w w') :
    RefPost s most w (.returned (.tuple #[.agg #[.int .i64 0, .slice none 0 0, .string ⟨#[]⟩], .int .i64 0, .int .i64 (e : Nat)])) w' := by
  obtain ⟨h1, h2, h3, h4⟩ := tak_bad s most (by rw [h]; exact h0)
  refine ⟨.slice none 0 0, ?_, ?_, hb⟩
  · unfold RepV; rw [h1, h3, h4, h]; rfl
  · rw [h2]; exact ⟨0, World.ownsRow_nil _ _ _ _⟩
theorem rparse_good (s : ByteArray) (most : Int) (h : takE s most = 0) (w w' : World) (fv : Value) (hown : ∃ B, w'.ownsRow B 70 2 fv (takF s most).length (fcells (takF s most))) (hb : Below w.heap.size w w') (C n : Int) (B : ByteArray) (h1 : takC s most = C) (h2 : takN s most = n) (h3 : bs (takB s most) = B) :
    RefPost s most w (.returned (.tuple #[.agg #[.int .i64 C, fv, .string B], .int .i64 n, .int .i64 0])) w' := by
  refine ⟨fv, ?_, hown, hb⟩
  unfold RepV; rw [h1, h2, h3, h]; rfl
theorem res3 {w w1 : World} (hb : Below (w.alloc (.cells #[.int .i64 0, .slice none 0 0, .string ⟨#[]⟩] 45)).heap.size (w.alloc (.cells #[.int .i64 0, .slice none 0 0, .string ⟨#[]⟩] 45)) w1) :
    w1.heap[w.heap.size]? = some (.cells #[.int .i64 0, .slice none 0 0, .string ⟨#[]⟩] 45 (0, 0)) := (hb.block w.heap.size (by simp)).trans (heap_alloc_new w _)
theorem restF_take (fs : List (List UInt8 × List UInt8)) (k : Nat) (hk : k < fs.length) : restF (fs.take (k + 1)) = restF (fs.take k) ++ (if fs[k].1 = clen then [] else [fs[k]]) := by
  unfold restF
  rw [List.take_succ_eq_append_getElem hk, List.filter_append]
  congr 1
  by_cases h : fs[k].1 = clen
  · rw [if_pos h, List.filter_cons_of_neg (by simp [h])]; rfl
  · rw [if_neg h, List.filter_cons_of_pos (by simp [h])]; rfl
theorem restF_len (fs : List (List UInt8 × List UInt8)) : (restF fs).length ≤ fs.length := List.length_filter_le _ _
theorem hdE_split (x : List UInt8) (xs : List (List UInt8)) : hdE (x :: xs) = if (statusOf x).2 ≠ 0 then (statusOf x).2 else if fldE xs ≠ 0 then fldE xs else if getE (fldL xs) clen ≠ 0 then getE (fldL xs) clen else numE (getS (fldL xs) clen) := by
  unfold hdE
  rw [if_neg (by simp)]; rfl
set_option maxRecDepth 100000 in
set_option maxHeartbeats 4000000 in
theorem ref_rparse (s : ByteArray) (most : Int) (w : World) (hs : s.size ≤ 1000000) :
    Calls Tryz.prog 24 #[.string s, .int .i64 most] w (RefPost s most w) := by
  have HH := Lib.hid (ref_head s (w.alloc (.cells #[.int .i64 0, .slice none 0 0, .string ⟨#[]⟩] 45)) (by omega))
  have hbd := headOf_bound s
  have hbd2 := headOf_bd s
  unfold HeadPost at HH
  obtain ⟨⟨ls, n, e⟩, hh⟩ : ∃ T, headOf s = T := ⟨_, rfl⟩
  rw [hh] at HH hbd hbd2
  have HHd := Lib.hid hh
  change (∀ x ∈ ls, x.length ≤ 256) ∧ ls.length ≤ 17 at hbd
  change e = 0 → 0 < n ∧ n ≤ (s.size : Int) at hbd2
  change Hid (Calls _ _ _ _ fun r w' => ∃ v, r = .returned (.tuple #[v, .int .i64 n, .int .i64 (e : Nat)]) ∧ w'.ownsRow _ 9 1 v ls.length (strs ls) ∧ _) at HH
  have HBD := Lib.hid hbd
  have HB0 := Lib.hid (below_r3 w (.int .i64 0) (.slice none 0 0) (.string ⟨#[]⟩))
  clear hbd hh
  by_cases he : e = 0
  case neg =>
    have HV : Hid (takE s most = e ∧ e ≠ 0) := Lib.hid ⟨by unfold takE; rw [HHd.out]; exact if_pos he, he⟩
    have tz : ((e : Int) != 0) = true := by rw [bne_iff_ne]; omega
    clear he hbd2
    go_enter Tryz.func24, Tryz.ntmps24
    go_wp2_with fail
    refine HH.out.mono ?_
    rintro r w1 ⟨v, rfl, -, hb1⟩
    have HB1 := Lib.hid hb1
    obtain ⟨d0, d1, d2, g0, g1, g2⟩ := three_facts (res3 hb1)
    clear hb1
    go_wp2_with fail
    refine ret_cell3 (A := ⟨w.heap.size, 0, none⟩) rfl (load_rrep _ _ _ _ _ _ (three_set (res3 HB1.out) _ _ _)) rfl rfl rfl rfl ?_
    exact rparse_bad s most e HV.out.1 HV.out.2 w _ (three_below (bstep HB0.out HB1.out) _ (Nat.le_refl _) _ _ _)
  subst he
  obtain ⟨n1, n2⟩ := hbd2 rfl
  obtain ⟨nx, rfl⟩ : ∃ nx : Nat, n = nx := ⟨n.toNat, by omega⟩
  have hh2 : Hid (∀ q, takE s most = q ↔ (if hdE ls ≠ 0 then hdE ls else if most < (hdN ls : Int) then 5 else if (s.size : Int) - nx < (hdN ls : Int) then 3 else 0) = q) := Lib.hid (fun q => by unfold takE; rw [HHd.out]; rfl)
  clear hbd2
  cases ls with
  | nil =>
    have HV : Hid (takE s most = 4) := Lib.hid ((hh2.out 4).2 rfl)
    go_enter Tryz.func24, Tryz.ntmps24
    go_wp2_with fail
    refine HH.out.mono ?_
    rintro e w1 ⟨v, rfl, hown, hb1⟩
    obtain ⟨av, cv, rfl⟩ := slice_of_own hown
    have HB1 := Lib.hid hb1
    obtain ⟨d0, d1, d2, g0, g1, g2⟩ := three_facts (res3 hb1)
    clear hb1 hown
    go_wp2_with fail
    refine ret_cell3 (A := ⟨w.heap.size, 0, none⟩) rfl (load_rrep _ _ _ _ _ _ (three_set (res3 HB1.out) _ _ _)) rfl rfl rfl rfl ?_
    exact rparse_bad s most 4 HV.out (by decide) w _ (three_below (bstep HB0.out HB1.out) _ (Nat.le_refl _) _ _ _)
  | cons x xs =>
    have hxl : x.length ≤ 256 := HBD.out.1 x (List.mem_cons_self ..)
    have HS := Lib.hid (fun w => ref_status_parse (bs x) w (by rw [bs_size]; omega))
    rw [bs_data] at HS
    have HXS : Hid (∀ y ∈ xs, y.length ≤ 256) := Lib.hid (fun y hy => HBD.out.1 y (List.mem_cons_of_mem _ hy))
    have hxn : xs.length ≤ 16 := by have := HBD.out.2; simp at this; omega
    have HSp := Lib.hid (hdE_split x xs)
    have HCN : Hid (hdC (x :: xs) = (statusOf x).1 ∧ hdN (x :: xs) = numV (getS (fldL xs) clen)) := Lib.hid ⟨rfl, rfl⟩
    obtain ⟨⟨C, e0⟩, hst⟩ : ∃ T, statusOf x = T := ⟨_, rfl⟩
    rw [hst] at HS HSp HCN
    clear hst
    go_enter Tryz.func24, Tryz.ntmps24
    go_wp2_with fail
    refine HH.out.mono ?_
    rintro e w1 ⟨v, rfl, hown, hb1⟩
    have hSS := HoldsS.of_own hown
    obtain ⟨av, cv, hv, hcv, hhv⟩ := hSS
    subst hv
    obtain ⟨B, o, rfl, hBl, hcell⟩ := hhv (by simp)
    have c0 := hcell 0 (by simp)
    rw [Nat.add_zero] at c0
    change w1.cell? ⟨B, o, none⟩ = some (.string (bs x)) at c0
    have HST : Hid (HoldsS w1 (.slice (some ⟨B, o, none⟩) (x :: xs).length cv) (x :: xs)) := Lib.hid (HoldsS.of_own hown)
    have HB1 := Lib.hid hb1
    have hll : ((x :: xs).length : Nat) = xs.length + 1 := rfl
    rw [hll] at hcv ⊢
    have tl : (((xs.length : Int) + 1) == 0) = false := by rw [beq_eq_false_iff_ne]; omega
    clear hb1 hown hcell hhv hll HH
    go_wp2_with fail
    refine (HS.out _).mono ?_
    rintro e w2 ⟨rfl, hww⟩
    obtain rfl := hww.symm
    by_cases h1 : e0 = 0
    case neg =>
      have HV : Hid (takE s most = e0 ∧ e0 ≠ 0) := Lib.hid ⟨(hh2.out e0).2 (by rw [HSp.out, if_pos h1, if_pos h1]), h1⟩
      have tz : ((e0 : Int) != 0) = true := by rw [bne_iff_ne]; omega
      obtain ⟨d0, d1, d2, g0, g1, g2⟩ := three_facts (res3 HB1.out)
      clear h1 c0
      go_wp2_with fail
      refine ret_cell3 (A := ⟨w.heap.size, 0, none⟩) rfl (load_rrep _ _ _ _ _ _ (three_set (res3 HB1.out) _ _ _)) rfl rfl rfl rfl ?_
      exact rparse_bad s most _ HV.out.1 HV.out.2 w _ (three_below (bstep HB0.out HB1.out) _ (Nat.le_refl _) _ _ _)
    subst h1
    rw [if_neg (by simp)] at HSp
    clear HS c0
    by_cases hx0 : xs = []
    · subst hx0
      have HV : Hid (takE s most = 6) := Lib.hid ((hh2.out 6).2 (by rw [HSp.out]; rfl))
      have HFE : Hid (∀ a c w, Calls Tryz.prog 38 #[.slice a 0 c] w (FieldsPost [] w)) := Lib.hid (fun a c w => ref_fields w (.slice a 0 c) [] (HoldsS.empty w a c) (by decide) (fun x h => by simp at h))
      by_cases hc : cv = 1
      all_goals
        go_wp2_with fail
        refine (HFE.out _ _ _).mono ?_
        rintro e w3 ⟨v3, rfl, ⟨a3, c3, n3, rfl⟩, hf3, hb3⟩
        have HF3 := Lib.hid (hf3 rfl)
        have HB3 := Lib.hid (bstep HB1.out hb3)
        clear hf3 hb3
        go_wp2_with fail
        refine (get_rk _ _ ⟨#[99, 111, 110, 116, 101, 110, 116, 45, 108, 101, 110, 103, 116, 104]⟩ clen rfl _ HF3.out (by decide)).mono ?_
        rintro e w3 ⟨rfl, rfl⟩
        obtain ⟨d0, d1, d2, g0, g1, g2⟩ := three_facts (res3 HB3.out)
        rw [show getE (fldL []) clen = 6 from rfl]
        go_wp2_with fail
        refine ret_cell3 (A := ⟨w.heap.size, 0, none⟩) rfl (load_rrep _ _ _ _ _ _ (three_set (res3 HB3.out) _ _ _)) rfl rfl rfl rfl ?_
        exact rparse_bad s most 6 HV.out (by decide) w _ (three_below (bstep HB0.out HB3.out) _ (Nat.le_refl _) _ _ _)
    · have hyp : 0 < xs.length := List.length_pos_iff.2 hx0
      have hc : 1 < cv := by omega
      have HT : Hid (HoldsS w1 (.slice (some ⟨B, o + 1, none⟩) xs.length (cv - 1)) xs) := Lib.hid (HST.out.tail hc)
      have HFE := Lib.hid (ref_fields w1 _ xs HT.out (by omega) (fun y hy => by have := HXS.out y hy; omega))
      obtain ⟨fs, hfs⟩ : ∃ fs, fldL xs = fs := ⟨_, rfl⟩
      have hfl : fs.length ≤ 16 := by rw [← hfs]; unfold fldL; rw [List.length_map]; omega
      have hgl : (getS fs clen).length ≤ 256 := by rw [← hfs]; exact getS_len xs clen HXS.out
      have HTL : Hid (restF (fldL (x :: xs).tail) = restF fs) := Lib.hid (by rw [List.tail_cons, hfs])
      have HFS := Lib.hid hfs
      rw [hfs] at HSp HCN
      clear hfs hx0
      go_wp2_with fail
      refine HFE.out.mono ?_
      rintro e w3 ⟨v3, rfl, ⟨a3, c3, n3, rfl⟩, hf3, hb3⟩
      have HB3 := Lib.hid (bstep HB1.out hb3)
      have HF3 := Lib.hid hf3
      clear hf3 hb3
      by_cases h2 : fldE xs = 0
      case neg =>
        have HV : Hid (takE s most = fldE xs ∧ fldE xs ≠ 0) := Lib.hid ⟨(hh2.out _).2 (by rw [HSp.out, if_pos h2, if_pos h2]), h2⟩
        have tz : ((fldE xs : Int) != 0) = true := by rw [bne_iff_ne]; omega
        obtain ⟨d0, d1, d2, g0, g1, g2⟩ := three_facts (res3 HB3.out)
        clear h2
        go_wp2_with fail
        refine ret_cell3 (A := ⟨w.heap.size, 0, none⟩) rfl (load_rrep _ _ _ _ _ _ (three_set (res3 HB3.out) _ _ _)) rfl rfl rfl rfl ?_
        exact rparse_bad s most _ HV.out.1 HV.out.2 w _ (three_below (bstep HB0.out HB3.out) _ (Nat.le_refl _) _ _ _)
      have HF : Hid (HoldsF w3 (.slice a3 n3 c3) fs) := Lib.hid (by have := HF3.out h2; rwa [HFS.out] at this)
      rw [h2, if_neg (by simp)] at HSp
      rw [h2]
      have HG := Lib.hid (get_rk _ fs ⟨#[99, 111, 110, 116, 101, 110, 116, 45, 108, 101, 110, 103, 116, 104]⟩ clen rfl _ HF.out (by omega))
      clear h2 HF3
      go_wp2_with fail
      refine HG.out.mono ?_
      rintro e w4 ⟨rfl, hww⟩
      obtain rfl := hww.symm
      by_cases h3 : getE fs clen = 0
      case neg =>
        have HV : Hid (takE s most = getE fs clen ∧ getE fs clen ≠ 0) := Lib.hid ⟨(hh2.out _).2 (by rw [HSp.out, if_pos h3, if_pos h3]), h3⟩
        have tz : ((getE fs clen : Int) != 0) = true := by rw [bne_iff_ne]; omega
        obtain ⟨d0, d1, d2, g0, g1, g2⟩ := three_facts (res3 HB3.out)
        clear h3
        go_wp2_with fail
        refine ret_cell3 (A := ⟨w.heap.size, 0, none⟩) rfl (load_rrep _ _ _ _ _ _ (three_set (res3 HB3.out) _ _ _)) rfl rfl rfl rfl ?_
        exact rparse_bad s most _ HV.out.1 HV.out.2 w _ (three_below (bstep HB0.out HB3.out) _ (Nat.le_refl _) _ _ _)
      rw [h3, if_neg (by simp)] at HSp
      rw [h3]
      have HN := Lib.hid (fun w => ref_number (bs (getS fs clen)) w (by rw [bs_size]; omega))
      rw [bs_data] at HN
      clear h3 HG
      go_wp2_with fail
      refine (HN.out _).mono ?_
      rintro e w4 ⟨rfl, hww⟩
      obtain rfl := hww.symm
      by_cases h4 : numE (getS fs clen) = 0
      case neg =>
        have HV : Hid (takE s most = numE (getS fs clen) ∧ numE (getS fs clen) ≠ 0) := Lib.hid ⟨(hh2.out _).2 (by rw [HSp.out, if_pos h4]), h4⟩
        have tz : ((numE (getS fs clen) : Int) != 0) = true := by rw [bne_iff_ne]; omega
        obtain ⟨d0, d1, d2, g0, g1, g2⟩ := three_facts (res3 HB3.out)
        clear h4
        go_wp2_with fail
        refine ret_cell3 (A := ⟨w.heap.size, 0, none⟩) rfl (load_rrep _ _ _ _ _ _ (three_set (res3 HB3.out) _ _ _)) rfl rfl rfl rfl ?_
        exact rparse_bad s most _ HV.out.1 HV.out.2 w _ (three_below (bstep HB0.out HB3.out) _ (Nat.le_refl _) _ _ _)
      have HZ : Hid (hdE (x :: xs) = 0) := Lib.hid (by rw [HSp.out]; exact h4)
      rw [h4]
      obtain ⟨N, hN⟩ : ∃ N, numV (getS fs clen) = N := ⟨_, rfl⟩
      rw [hN] at HCN ⊢
      obtain ⟨d0, d1, d2, g0, g1, g2⟩ := three_facts (res3 HB3.out)
      clear h4 hN HN HSp
      by_cases hm : most < (N : Int)
      · have HV : Hid (takE s most = 5) := Lib.hid ((hh2.out 5).2 (by rw [if_neg (by rw [HZ.out]; simp), HCN.out.2, if_pos hm]))
        have tm : decide ((N : Int) > most) = true := decide_eq_true (by omega)
        clear hm
        go_wp2_with fail
        refine ret_cell3 (A := ⟨w.heap.size, 0, none⟩) rfl (load_rrep _ _ _ _ _ _ (three_set (res3 HB3.out) _ _ _)) rfl rfl rfl rfl ?_
        exact rparse_bad s most 5 HV.out (by decide) w _ (three_below (bstep HB0.out HB3.out) _ (Nat.le_refl _) _ _ _)
      have tm : decide ((N : Int) > most) = false := decide_eq_false (by omega)
      have tw : IntKind.i64.wrap ((s.size : Int) - (nx : Int)) = (s.size : Int) - (nx : Int) := by rw [IntKind.wrap_i64]; omega
      by_cases hsh : (s.size : Int) - (nx : Int) < (N : Int)
      · have HV : Hid (takE s most = 3) := Lib.hid ((hh2.out 3).2 (by rw [if_neg (by rw [HZ.out]; simp), HCN.out.2, if_neg hm, if_pos hsh]))
        have ts : decide ((s.size : Int) - (nx : Int) < (N : Int)) = true := decide_eq_true hsh
        clear hm hsh
        go_wp2_with fail
        refine ret_cell3 (A := ⟨w.heap.size, 0, none⟩) rfl (load_rrep _ _ _ _ _ _ (three_set (res3 HB3.out) _ _ _)) rfl rfl rfl rfl ?_
        exact rparse_bad s most 3 HV.out (by decide) w _ (three_below (bstep HB0.out HB3.out) _ (Nat.le_refl _) _ _ _)
      have hz : takE s most = 0 := (hh2.out 0).2 (by rw [if_neg (by rw [HZ.out]; simp), HCN.out.2, if_neg hm, if_neg hsh])
      have HV : Hid (takE s most = 0 ∧ takC s most = C ∧ takF s most = restF fs ∧ takN s most = (nx : Int) + (N : Int) ∧ bs (takB s most) = s.extract nx (nx + N)) := Lib.hid ⟨hz, by unfold takC; rw [if_pos hz, HHd.out]; exact HCN.out.1, by unfold takF; rw [if_pos hz, HHd.out]; exact HTL.out, by unfold takN; rw [if_pos hz, HHd.out]; exact congrArg (fun q : Nat => (nx : Int) + (q : Int)) HCN.out.2, by
        unfold takB; rw [if_pos hz, HHd.out, extract_bs]
        show bs ((s.data.toList.take ((nx : Int).toNat + hdN (x :: xs))).drop (nx : Int).toNat) = _
        rw [HCN.out.2, Int.toNat_natCast]⟩
      have ts : decide ((s.size : Int) - (nx : Int) < (N : Int)) = false := decide_eq_false hsh
      have ta : IntKind.i64.wrap ((nx : Int) + (N : Int)) = (nx : Int) + (N : Int) := by rw [IntKind.wrap_i64]; omega
      have hle : nx + N ≤ s.size := by omega
      have hle2 : (nx : Int) + (N : Int) ≤ (s.size : Int) := by omega
      have hf := HF.out
      obtain ⟨aa, cc, hfe, hfc, hfx⟩ := hf
      injection hfe with q1 q2 q3
      subst q1 q2 q3
      have HX := Lib.hid hfx
      clear hm hsh hz hfx d0 d1 d2 g0 g1 g2 HT HST hBl
      go_wp2_with fail
      have hR0 : RqB (w3.alloc (.cells #[.int .i64 C, .slice none 0 0, .string (s.extract nx (nx + N))] 45)) w3.heap.size (.int .i64 C) (.slice none 0 0) (.string (s.extract nx (nx + N))) := heap_alloc_new w3 _
      have hW0 : (w3.alloc (.cells #[.int .i64 C, .slice none 0 0, .string (s.extract nx (nx + N))] 45)).heap.size = w3.heap.size + 1 := by simp
      have hA0 := (Below.refl w3.heap.size w3).alloc (Nat.le_refl _) (.cells #[.int .i64 C, .slice none 0 0, .string (s.extract nx (nx + N))] 45)
      generalize w3.alloc (.cells #[.int .i64 C, .slice none 0 0, .string (s.extract nx (nx + N))] 45) = W0 at hR0 hW0 hA0 ⊢
      obtain ⟨BD, hBD⟩ : ∃ BD, s.extract nx (nx + N) = BD := ⟨_, rfl⟩
      rw [hBD] at hR0 HV
      have hsz3 : w.heap.size < w3.heap.size := by have := HB3.out.size; simp at this; omega
      obtain ⟨R, hRe⟩ : ∃ R, w3.heap.size = R := ⟨_, rfl⟩
      rw [hRe] at hR0 hW0 hsz3
      have HW0 := Lib.hid (And.intro hR0 (And.intro hW0 hA0))
      have HRE := Lib.hid hRe
      rw [hRe]
      clear hR0 hA0 hBD hRe
      have hR0l : R < W0.heap.size := by omega
      have HW0s := Lib.hid hW0
      clear hW0
      go_loopg [15] fs.length (fun gk s15 wr => ∃ (k : Nat) (fv : Value), s15 = .int .i64 (k : Int) ∧ k + gk = fs.length ∧ Hid (RqB wr R (.int .i64 C) fv (.string BD)) ∧ Hid (wr.ownsRow W0.heap.size 70 2 fv (restF (fs.take k)).length (fcells (restF (fs.take k)))) ∧ Hid (W0.grownBy wr (some R)))
      case atStart => exact ⟨0, _, by simp, by omega, Lib.hid HW0.out.1, Lib.hid (by rw [List.take_zero]; exact World.ownsRow_nil _ _ _ _), Lib.hid (GR.refl _ _)⟩
      case round =>
        obtain ⟨k, fv, rfl, hgk, HRr, HOr, HGr⟩ := hrel
        obtain ⟨avv, cvv, rfl⟩ := own_fslice HOr.out
        have hRl := HRr.out.lt
        obtain ⟨r0, r1, r2, -, f1, -⟩ := three_facts HRr.out
        by_cases hk : k < fs.length
        · obtain ⟨g', rfl⟩ : ∃ g', gk = g' + 1 := ⟨gk - 1, by omega⟩
          have hkI : decide ((k : Int) < (fs.length : Int)) = true := decide_eq_true (by omega)
          have hkI2 : (k : Int) < (fs.length : Int) := by omega
          obtain ⟨bb, o', rfl, hbl, hcell⟩ := HX.out (fun e => by rw [e] at hk; exact absurd hk (Nat.not_lt_zero _))
          have HBR : Hid (Below R W0 wr) := Lib.hid (HGr.out.toBelow (Nat.le_of_lt hR0l))
          have hbR : bb < R := by have := HRE.out; omega
          have c0 := (HBR.out.cell (p := ⟨bb, o' + k * 2, none⟩) hbR).trans ((HW0.out.2.2.cell (p := ⟨bb, o' + k * 2, none⟩) hbl).trans (hcell k hk).1)
          have c1 := (HBR.out.cell (p := ⟨bb, o' + k * 2 + 1, none⟩) hbR).trans ((HW0.out.2.2.cell (p := ⟨bb, o' + k * 2 + 1, none⟩) hbl).trans (hcell k hk).2)
          have HTk := Lib.hid (restF_take fs k hk)
          obtain ⟨y, hy⟩ : ∃ y, fs[k] = y := ⟨_, rfl⟩
          rw [hy] at c0 c1 HTk
          have hcmp := bs_lit y.1 [99, 111, 110, 116, 101, 110, 116, 45, 108, 101, 110, 103, 116, 104]
          have hkl : Hid ((restF (fs.take k)).length < 2147483648) := Lib.hid (by have := restF_len (fs.take k); rw [List.length_take] at this; omega)
          obtain ⟨rk, hrk⟩ : ∃ rk, restF (fs.take k) = rk := ⟨_, rfl⟩
          rw [hrk] at HOr HTk hkl HRr r1
          clear hcell hy hrk
          by_cases hnm : y.1 = clen
          · have HTS : Hid (restF (fs.take (k + 1)) = rk) := Lib.hid (by rw [HTk.out, if_pos hnm, List.append_nil])
            rw [decide_eq_true (show y.1 = [99, 111, 110, 116, 101, 110, 116, 45, 108, 101, 110, 103, 116, 104] from hnm)] at hcmp
            have hcmp2 : ((bs y.1).toList != [99, 111, 110, 116, 101, 110, 116, 45, 108, 101, 110, 103, 116, 104]) = false := by unfold bne; rw [hcmp]; rfl
            clear hnm
            go_wp2_with fail
            go_roundg g'
            case measure => omega
            case rel => exact ⟨k + 1, _, by simp, by omega, HRr, by rw [HTS.out]; exact HOr, HGr⟩
          · have HTS : Hid (restF (fs.take (k + 1)) = rk ++ [y]) := Lib.hid (by rw [HTk.out, if_neg hnm])
            rw [decide_eq_false (show ¬ y.1 = [99, 111, 110, 116, 101, 110, 116, 45, 108, 101, 110, 103, 116, 104] from hnm)] at hcmp
            have hcmp2 : ((bs y.1).toList != [99, 111, 110, 116, 101, 110, 116, 45, 108, 101, 110, 103, 116, 104]) = true := by unfold bne; rw [hcmp]; rfl
            clear hnm
            go_wp2_with fail
            go_region_law (refine step_appQ W0 rfl hR0l _ rfl _ _ rfl HRr.out HOr.out HGr.out rfl hkl.out ?_ wr.heap.size y ?_ rfl ?_; exact ((Below.refl _ _).alloc (Nat.le_refl _) _).drew; exact heap_alloc_new wr _; intro g cap w4 hown4 hc4 hf4 haf)
            all_goals
              go_wp2_with fail
              go_roundg g'
              case measure => omega
              case rel =>
                refine ⟨k + 1, _, by simp, by omega, Lib.hid (haf.1.set1 _), Lib.hid ?_, Lib.hid (haf.2.set 1 _)⟩
                rw [HTS.out]; exact ownsRow_setCell_below hown4 (a := ⟨R, 1, none⟩) hR0l _
        · obtain rfl : k = fs.length := by omega
          have hkI : decide ((fs.length : Int) < (fs.length : Int)) = false := decide_eq_false (by omega)
          have HBR : Hid (Below R W0 wr) := Lib.hid (HGr.out.toBelow (Nat.le_of_lt hR0l))
          have HBW : Hid (Below w3.heap.size w3 wr) := Lib.hid (by have h1 := HW0.out.2.2; have h2 := HBR.out; rw [← HRE.out] at h2; exact h1.trans h2)
          have HRES : Hid (wr.heap[w.heap.size]? = some (.cells #[.int .i64 0, .slice none 0 0, .string ⟨#[]⟩] 45 (0, 0))) := Lib.hid (by
            have hl : w.heap.size < w3.heap.size := by rw [HRE.out]; exact hsz3
            exact (HBW.out.block w.heap.size hl).trans (res3 HB3.out))
          obtain ⟨d0, d1, d2, g0, g1, g2⟩ := three_facts HRES.out
          have hFl : Hid ((restF (fs.take fs.length)) = restF fs) := Lib.hid (by rw [List.take_length])
          rw [hFl.out] at HOr HRr r1
          obtain ⟨rk, hrk⟩ : ∃ rk, restF fs = rk := ⟨_, rfl⟩
          rw [hrk] at HOr HRr r1 HV
          clear hrk hFl
          go_wp2_with fail
          refine ret_cell3 (A := ⟨w.heap.size, 0, none⟩) rfl (load_rrep _ _ _ _ _ _ (three_set HRES.out _ _ _)) rfl rfl rfl rfl ?_
          refine rparse_good s most HV.out.1 w _ _ ?_ (three_below (bstep HB0.out (HB3.out.trans (HBW.out.mono HB3.out.size))) _ (Nat.le_refl _) _ _ _) _ _ _ HV.out.2.1 HV.out.2.2.2.1 HV.out.2.2.2.2
          rw [HV.out.2.2.1]
          have hl : w.heap.size < W0.heap.size := by omega
          exact ⟨_, (ownsRow_setCell_below (ownsRow_setCell_below (ownsRow_setCell_below HOr.out (a := ⟨w.heap.size, 0, none⟩) hl _) (a := ⟨w.heap.size, 1, none⟩) hl _) (a := ⟨w.heap.size, 2, none⟩) hl _)⟩
end Go.Proofs.YtdihhbkajcngeaaGreatDoor
namespace Go.Proofs.YtdihhbkajcngeaaGreatDoor
open Go.RowKit
def OwnR (c : Int) (fs : List (List UInt8 × List UInt8)) (x : ByteArray) (t : TypeId) (w : World) (e : Ending) (w' : World) : Prop :=
  ∃ a cp, e = .returned (.agg #[.int .i64 c, .slice a fs.length cp, .string x]) ∧ w'.ownsRow w.heap.size t 2 (.slice a fs.length cp) fs.length (fcells fs) ∧ Below w.heap.size w w'
set_option maxRecDepth 100000 in
set_option maxHeartbeats 2000000 in
theorem law26_back (c : Int) (v : Value) (fs : List (List UInt8 × List UInt8)) (x : ByteArray) (w : World) (hv : HoldsF w v fs) (hlen : fs.length < 2147483648) :
    Calls Tryz.prog 26 #[.agg #[.int .i64 c, v, .string x]] w (OwnR c fs x 70 w) := by
  have B1 := below_agg3 w (.int .i64 c) v (.string x) 52
  have HW0 := Lib.hid (bstep B1 (below_agg3 (w.alloc (.cells #[.int .i64 c, v, .string x] 52)) (.int .i64 0) (.slice none 0 0) (.string ⟨#[]⟩) 45))
  have hv0 := hv.below HW0.out
  have hk0 := heap_alloc2_new w (.cells #[.int .i64 c, v, .string x] 52) (.cells #[.int .i64 0, .slice none 0 0, .string ⟨#[]⟩] 45)
  have hp0 := ((below_agg3 (w.alloc (.cells #[.int .i64 c, v, .string x] 52)) (.int .i64 0) (.slice none 0 0) (.string ⟨#[]⟩) 45).block w.heap.size (by simp)).trans (heap_alloc_new w _)
  have hsz : ((w.alloc (.cells #[.int .i64 c, v, .string x] 52)).alloc (.cells #[.int .i64 0, .slice none 0 0, .string ⟨#[]⟩] 45)).heap.size = w.heap.size + 1 + 1 := by simp
  clear hv B1
  go_enter Tryz.func26, Tryz.ntmps26
  go_wp2_with fail
  generalize ((w.alloc (.cells #[.int .i64 c, v, .string x] 52)).alloc (.cells #[.int .i64 0, .slice none 0 0, .string ⟨#[]⟩] 45)) = W0 at HW0 hv0 hk0 hp0 hsz ⊢
  have HO : Hid (∀ W, Below W0.heap.size W0 W → Calls Tryz.prog 42 #[v] W fun e w' => ∃ a cp, e = .returned (.slice a fs.length cp) ∧ w'.ownsRow W0.heap.size 70 2 (.slice a fs.length cp) fs.length (fcells fs) ∧ Below W.heap.size W w') := Lib.hid (fun W hW => by
    refine (law_back_row v fs W (hv0.below hW) hlen).mono ?_
    rintro e w' ⟨v', rfl, h1, h2⟩
    obtain ⟨a, cp, rfl⟩ := own_fslice h1
    exact ⟨a, cp, rfl, own_lowerF h1 hW.size, h2⟩)
  obtain ⟨p0, p1, p2, -, -, -⟩ := three_facts hp0
  obtain ⟨k0, k1, k2, f0, f1, f2⟩ := three_facts hk0
  have HS : Hid (∀ W, Below (w.heap.size + 1) W0 W → W.cell? ⟨w.heap.size, 0, none⟩ = some (.int .i64 c) ∧ W.cell? ⟨w.heap.size, 1, none⟩ = some v ∧ W.cell? ⟨w.heap.size, 2, none⟩ = some (.string x)) := Lib.hid (fun W hW => by
    have l0 : w.heap.size < w.heap.size + 1 := by omega
    exact ⟨(hW.cell (p := ⟨_, 0, none⟩) l0).trans p0, (hW.cell (p := ⟨_, 1, none⟩) l0).trans p1, (hW.cell (p := ⟨_, 2, none⟩) l0).trans p2⟩)
  have HK : Hid (∀ W, Below W0.heap.size W0 W → W.heap[w.heap.size + 1]? = some (.cells #[.int .i64 0, .slice none 0 0, .string ⟨#[]⟩] 45 (0, 0))) := Lib.hid (fun W hW => (hW.block (w.heap.size + 1) (by omega)).trans hk0)
  have HSZ := Lib.hid hsz
  clear hv0 hk0 hp0 hsz
  have hz1 : w.heap.size + 1 ≤ W0.heap.size := by have := HSZ.out; omega
  clear k0 k1 k2 f0 f1 f2 p0 p1 p2
  go_region_held3 (fun w' => w'.cell? ⟨w.heap.size, 0, none⟩ = some (.int .i64 c) ∧ w'.cell? ⟨w.heap.size, 1, none⟩ = some v ∧ w'.cell? ⟨w.heap.size, 2, none⟩ = some (.string x)) (first | exact HS.out _ (Below.refl _ _).drew | exact HS.out _ (HA1.out.mono hz1) | exact HS.out _ (three_below (HA1.out.mono hz1) _ (Nat.le_refl _) _ _ _))
    (first
      | (go_at_call 42; refine (HO.out _ (Below.refl _ _).drew).mono ?_; rintro e wx ⟨ax, cx, rfl, hox, hbx⟩; have HA1 : Hid (Below W0.heap.size W0 wx) := Lib.hid (bstep (Below.refl _ _).drew hbx); have HOX := Lib.hid hox; obtain ⟨k0, k1, k2, f0, f1, f2⟩ := three_facts (HK.out _ HA1.out); clear hox hbx))
  clear k0 k1 k2 f0 f1 f2
  go_wp2_with fail
  refine ret_cell (A := ⟨w.heap.size + 1, 0, none⟩) rfl (load_rrep _ _ _ _ _ _ (three_set (HK.out _ HA1.out) _ _ _)) rfl rfl ?_
  have hl : w.heap.size + 1 < W0.heap.size := by have := HSZ.out; omega
  exact ⟨ax, cx, rfl, own_lowerF (ownsRow_setCell_below (ownsRow_setCell_below (ownsRow_setCell_below HOX.out (a := ⟨w.heap.size + 1, 0, none⟩) hl _) (a := ⟨w.heap.size + 1, 1, none⟩) hl _) (a := ⟨w.heap.size + 1, 2, none⟩) hl _) (by omega), three_below (bstep HW0.out HA1.out) _ (by omega) _ _ _⟩
end Go.Proofs.YtdihhbkajcngeaaGreatDoor
namespace Go.Proofs.YtdihhbkajcngeaaGreatDoor
open Go.RowKit
/-- a reply of the program's that lies in a block -/
structure PAt (w : World) (b : Nat) (c : Int) (a : Option Addr) (n cp : Nat) (fs : List (List UInt8 × List UInt8)) (x : ByteArray) : Prop where
  blk : w.heap[b]? = some (.cells #[.int .i64 c, .slice a n cp, .string x] 52 (0, 0))
  own : ∃ B, w.ownsRow B 73 2 (.slice a n cp) n (fcells fs)
theorem PAt.lt {w : World} {b : Nat} {c : Int} {a : Option Addr} {n cp : Nat} {fs : List (List UInt8 × List UInt8)} {x : ByteArray} (h : PAt w b c a n cp fs x) : b < w.heap.size := (Array.getElem?_eq_some_iff.1 h.blk).1
theorem PAt.below {w w' : World} {b : Nat} {c : Int} {a : Option Addr} {n cp : Nat} {fs : List (List UInt8 × List UInt8)} {x : ByteArray} (h : PAt w b c a n cp fs x) (hb : Below w.heap.size w w') : PAt w' b c a n cp fs x :=
  ⟨(hb.block b h.lt).trans h.blk, let ⟨B, hB⟩ := h.own; ⟨B, own_keep hB hb⟩⟩
theorem PAt.alloc {w : World} {b : Nat} {c : Int} {a : Option Addr} {n cp : Nat} {fs : List (List UInt8 × List UInt8)} {x : ByteArray} (h : PAt w b c a n cp fs x) (o : Obj) : PAt (w.alloc o) b c a n cp fs x := h.below ((Below.refl _ _).alloc (Nat.le_refl _) o)
theorem PAt.holds {w : World} {b : Nat} {c : Int} {a : Option Addr} {n cp : Nat} {fs : List (List UInt8 × List UInt8)} {x : ByteArray} (h : PAt w b c a n cp fs x) : HoldsF w (.slice a n cp) fs := let ⟨_, hB⟩ := h.own; HoldsF.of_own hB
theorem PAt.new {w : World} {B : Nat} {c : Int} {a : Option Addr} {n cp : Nat} {fs : List (List UInt8 × List UInt8)} {x : ByteArray} (h : w.ownsRow B 73 2 (.slice a n cp) n (fcells fs)) :
    PAt (w.alloc (.cells #[.int .i64 c, .slice a n cp, .string x] 52)) w.heap.size c a n cp fs x :=
  ⟨heap_alloc_new w _, B, own_keep h ((Below.refl _ _).alloc (Nat.le_refl _) _)⟩
def ParseAt (C n : Int) (F : List (List UInt8 × List UInt8)) (B : ByteArray) (E : Nat) (w : World) (e : Ending) (w' : World) : Prop :=
  ∃ a cp, e = .returned (.tuple #[.agg #[.int .i64 C, .slice a F.length cp, .string B], .int .i64 n, .int .i64 (E : Nat)]) ∧ w'.ownsRow w.heap.size 73 2 (.slice a F.length cp) F.length (fcells F) ∧ Below w.heap.size w w'
theorem parse_is (s : ByteArray) (most : Int) (C n : Int) (F : List (List UInt8 × List UInt8)) (B : ByteArray) (E : Nat) (h : takE s most = E ∧ takC s most = C ∧ takF s most = F ∧ bs (takB s most) = B ∧ takN s most = n) (w : World) (hs : s.size ≤ 1000000) (hE : EnvF w) :
    Calls Tryz.prog 22 #[.string s, .int .i64 most] w (ParseAt C n F B E w) := by
  obtain ⟨rfl, rfl, rfl, rfl, rfl⟩ := h
  refine (reply_parse s most w hs hE).mono ?_
  rintro e w' ⟨fv, rfl, h1, h2⟩
  obtain ⟨a, cp, rfl⟩ := own_fslice h1
  exact ⟨a, cp, rfl, h1, h2⟩
theorem parse_err (s : ByteArray) (most : Int) (E : Nat) (h : takE s most = E) (h0 : E ≠ 0) (w : World) (hs : s.size ≤ 1000000) (hE : EnvF w) :
    Calls Tryz.prog 22 #[.string s, .int .i64 most] w (ParseAt 0 0 [] ⟨#[]⟩ E w) := by
  obtain ⟨h1, h2, h3, h4⟩ := tak_bad s most (by rw [h]; exact h0)
  exact parse_is s most 0 0 [] ⟨#[]⟩ E ⟨h, h1, h2, by rw [h3]; rfl, h4⟩ w hs hE
def PrintAt (S : ByteArray) (E : Nat) (w : World) (e : Ending) (w' : World) : Prop := e = .returned (.tuple #[.string S, .int .i64 (E : Nat)]) ∧ Below w.heap.size w w'
def aw26 : List UInt8 := [72, 84, 84, 80, 47, 49, 46, 49, 32, 52, 48, 52, 32, 78, 111, 116, 32, 70, 111, 117, 110, 100, 13, 10, 67, 111, 110, 116, 101, 110, 116, 45, 76, 101, 110, 103, 116, 104, 58, 32, 49, 13, 10, 13, 10, 120]
theorem aw_e : repE 404 [] = 0 := by decide +kernel
theorem aw_st : (printOf 404).data.toList = [72, 84, 84, 80, 47, 49, 46, 49, 32, 52, 48, 52, 32, 78, 111, 116, 32, 70, 111, 117, 110, 100] := by
  rw [printOf_line 404 (by decide) (by decide)]
  exact (statusLine_data 404 (by decide) (by decide)).trans (by decide +kernel)
theorem aw_ln : printL clen (digL 1) = [67, 111, 110, 116, 101, 110, 116, 45, 76, 101, 110, 103, 116, 104, 58, 32, 49] := by
  rw [show (1 : Int) = ((1 : Nat) : Int) from rfl, digL_nat, Go.Lib.decDigits_one (by decide)]
  decide +kernel
theorem aw_s : repL 404 [] [120] = aw26 := by
  unfold repL repLines
  rw [aw_st, show (([120] : List UInt8).length : Int) = 1 from rfl, aw_ln]
  decide +kernel
theorem aw_p : bs (repS 404 [] (ByteArray.mk #[120]).data.toList) = bs aw26 ∧ repE 404 [] = 0 := by
  refine ⟨?_, aw_e⟩
  unfold repS
  rw [if_pos aw_e]
  exact congrArg bs aw_s
theorem aw_t : takE (bs aw26 ++ ⟨#[121]⟩) 1 = 0 ∧ takC (bs aw26 ++ ⟨#[121]⟩) 1 = 404 ∧ takF (bs aw26 ++ ⟨#[121]⟩) 1 = [] ∧ bs (takB (bs aw26 ++ ⟨#[121]⟩) 1) = ⟨#[120]⟩ ∧ takN (bs aw26 ++ ⟨#[121]⟩) 1 = 46 := by
  obtain ⟨h1, h2, h3, h4, h5⟩ := rep_take 404 [] [120] [121] (bs aw26 ++ ⟨#[121]⟩) 1 aw_e (by decide) (by rw [aw_s, ByteArray.data_append, Array.toList_append, bs_data]) (by decide)
  refine ⟨h1, h2, h3, by rw [h4]; rfl, ?_⟩
  rw [h5, aw_s]; rfl
theorem aw_l : takE (bs aw26) 0 = 5 := rep_long 404 [] [120] [] (bs aw26) 0 aw_e (by decide) (by rw [aw_s, bs_data, List.append_nil]) (by decide)
theorem aw_h : takE ⟨#[72, 84, 84, 80, 47, 49, 46, 49, 32, 50, 48, 48, 32, 79, 75, 13, 10, 13, 10]⟩ 9 = 6 := by decide +kernel
theorem aw_i : bs (repS 99 [] (ByteArray.mk #[]).data.toList) = ⟨#[]⟩ ∧ repE 99 [] = 8 := ⟨rfl, rfl⟩
theorem aw_same : sameR 404 404 [120] [120] [] [] = true ∧ sameR 404 0 [120] [] [] [] = false := by decide +kernel
theorem aw_sz : (bs aw26).size = 46 := rfl
theorem aw_T (w : World) (hE : EnvF w) : Calls Tryz.prog 22 #[.string (bs aw26 ++ ⟨#[121]⟩), .int .i64 1] w (ParseAt 404 46 [] ⟨#[120]⟩ 0 w) := by
  obtain ⟨h1, h2, h3, h4, h5⟩ := aw_t
  exact parse_is _ _ _ _ _ _ _ ⟨h1, h2, h3, h4, h5⟩ w (by rw [ByteArray.size_append, aw_sz]; decide) hE
theorem nil_own (w : World) : w.ownsRow 0 73 2 (.slice none 0 0) 0 (fcells []) := World.ownsRow_nil _ _ _ _
end Go.Proofs.YtdihhbkajcngeaaGreatDoor
namespace Go.Proofs.YtdihhbkajcngeaaGreatDoor
open Go.RowKit
theorem overR_false (fs : List (List UInt8 × List UInt8)) (b : ByteArray) (h : overR fs b = false) : fs.length ≤ 20 ∧ (∀ f ∈ fs, f.1.length ≤ 400 ∧ f.2.length ≤ 400) ∧ b.size ≤ 500 := by
  unfold overR overF at h
  simp only [Bool.or_eq_false_iff, decide_eq_false_iff_not, List.any_eq_false] at h
  obtain ⟨⟨h1, h2⟩, h3⟩ := h
  refine ⟨by omega, fun f hf => ?_, by omega⟩
  have := h1 f hf
  unfold longF at this
  simp only [Bool.or_eq_true, decide_eq_true_eq, not_or] at this
  omega
/-- a reply of the document's that lies in a block -/
structure QAt (w : World) (b : Nat) (c : Int) (v : Value) (fs : List (List UInt8 × List UInt8)) (x : ByteArray) : Prop where
  blk : w.heap[b]? = some (.cells #[.int .i64 c, v, .string x] 45 (0, 0))
  hold : HoldsF w v fs
theorem QAt.lt {w : World} {b : Nat} {c : Int} {v : Value} {fs : List (List UInt8 × List UInt8)} {x : ByteArray} (h : QAt w b c v fs x) : b < w.heap.size := (Array.getElem?_eq_some_iff.1 h.blk).1
theorem QAt.below {w w' : World} {b : Nat} {c : Int} {v : Value} {fs : List (List UInt8 × List UInt8)} {x : ByteArray} (h : QAt w b c v fs x) (hb : Below w.heap.size w w') : QAt w' b c v fs x :=
  ⟨(hb.block b h.lt).trans h.blk, h.hold.below hb⟩
theorem QAt.new {w : World} {c : Int} {v : Value} {fs : List (List UInt8 × List UInt8)} {x : ByteArray} (h : HoldsF w v fs) :
    QAt (w.alloc (.cells #[.int .i64 c, v, .string x] 45)) w.heap.size c v fs x :=
  ⟨heap_alloc_new w _, h.below ((Below.refl _ _).alloc (Nat.le_refl _) _)⟩
theorem QAt.alloc {w : World} {b : Nat} {c : Int} {v : Value} {fs : List (List UInt8 × List UInt8)} {x : ByteArray} (h : QAt w b c v fs x) (o : Obj) : QAt (w.alloc o) b c v fs x := h.below ((Below.refl _ _).alloc (Nat.le_refl _) o)
theorem QAt.cells {w : World} {b : Nat} {c : Int} {v : Value} {fs : List (List UInt8 × List UInt8)} {x : ByteArray} (h : QAt w b c v fs x) : w.cell? ⟨b, 0, none⟩ = some (.int .i64 c) ∧ w.cell? ⟨b, 1, none⟩ = some v ∧ w.cell? ⟨b, 2, none⟩ = some (.string x) :=
  let ⟨h0, h1, h2, _⟩ := three_facts h.blk; ⟨h0, h1, h2⟩
end Go.Proofs.YtdihhbkajcngeaaGreatDoor
namespace Go.Proofs.YtdihhbkajcngeaaGreatDoor
open Go.RowKit
def RParseAt (C n : Int) (F : List (List UInt8 × List UInt8)) (B : ByteArray) (E : Nat) (w : World) (e : Ending) (w' : World) : Prop :=
  ∃ a cp, e = .returned (.tuple #[.agg #[.int .i64 C, .slice a F.length cp, .string B], .int .i64 n, .int .i64 (E : Nat)]) ∧ HoldsF w' (.slice a F.length cp) F ∧ Below w.heap.size w w'
theorem rparse_is (s : ByteArray) (most : Int) (C n : Int) (F : List (List UInt8 × List UInt8)) (B : ByteArray) (E : Nat) (h : takE s most = E ∧ takC s most = C ∧ takF s most = F ∧ bs (takB s most) = B ∧ takN s most = n) (w : World) (hs : s.size ≤ 1000000) :
    Calls Tryz.prog 24 #[.string s, .int .i64 most] w (RParseAt C n F B E w) := by
  obtain ⟨rfl, rfl, rfl, rfl, rfl⟩ := h
  refine (ref_rparse s most w hs).mono ?_
  rintro e w' ⟨fv, rfl, ⟨B1, h1⟩, h2⟩
  obtain ⟨a, cp, rfl⟩ := own_fslice h1
  exact ⟨a, cp, rfl, HoldsF.of_own h1, h2⟩
theorem takF_len (s : ByteArray) (most : Int) : (takF s most).length ≤ 17 := by
  unfold takF
  split
  · refine Nat.le_trans (restF_len _) ?_
    unfold fldL
    rw [List.length_map, List.length_tail]
    have := (headOf_bound s).2
    omega
  · exact Nat.zero_le _
theorem PAt.cells {w : World} {b : Nat} {c : Int} {a : Option Addr} {n cp : Nat} {fs : List (List UInt8 × List UInt8)} {x : ByteArray} (h : PAt w b c a n cp fs x) : w.cell? ⟨b, 0, none⟩ = some (.int .i64 c) ∧ w.cell? ⟨b, 1, none⟩ = some (.slice a n cp) ∧ w.cell? ⟨b, 2, none⟩ = some (.string x) :=
  let ⟨h0, h1, h2, _⟩ := three_facts h.blk; ⟨h0, h1, h2⟩
theorem sameR_refl (c : Int) (x : List UInt8) (fs : List (List UInt8 × List UInt8)) : sameR c c x x fs fs = true := by unfold sameR; simp
end Go.Proofs.YtdihhbkajcngeaaGreatDoor
namespace Go.Proofs.YtdihhbkajcngeaaGreatDoor
open Go.RowKit Go.Shelf Go.Lib
/-- a row of replies; the rows of their fields -/
def QOwn (w : World) (B : Nat) (v : Value) (rs : List (Int × List (List UInt8 × List UInt8) × List UInt8)) : Prop :=
  ∃ fs : List Value, fs.length = rs.length ∧ w.ownsRow B 45 3 v rs.length (rcells rs fs) ∧ ∀ j (hj : j < rs.length) (hf : j < fs.length), ∃ a c, fs[j] = .slice a (rs[j].2.1).length c ∧ w.ownsRow 0 70 2 fs[j] (rs[j].2.1).length (fcells rs[j].2.1)
theorem QOwn.nil (w : World) (B : Nat) : QOwn w B (.slice none 0 0) [] := ⟨[], rfl, World.ownsRow_nil _ _ _ _, fun j hj => absurd hj (Nat.not_lt_zero _)⟩
theorem QOwn.form {w : World} {B : Nat} {v : Value} {rs : List (Int × List (List UInt8 × List UInt8) × List UInt8)} (h : QOwn w B v rs) : ∃ a c, v = .slice a rs.length c := by
  obtain ⟨fs, h1, h2, h3⟩ := h
  exact slice_of_own h2
/-- one reply of a row -/
theorem QOwn.at {w : World} {B g n cp : Nat} {rs : List (Int × List (List UInt8 × List UInt8) × List UInt8)} (h : QOwn w B (.slice (some ⟨g, 0, none⟩) n cp) rs) (j : Nat) (hj : j < rs.length) :
    ∃ a c, w.cell? ⟨g, j * 3, none⟩ = some (.int .i64 rs[j].1) ∧ w.cell? ⟨g, j * 3 + 1, none⟩ = some (.slice a (rs[j].2.1).length c) ∧ w.cell? ⟨g, j * 3 + 2, none⟩ = some (.string (bs rs[j].2.2)) ∧ w.ownsRow 0 70 2 (.slice a (rs[j].2.1).length c) (rs[j].2.1).length (fcells rs[j].2.1) ∧ g < w.heap.size := by
  obtain ⟨fs, h1, h2, h3⟩ := h
  obtain ⟨a, c, e1, e2⟩ := h3 j hj (by omega)
  obtain ⟨g1, g2, g3⟩ := rcells_get rs fs h1 j hj
  have e0 : ∀ k, (⟨g, 0, none⟩ : Addr).add k = ⟨g, k, none⟩ := fun k => by unfold Addr.add; split <;> simp_all
  have k1 := h2.cells (g := g) rfl _ _ g1
  have k2 := h2.cells (g := g) rfl _ _ g2
  have k3 := h2.cells (g := g) rfl _ _ g3
  rw [e0] at k1 k2 k3
  rw [e1] at k2 e2
  exact ⟨a, c, k1, k2, k3, e2, (h2.lt g rfl).2⟩
theorem info_refreply : (Tryz.prog.info? 45).map (fun i => (i.zero, i.size, i.bytes)) = some (some (.agg #[.int .i64 0, .slice none 0 0, .string ByteArray.empty]), 3, 48) := by kernel_rfl
/-- a reply is appended -/
theorem append_refreply {ops : Array Oper} {rest : List Oper} {o : Oper} {a : Act} {Q : Exit → Act → World → Prop} (w0 : World) (c : Int) (af : Option Addr) (cf : Nat) (F : List (List UInt8 × List UInt8)) (B : ByteArray) (hgd : o.guard = none) (s x : Operand)
    (ho : o.op = .call { callee := .builtin .append, args := #[s, x], argTypes := #[34, 34] })
    (base : Nat) (v : Value) (rs : List (Int × List (List UInt8 × List UInt8) × List UInt8)) (hs : a.eval s = v) (hown : QOwn w0 base v rs) (r : Int × List (List UInt8 × List UInt8) × List UInt8) (hr : r.1 = c ∧ r.2.1 = F ∧ bs r.2.2 = B) (hF : w0.ownsRow 0 70 2 (.slice af F.length cf) F.length (fcells F))
    (hx : a.eval x = .slice (some ⟨w0.heap.size, 0, none⟩) 1 1) (hn : rs.length < 2147483648) (hbase : base ≤ w0.heap.size)
    (h : ∀ g n cap w', QOwn w' base (.slice (some ⟨g, 0, none⟩) n cap) (rs ++ [r]) → w0.grownBy w' v.ownBlock → wpList Tryz.prog ops Q rest (a.put o.dst (.slice (some ⟨g, 0, none⟩) n cap)) w') :
    wpList Tryz.prog ops Q (o :: rest) a (w0.alloc (.cells #[.int .i64 c, .slice af F.length cf, .string B] 45)) := by
  obtain ⟨i0, hi, hz0, hz1, hz2⟩ := info_parts info_refreply
  obtain ⟨fs, h1, h2, h3⟩ := hown
  obtain ⟨r1, r2, r3⟩ := hr
  refine wpList_append_lies _ hgd s x 34 ho base 45 i0 _ 3 48 Tryz.underlying34 hi hz0 hz1 hz2 rfl (by decide) v rs.length (rcells rs fs) hs (h2.alloc _) ⟨w0.heap.size, 0, none⟩ 1 1 [.int .i64 c, .slice af F.length cf, .string B] hx rfl (World.news_of_block (heap_alloc_new w0 _)) (by simp [Value.oneCell']) (by decide) (by unfold maxLen; omega) (by omega) (by simp; omega) _ rfl ?_
  intro g cap w' k2 k3 k4 k5
  have hg : w0.grownBy w' v.ownBlock := ⟨k3.os, k3.tape, k3.output, Nat.le_trans (by simp) k3.size, fun k hk hne => (k3.block k (by simp; omega) hne).trans (heap_alloc_old w0 _ hk)⟩
  have keepF : ∀ u n ys, w0.ownsRow 0 70 2 u n ys → w'.ownsRow 0 70 2 u n ys := fun u n ys hu => own_of_block hu (fun g' hg' => hg.block g' (hu.lt g' hg').2 (fun e => by
    rcases own_apart hu h2 (by decide) with hh | hh
    · rw [hh] at hg'; cases hg'
    · exact hh (by rw [hg', e])))
  refine h g _ cap w' ⟨fs ++ [.slice af F.length cf], by rw [List.length_append, List.length_append, h1]; rfl, ?_, fun j hj hf => ?_⟩ hg
  · rw [rcells_snoc rs r _ fs h1, r1, r3, List.length_append]
    exact k2
  · by_cases hj2 : j < rs.length
    · obtain ⟨a, c, e1, e2⟩ := h3 j hj2 (by omega)
      rw [List.getElem_append_left hj2, List.getElem_append_left (by omega)]
      exact ⟨a, c, e1, keepF _ _ _ e2⟩
    · have hjl : j = rs.length := by simp at hj; omega
      subst hjl
      have e1 : (fs ++ [.slice af F.length cf])[rs.length]'hf = .slice af F.length cf := by
        rw [List.getElem_append_right (by omega)]; simp [h1]
      have e2 : (rs ++ [r])[rs.length]'hj = r := by
        rw [List.getElem_append_right (by omega)]; simp
      rw [e1, e2, r2]
      exact ⟨af, cf, rfl, keepF _ _ _ hF⟩
theorem QOwn.below {w w' : World} {B : Nat} {v : Value} {rs : List (Int × List (List UInt8 × List UInt8) × List UInt8)} (h : QOwn w B v rs) (hb : Below w.heap.size w w') : QOwn w' B v rs := by
  obtain ⟨fs, h1, h2, h3⟩ := h
  refine ⟨fs, h1, own_of_block h2 (fun g hg => hb.block g (h2.lt g hg).2), fun j hj hf => ?_⟩
  obtain ⟨a, c, e1, e2⟩ := h3 j hj hf
  exact ⟨a, c, e1, own_of_block e2 (fun g hg => hb.block g (e2.lt g hg).2)⟩
end Go.Proofs.YtdihhbkajcngeaaGreatDoor
namespace Go.Proofs.YtdihhbkajcngeaaGreatDoor
open Go.RowKit Go.Shelf Go.Lib
/-- what Put leaves -/
def FPost (p : Nat) (m : Int) (v : Value) (R : List (Int × List (List UInt8 × List UInt8) × List UInt8) × List UInt8 × Nat) (w : World) (r : Ending) (w' : World) : Prop :=
  ∃ rv v', r = .returned (.tuple #[rv, .int .i64 (R.2.2 : Nat)]) ∧ FAt w' p m R.2.1 R.2.2 v' ∧ ROwn w' w.heap.size rv R.1 ∧ Touch (FS p v) w w' ∧ (∀ g, v'.ownBlock = some g → v.ownBlock = some g ∨ w.heap.size ≤ g)
structure PRel (w wr : World) (p : Nat) (m : Int) (v : Value) (L0 : List UInt8) (so : Value) (l1 : List UInt8) (v1 : Value) (rs : List (Int × List (List UInt8 × List UInt8) × List UInt8)) : Prop where
  fat : FAt wr p m l1 0 v1
  own : ROwn wr w.heap.size so rs
  tch : Touch (FS p v) w wr
  new : ∀ g, v1.ownBlock = some g → v.ownBlock = some g ∨ w.heap.size ≤ g
  eq : feedOf m L0 = (rs ++ (feedOf m l1).1, (feedOf m l1).2)
  len : rs.length + l1.length ≤ L0.length
theorem FS.sub {p : Nat} {v v1 : Value} {w : World} (h : ∀ g, v1.ownBlock = some g → v.ownBlock = some g ∨ w.heap.size ≤ g) : ∀ g, FS p v1 g → FS p v g ∨ w.heap.size ≤ g := fun g hg => by
  rcases hg with hg | hg
  · exact .inl (.inl hg)
  · exact (h g hg).elim (fun h => .inl (.inr h)) .inr
theorem PRel.below {w wr wr' : World} {p : Nat} {m : Int} {v so v1 : Value} {L0 l1 : List UInt8} {rs : List (Int × List (List UInt8 × List UInt8) × List UInt8)} (h : PRel w wr p m v L0 so l1 v1 rs) (hb : Below wr.heap.size wr wr') : PRel w wr' p m v L0 so l1 v1 rs :=
  ⟨h.fat.below hb, h.own.keep (TagKeep.of_below hb), h.tch.trans (Touch.of_below (S := FS p v) hb) (fun _ hg => .inl hg), h.new, h.eq, h.len⟩
theorem PRel.short {w wr : World} {p : Nat} {m : Int} {v so v1 : Value} {L0 l1 : List UInt8} {rs : List (Int × List (List UInt8 × List UInt8) × List UInt8)} (h : PRel w wr p m v L0 so l1 v1 rs) (h3 : takE (bs l1) m = 3) :
    FPost p m v (feedOf m L0) w (.returned (.tuple #[so, .int .i64 0])) wr := by
  have e := h.eq
  rw [feed_short m l1 h3, List.append_nil] at e
  rw [e]
  exact ⟨so, v1, rfl, h.fat, h.own, h.tch, h.new⟩
theorem PRel.bad {w wr : World} {p : Nat} {m : Int} {v so v1 : Value} {L0 l1 : List UInt8} {rs : List (Int × List (List UInt8 × List UInt8) × List UInt8)} {E : Nat} (h : PRel w wr p m v L0 so l1 v1 rs) (hE : takE (bs l1) m = E) (h0 : E ≠ 0) (h3 : E ≠ 3) :
    FPost p m v (feedOf m L0) w (.returned (.tuple #[so, .int .i64 (E : Nat)])) ((wr.setCell ⟨p, 2, none⟩ (.slice none 0 0)).setCell ⟨p, 3, none⟩ (.int .i64 (E : Nat))) := by
  have e := h.eq
  rw [feed_bad m l1 (by rw [hE]; exact h0) (by rw [hE]; exact h3), List.append_nil, hE] at e
  have ht : Touch (FS p v1) wr ((wr.setCell ⟨p, 2, none⟩ (.slice none 0 0)).setCell ⟨p, 3, none⟩ (.int .i64 (E : Nat))) := touch_set _ (touch_set _ (Touch.refl _ _) (.inl (.inl rfl))) (.inl (.inl rfl))
  rw [e]
  exact ⟨so, .slice none 0 0, rfl, ⟨row_set5 (row_set4 h.fat.blk _) _, World.ownsRow_nil _ _ _ _⟩, h.own.keep (h.fat.tag ht), h.tch.trans ht (FS.sub h.new), (fun g hg => by cases hg)⟩
theorem PRel.grown {w wr w6 : World} {p : Nat} {m : Int} {v so v1 : Value} {L0 l1 : List UInt8} {rs : List (Int × List (List UInt8 × List UInt8) × List UInt8)} (h : PRel w wr p m v L0 so l1 v1 rs) (hg : wr.grownBy w6 so.ownBlock) :
    FAt w6 p m l1 0 v1 ∧ Touch (FS p v) w w6 := by
  obtain ⟨fs, f1, f2, f3⟩ := h.own
  have hso : ∀ g, so.ownBlock = some g → w.heap.size ≤ g := fun g hg => (f2.lt g hg).1
  refine ⟨h.fat.keep (fun g hgs => hg.block g (h.fat.slt g hgs) (fun e => ?_)), h.tch.trans (S' := fun g => so.ownBlock = some g) (Touch.of_grown hg (fun g hg => .inl hg)) (fun g hg => .inr (hso g hg))⟩
  rcases hgs with rfl | hgs
  · exact own_not_row f2 h.fat.blk (by decide) e.symm
  · rcases own_apart h.fat.own f2 (by decide) with hh | hh
    · rw [hh] at hgs; cases hgs
    · exact hh (by rw [hgs, e])
theorem PRel.step {w wr w6 w7 : World} {p : Nat} {m : Int} {v so so' v1 v2 : Value} {L0 l1 : List UInt8} {rs : List (Int × List (List UInt8 × List UInt8) × List UInt8)} (h : PRel w wr p m v L0 so l1 v1 rs) (hg : wr.grownBy w6 so.ownBlock) (h0 : takE (bs l1) m = 0)
    (ho : ROwn w6 w.heap.size so' (rs ++ [(takC (bs l1) m, takF (bs l1) m, takB (bs l1) m)])) (hf : FAt w7 p m (l1.drop (takN (bs l1) m).toNat) 0 v2) (ht : Touch (fun g => g = p) w6 w7) (hn : ∀ g, v2.ownBlock = some g → w6.heap.size ≤ g) :
    PRel w w7 p m v L0 so' (l1.drop (takN (bs l1) m).toNat) v2 (rs ++ [(takC (bs l1) m, takF (bs l1) m, takB (bs l1) m)]) := by
  obtain ⟨g1, g2⟩ := h.grown hg
  obtain ⟨n1, n2, n3⟩ := tak_n l1 m h0
  have he := h.eq
  have hl := h.len
  refine ⟨hf, ho.keep (g1.tag (ht.mono (fun g hg => .inl hg))), g2.trans ht (fun g hg => .inl (.inl hg)), fun g hg => .inr (Nat.le_trans g2.size (hn g hg)), ?_, ?_⟩
  · rw [he, feed_more m l1 h0, List.append_assoc]; rfl
  · rw [List.length_append, List.length_drop, List.length_singleton]; omega
/-- the cells that Put's region reads -/
def PutS (p : Nat) (m : Int) (x : Value) (S : ByteArray) (w' : World) : Prop := w'.cell? ⟨p, 2, none⟩ = some x ∧ w'.cell? ⟨p, 1, none⟩ = some (.int .i64 m) ∧ (convert 53 9 x).run Tryz.prog w' = .ok (.string S) w'
theorem PRel.reads {w wr : World} {p : Nat} {m : Int} {v so v1 : Value} {L0 l1 : List UInt8} {rs : List (Int × List (List UInt8 × List UInt8) × List UInt8)} (h : PRel w wr p m v L0 so l1 v1 rs) : ∀ W, Below wr.heap.size wr W → PutS p m v1 (bs l1) W := fun W hW => by
  have hF := h.fat.below hW
  obtain ⟨-, c1, c2, -, -, -⟩ := hF.cells
  exact ⟨c2, c1, conv_own W v1 l1 hF.own⟩
set_option maxRecDepth 100000 in
set_option maxHeartbeats 4000000 in
theorem feed_put_bad {p : Nat} {m : Int} {l : List UInt8} {e : Nat} {v : Value} {w : World} (s : ByteArray) (h : FAt w p m l e v) (he : e ≠ 0) :
    Calls Tryz.prog 10 #[.pointer (some ⟨p, 0, none⟩), .string s] w (FPost p m v ([], l, e) w) := by
  have HN := Lib.hid (feed_none_at h)
  obtain ⟨c0, c1, c2, c3, f2, f3⟩ := h.cells
  have HH := Lib.hid h
  have tz : ((e : Int) != 0) = true := by rw [bne_iff_ne]; omega
  have tz2 : ¬ (e = 0) := he
  clear he h
  go_enter Tryz.func10, Tryz.ntmps10
  go_wp2_with fail
  refine HN.out.mono ?_
  rintro r w' ⟨rfl, hww⟩
  obtain rfl := hww.symm
  go_wp2_with fail
  go_quiet (fail)
  have hbq : Below w.heap.size w (w.drewN nq) := ⟨rfl, rfl, rfl, Nat.le_refl _, fun _ _ => rfl⟩
  go_wp2_with fail
  go_ret2
  exact ⟨.slice none 0 0, v, rfl, HH.out.below hbq, ROwn.nil _ _, Touch.of_below hbq, fun g hg => .inl hg⟩
end Go.Proofs.YtdihhbkajcngeaaGreatDoor
namespace Go.Proofs.YtdihhbkajcngeaaGreatDoor
open Go.RowKit Go.Shelf Go.Lib
theorem three_block {w : World} {b : Nat} {x y z : Value} {t : TypeId} (h : w.heap[b]? = some (.cells #[x, y, z] t (0, 0))) (x' y' z' : Value) : (((w.setCell ⟨b, 0, none⟩ x').setCell ⟨b, 1, none⟩ y').setCell ⟨b, 2, none⟩ z').heap[b]? = some (.cells #[x', y', z'] t (0, 0)) := by
  simp [World.setCell, Array.getElem?_modify, h]
/-- what Put's region hands over: a reply in a block -/
def Seven (wr W : World) (q : Nat) (C : Int) (a : Option Addr) (cc : Nat) (F : List (List UInt8 × List UInt8)) (B : ByteArray) : Prop :=
  W.heap[q]? = some (.cells #[.int .i64 C, .slice a F.length cc, .string B] 52 (0, 0)) ∧ Below wr.heap.size wr W ∧ W.ownsRow 0 73 2 (.slice a F.length cc) F.length (fcells F)
theorem seven_one {wr wc : World} {b : Nat} {C : Int} {a : Option Addr} {cc : Nat} {F : List (List UInt8 × List UInt8)} {B : ByteArray} (h : Below wr.heap.size wr wc) (ho : wc.ownsRow b 73 2 (.slice a F.length cc) F.length (fcells F)) :
    Seven wr (wc.alloc (.cells #[.int .i64 C, .slice a F.length cc, .string B] 52)) wc.heap.size C a cc F B :=
  ⟨heap_alloc_new wc _, h.alloc h.size _, (own_mono ho (Nat.zero_le _)).alloc _⟩
theorem seven_two {wr wc : World} {b : Nat} {C : Int} {a : Option Addr} {cc : Nat} {F : List (List UInt8 × List UInt8)} {B : ByteArray} {x y z : Value} (h : Below wr.heap.size wr wc) (ho : wc.ownsRow b 73 2 (.slice a F.length cc) F.length (fcells F)) (hz : wc.heap[wr.heap.size]? = some (.cells #[x, y, z] 52 (0, 0))) :
    Seven wr (((wc.setCell ⟨wr.heap.size, 0, none⟩ (.int .i64 C)).setCell ⟨wr.heap.size, 1, none⟩ (.slice a F.length cc)).setCell ⟨wr.heap.size, 2, none⟩ (.string B)) wr.heap.size C a cc F B :=
  ⟨three_block hz _ _ _, three_below h _ (Nat.le_refl _) _ _ _, own_of_block (own_mono ho (Nat.zero_le _)) (fun g hg => by
    have hne : g ≠ wr.heap.size := fun e => own_not_row ho hz (by decide) (by rw [hg, e])
    exact (set_far (a := ⟨wr.heap.size, 2, none⟩) hne).trans ((set_far (a := ⟨wr.heap.size, 1, none⟩) hne).trans (set_far (a := ⟨wr.heap.size, 0, none⟩) hne)))⟩
set_option maxRecDepth 100000 in
set_option maxHeartbeats 8000000 in
theorem feed_put {p : Nat} {m : Int} {l : List UInt8} {v : Value} {w : World} (s : ByteArray) (h : FAt w p m l 0 v) (hE : ∀ W, Touch (FS p v) w W → EnvF W) (hl : l.length + s.size ≤ 1000000) :
    Calls Tryz.prog 10 #[.pointer (some ⟨p, 0, none⟩), .string s] w (FPost p m v (feedOf m (l ++ s.data.toList)) w) := by
  have HN := Lib.hid (feed_none_at h)
  obtain ⟨c0, c1, c2, c3, f2, f3⟩ := h.cells
  have HH := Lib.hid h
  have HE := Lib.hid hE
  have HL := Lib.hid (show l.length + s.size ≤ 4000000 by omega)
  obtain ⟨L0, hL0⟩ : ∃ L0, l ++ s.data.toList = L0 := ⟨_, rfl⟩
  have HL0 := Lib.hid hL0
  have HLL : Hid (L0.length ≤ 1000000) := Lib.hid (by rw [← hL0, List.length_append, size_len]; exact hl)
  have HSL := Lib.hid (fun a c n => (rfl : Value.slice a n c = Value.slice a n c))
  obtain ⟨av, cv, hv⟩ := slice_of_own h.own
  obtain ⟨ln, hln⟩ : ∃ ln, l.length = ln := ⟨_, rfl⟩
  rw [hln] at hv
  rw [hL0]
  clear hE h hl hL0 hln HSL
  subst hv
  go_enter Tryz.func10, Tryz.ntmps10
  go_wp2_with fail
  refine HN.out.mono ?_
  rintro r w' ⟨rfl, hww⟩
  obtain rfl := hww.symm
  clear HN
  go_wp2_with (at_builtin; go_loud (refine append_left w s HH.out HL.out (by rfl) _ _ (by rfl) (by rfl) (by rfl) ?_); intro a1 n1 k1 w1 c2' f2' hF1 ht1 hn1)
  have HR : Hid (PRel w (w1.setCell ⟨p, 2, none⟩ (.slice a1 n1 k1)) p m (.slice av ln cv) L0 (.slice none 0 0) L0 (.slice a1 n1 k1) []) := Lib.hid ⟨by rw [HL0.out] at hF1; exact hF1, ROwn.nil _ _, ht1, hn1, rfl, by simp⟩
  generalize w1.setCell ⟨p, 2, none⟩ (.slice a1 n1 k1) = w2 at HR ⊢
  clear c0 c1 c2 c3 f2 f3 c2' f2' hF1 ht1 hn1 HH HL HL0
  go_loopg [6] (L0.length + 1) (fun gk s6 wr => ∃ l1 v1 rs, l1.length < gk ∧ Hid (PRel w wr p m (.slice av ln cv) L0 s6 l1 v1 rs))
  case atStart => exact ⟨L0, _, [], by omega, HR⟩
  case round =>
    obtain ⟨l1, v1, rs, hlen, HRr⟩ := hrel
    obtain ⟨g', rfl⟩ : ∃ g', gk = g' + 1 := ⟨gk - 1, by omega⟩
    have hl1 : l1.length ≤ 1000000 := by have := HRr.out.len; have := HLL.out; omega
    have hEr := HE.out wr HRr.out.tch
    obtain ⟨S1, hS1⟩ : ∃ S1, bs l1 = S1 := ⟨_, rfl⟩
    have hS1s : S1.size ≤ 1000000 := by rw [← hS1, bs_size]; exact hl1
    obtain ⟨ax, cx, hvx⟩ := slice_of_own HRr.out.fat.own
    have HLX := Lib.hid (show l1.length ≤ 2000000 by omega)
    have hS2 := HRr.out.reads
    rw [hvx, hS1] at hS2
    obtain ⟨nx, hnx⟩ : ∃ nx, l1.length = nx := ⟨_, rfl⟩
    rw [hnx] at hS2 hvx hlen
    subst hvx
    have HS2 := Lib.hid hS2
    have HNX := Lib.hid hnx
    have HDr : Hid (Below wr.heap.size wr wr.drew) := Lib.hid (Below.refl _ _).drew
    have HA0 : Hid (Below wr.heap.size wr (wr.alloc (.cells #[.int .i64 0, .slice none 0 0, .string ⟨#[]⟩] 52)).drew) := Lib.hid ((Below.refl _ _).alloc (Nat.le_refl _) _).drew
    have HE1 := Lib.hid (hEr.below HDr.out)
    have HE2 := Lib.hid (hEr.below HA0.out)
    have HS1 := Lib.hid hS1
    have HS1s := Lib.hid hS1s
    obtain ⟨E, hE⟩ : ∃ E, takE S1 m = E := ⟨_, rfl⟩
    clear hS2 hnx hEr hl1 hS1 hS1s HR
    by_cases h0 : E = 0
    · subst h0
      obtain ⟨K, hK⟩ : ∃ K : Nat, takN S1 m = (K : Int) := ⟨_, by have := (tak_n l1 m (by rw [HS1.out]; exact hE)).2.2; rw [HS1.out] at this; exact this⟩
      obtain ⟨C, hC⟩ : ∃ C, takC S1 m = C := ⟨_, rfl⟩
      obtain ⟨F, hF⟩ : ∃ F, takF S1 m = F := ⟨_, rfl⟩
      obtain ⟨B, hB⟩ : ∃ B, bs (takB S1 m) = B := ⟨_, rfl⟩
      have HC1 := Lib.hid (parse_is S1 m C (K : Int) F B 0 ⟨hE, hC, hF, hB, hK⟩ wr.drew HS1s.out HE1.out)
      have HC2 := Lib.hid (parse_is S1 m C (K : Int) F B 0 ⟨hE, hC, hF, hB, hK⟩ _ HS1s.out HE2.out)
      have HX := Lib.hid (And.intro hE (And.intro hC (And.intro hF (And.intro hB hK))))
      unfold ParseAt at HC1 HC2
      clear hE hC hF hB hK HE1 HE2
      go_wp2_with fail
      unfold PutS at HS2
      go_region_held3 (fun w' => w'.cell? ⟨p, 2, none⟩ = some (.slice ax nx cx) ∧ w'.cell? ⟨p, 1, none⟩ = some (.int .i64 m) ∧ (convert 53 9 (.slice ax nx cx)).run Tryz.prog w' = .ok (.string S1) w') (first | exact HS2.out _ HDr.out | exact HS2.out _ HA0.out | exact HS2.out _ HA1.out | exact HS2.out _ (HA1.out.alloc HA1.out.size _) | exact HS2.out _ (three_below HA1.out _ (Nat.le_refl _) _ _ _) | exact HS2.out _ (three_below (HA1.out.alloc HA1.out.size _) _ HA1.out.size _ _ _))
        (first
          | (go_at_call 22; (first | (with_reducible refine HC1.out.mono ?_) | (with_reducible refine HC2.out.mono ?_)); rintro e wc ⟨ac, cc, rfl, hoc, hbc⟩; (first | (have HA1 : Hid (Below wr.heap.size wr wc) := Lib.hid (bstep HDr.out hbc)) | (have HA1 : Hid (Below wr.heap.size wr wc) := Lib.hid (bstep HA0.out hbc); have HZ := Lib.hid ((hbc.block wr.heap.size (by simp)).trans (heap_alloc_new wr _)); obtain ⟨z0, z1, z2, y0, y1, y2⟩ := three_facts HZ.out)); have HO1 := Lib.hid hoc; clear hoc hbc))
      all_goals
        first
          | (have H7 : Hid (Seven wr (((wc.setCell ⟨wr.heap.size, 0, none⟩ (.int .i64 C)).setCell ⟨wr.heap.size, 1, none⟩ (.slice ac F.length cc)).setCell ⟨wr.heap.size, 2, none⟩ (.string B)) wr.heap.size C ac cc F B) := Lib.hid (seven_two HA1.out HO1.out HZ.out)
             clear HZ z0 z1 z2 y0 y1 y2
             generalize (((wc.setCell ⟨wr.heap.size, 0, none⟩ (.int .i64 C)).setCell ⟨wr.heap.size, 1, none⟩ (.slice ac F.length cc)).setCell ⟨wr.heap.size, 2, none⟩ (.string B)) = W7 at H7 ⊢
             generalize wr.heap.size = q at H7 ⊢)
          | (have H7 : Hid (Seven wr (wc.alloc (.cells #[.int .i64 C, .slice ac F.length cc, .string B] 52)) wc.heap.size C ac cc F B) := Lib.hid (seven_one HA1.out HO1.out)
             generalize wc.alloc (.cells #[.int .i64 C, .slice ac F.length cc, .string B] 52) = W7 at H7 ⊢
             generalize wc.heap.size = q at H7 ⊢)
        clear HA1 HO1 HC1 HC2 HS2 HDr HA0
        obtain ⟨z0, z1, z2, -, -, -⟩ := three_facts H7.out.1
        have HR7 := Lib.hid (HRr.out.below H7.out.2.1)
        have HN1 : Hid (rs.length < 2147483648 ∧ w.heap.size ≤ W7.heap.size) := Lib.hid ⟨by have := HRr.out.len; have := HLL.out; omega, HR7.out.tch.size⟩
        obtain ⟨FL, hFL⟩ : ∃ FL, F.length = FL := ⟨_, rfl⟩
        have HFL := Lib.hid hFL
        rw [hFL] at z1 ⊢
        clear hFL HRr
        go_wp2_with (at_builtin; (rw [← HFL.out]); go_loud (refine append_reply W7 C ac cc F B (by rfl) _ _ (by rfl) w.heap.size u6 rs (by rfl) HR7.out.own (takC S1 m, takF S1 m, takB S1 m) ⟨HX.out.2.1, HX.out.2.2.1, HX.out.2.2.2.1⟩ H7.out.2.2 (by rfl) HN1.out.1 HN1.out.2 ?_); intro g6 n6 k6 w6 ho6 hg6)
        obtain ⟨hF6, ht6⟩ := HR7.out.grown hg6
        have htk := tak_n l1 m (by rw [HS1.out]; exact HX.out.1)
        rw [HS1.out, HX.out.2.2.2.2, Int.toNat_natCast] at htk
        have HCU := Lib.hid (feed_cut_at K hF6 htk.2.1 (by omega) HLX.out)
        refine HCU.out.mono ?_
        rintro e w8 ⟨rfl, v2, hF8, ht8, hn8⟩
        have HRn : Hid (PRel w w8 p m (.slice av ln cv) L0 (.slice (some ⟨g6, 0, none⟩) n6 k6) (l1.drop K) v2 (rs ++ [(takC S1 m, takF S1 m, takB S1 m)])) := Lib.hid (by
          have := HR7.out.step (so' := .slice (some ⟨g6, 0, none⟩) n6 k6) (v2 := v2) (w7 := w8) hg6 (by rw [HS1.out]; exact HX.out.1) (by rw [HS1.out]; exact ho6) (by rw [HS1.out, HX.out.2.2.2.2, Int.toNat_natCast]; exact hF8) ht8 hn8
          rw [HS1.out, HX.out.2.2.2.2, Int.toNat_natCast] at this
          exact this)
        have HLT : Hid ((l1.drop K).length < g') := Lib.hid (by rw [List.length_drop]; have := HNX.out; omega)
        clear hF6 ht6 htk HCU hF8 ht8 hn8 ho6 hg6 HR7 H7 z0 z1 z2
        go_wp2_with fail
        go_roundg g'
        case measure => omega
        case rel => exact ⟨_, _, _, HLT.out, HRn⟩
    · by_cases h3 : E = 3
      · subst h3
        have HC1 := Lib.hid (parse_err S1 m 3 hE (by decide) wr.drew HS1s.out HE1.out)
        have HC2 := Lib.hid (parse_err S1 m 3 hE (by decide) _ HS1s.out HE2.out)
        have HX := Lib.hid hE
        unfold ParseAt at HC1 HC2
        clear hE HE1 HE2 h0
        go_wp2_with fail
        unfold PutS at HS2
        go_region_held3 (fun w' => w'.cell? ⟨p, 2, none⟩ = some (.slice ax nx cx) ∧ w'.cell? ⟨p, 1, none⟩ = some (.int .i64 m) ∧ (convert 53 9 (.slice ax nx cx)).run Tryz.prog w' = .ok (.string S1) w') (first | exact HS2.out _ HDr.out | exact HS2.out _ HA0.out | exact HS2.out _ HA1.out | exact HS2.out _ (HA1.out.alloc HA1.out.size _) | exact HS2.out _ (three_below HA1.out _ (Nat.le_refl _) _ _ _) | exact HS2.out _ (three_below (HA1.out.alloc HA1.out.size _) _ HA1.out.size _ _ _))
          (first
            | (go_at_call 22; (first | (with_reducible refine HC1.out.mono ?_) | (with_reducible refine HC2.out.mono ?_)); rintro e wc ⟨ac, cc, rfl, hoc, hbc⟩; (first | (have HA1 : Hid (Below wr.heap.size wr wc) := Lib.hid (bstep HDr.out hbc)) | (have HA1 : Hid (Below wr.heap.size wr wc) := Lib.hid (bstep HA0.out hbc); have HZ := Lib.hid ((hbc.block wr.heap.size (by simp)).trans (heap_alloc_new wr _)); obtain ⟨z0, z1, z2, y0, y1, y2⟩ := three_facts HZ.out)); clear hoc hbc))
        all_goals
          first
            | (have HR7 := Lib.hid (HRr.out.below (three_below HA1.out _ (Nat.le_refl _) (.int .i64 0) (.slice ac 0 cc) (.string ⟨#[]⟩)))
               clear HZ z0 z1 z2 y0 y1 y2
               generalize (((wc.setCell ⟨wr.heap.size, 0, none⟩ (.int .i64 0)).setCell ⟨wr.heap.size, 1, none⟩ (.slice ac 0 cc)).setCell ⟨wr.heap.size, 2, none⟩ (.string ⟨#[]⟩)) = W7 at HR7 ⊢)
            | (have HR7 := Lib.hid (HRr.out.below (HA1.out.alloc HA1.out.size (.cells #[.int .i64 0, .slice ac 0 cc, .string ⟨#[]⟩] 52)))
               generalize wc.alloc (.cells #[.int .i64 0, .slice ac 0 cc, .string ⟨#[]⟩] 52) = W7 at HR7 ⊢)
          clear HA1 HC1 HC2 HS2 HDr HA0 HRr
          go_wp2_with fail
          go_ret2
          exact HR7.out.short (by rw [HS1.out]; exact HX.out)
      · have HC1 := Lib.hid (parse_err S1 m E hE h0 wr.drew HS1s.out HE1.out)
        have HC2 := Lib.hid (parse_err S1 m E hE h0 _ HS1s.out HE2.out)
        have HX := Lib.hid hE
        unfold ParseAt at HC1 HC2
        have HNE := Lib.hid (And.intro h0 h3)
        have tz : ((E : Int) == 0) = false := by rw [beq_eq_false_iff_ne]; omega
        have tz3 : ((E : Int) == 3) = false := by rw [beq_eq_false_iff_ne]; omega
        clear hE HE1 HE2
        go_wp2_with fail
        unfold PutS at HS2
        go_region_held3 (fun w' => w'.cell? ⟨p, 2, none⟩ = some (.slice ax nx cx) ∧ w'.cell? ⟨p, 1, none⟩ = some (.int .i64 m) ∧ (convert 53 9 (.slice ax nx cx)).run Tryz.prog w' = .ok (.string S1) w') (first | exact HS2.out _ HDr.out | exact HS2.out _ HA0.out | exact HS2.out _ HA1.out | exact HS2.out _ (HA1.out.alloc HA1.out.size _) | exact HS2.out _ (three_below HA1.out _ (Nat.le_refl _) _ _ _) | exact HS2.out _ (three_below (HA1.out.alloc HA1.out.size _) _ HA1.out.size _ _ _))
          (first
            | (go_at_call 22; (first | (with_reducible refine HC1.out.mono ?_) | (with_reducible refine HC2.out.mono ?_)); rintro e wc ⟨ac, cc, rfl, hoc, hbc⟩; (first | (have HA1 : Hid (Below wr.heap.size wr wc) := Lib.hid (bstep HDr.out hbc)) | (have HA1 : Hid (Below wr.heap.size wr wc) := Lib.hid (bstep HA0.out hbc); have HZ := Lib.hid ((hbc.block wr.heap.size (by simp)).trans (heap_alloc_new wr _)); obtain ⟨z0, z1, z2, y0, y1, y2⟩ := three_facts HZ.out)); clear hoc hbc))
        all_goals
          first
            | (have HR7 := Lib.hid (HRr.out.below (three_below HA1.out _ (Nat.le_refl _) (.int .i64 0) (.slice ac 0 cc) (.string ⟨#[]⟩)))
               clear HZ z0 z1 z2 y0 y1 y2
               generalize (((wc.setCell ⟨wr.heap.size, 0, none⟩ (.int .i64 0)).setCell ⟨wr.heap.size, 1, none⟩ (.slice ac 0 cc)).setCell ⟨wr.heap.size, 2, none⟩ (.string ⟨#[]⟩)) = W7 at HR7 ⊢)
            | (have HR7 := Lib.hid (HRr.out.below (HA1.out.alloc HA1.out.size (.cells #[.int .i64 0, .slice ac 0 cc, .string ⟨#[]⟩] 52)))
               generalize wc.alloc (.cells #[.int .i64 0, .slice ac 0 cc, .string ⟨#[]⟩] 52) = W7 at HR7 ⊢)
          clear HA1 HC1 HC2 HS2 HDr HA0 HRr
          obtain ⟨-, -, c2, c3, f2, f3⟩ := HR7.out.fat.cells
          go_wp2_with fail
          go_ret2
          exact HR7.out.bad (by rw [HS1.out]; exact HX.out) HNE.out.1 HNE.out.2
end Go.Proofs.YtdihhbkajcngeaaGreatDoor
namespace Go.Proofs.YtdihhbkajcngeaaGreatDoor
open Go.RowKit
theorem body_len (ls : List (List UInt8)) (h : ∀ x ∈ ls, x.length ≤ 256) : (body ls).length ≤ ls.length * 258 := by
  induction ls with
  | nil => exact Nat.le_refl _
  | cons x t ih =>
    have h1 := h x (List.mem_cons_self ..)
    have h2 := ih (fun y hy => h y (List.mem_cons_of_mem _ hy))
    show (x ++ 13 :: 10 :: body t).length ≤ (t.length + 1) * 258
    rw [List.length_append, List.length_cons, List.length_cons]; omega
theorem repL_len (c : Int) (fs : List (List UInt8 × List UInt8)) (b : List UInt8) (h : repE c fs = 0) (hn : b.length ≤ 1000000) : (repL c fs b).length ≤ 4400 + b.length ∧ 2 ≤ (repL c fs b).length := by
  obtain ⟨g1, g2⟩ := good_lines c fs b.length h hn
  have := body_len (repLines c fs b.length) (fun x hx => (g1 x hx).2.2)
  unfold repL
  rw [List.length_append, List.length_cons, List.length_cons]; omega
theorem isEmpty_false (S : ByteArray) (h : 0 < S.size) : (S.toList == []) = false := by
  rw [beq_eq_false_iff_ne]
  intro e
  have : S.toList.length = 0 := by rw [e]; rfl
  rw [ByteArray.toList_eq, size_len] at this
  omega
end Go.Proofs.YtdihhbkajcngeaaGreatDoor
namespace Go.Proofs.YtdihhbkajcngeaaGreatDoor
open Go.RowKit Go.Shelf Go.Lib
def RParseO (C n : Int) (F : List (List UInt8 × List UInt8)) (B : ByteArray) (E : Nat) (w : World) (e : Ending) (w' : World) : Prop :=
  ∃ a cp, e = .returned (.tuple #[.agg #[.int .i64 C, .slice a F.length cp, .string B], .int .i64 n, .int .i64 (E : Nat)]) ∧ w'.ownsRow 0 70 2 (.slice a F.length cp) F.length (fcells F) ∧ Below w.heap.size w w'
theorem rparse_own (s : ByteArray) (most : Int) (C n : Int) (F : List (List UInt8 × List UInt8)) (B : ByteArray) (E : Nat) (h : takE s most = E ∧ takC s most = C ∧ takF s most = F ∧ bs (takB s most) = B ∧ takN s most = n) (w : World) (hs : s.size ≤ 1000000) :
    Calls Tryz.prog 24 #[.string s, .int .i64 most] w (RParseO C n F B E w) := by
  obtain ⟨rfl, rfl, rfl, rfl, rfl⟩ := h
  refine (ref_rparse s most w hs).mono ?_
  rintro e w' ⟨fv, rfl, ⟨B1, h1⟩, h2⟩
  obtain ⟨a, cp, rfl⟩ := own_fslice h1
  exact ⟨a, cp, rfl, own_mono h1 (Nat.zero_le _), h2⟩
theorem rparse_ownE (s : ByteArray) (most : Int) (E : Nat) (h : takE s most = E) (h0 : E ≠ 0) (w : World) (hs : s.size ≤ 1000000) :
    Calls Tryz.prog 24 #[.string s, .int .i64 most] w (RParseO 0 0 [] ⟨#[]⟩ E w) := by
  obtain ⟨h1, h2, h3, h4⟩ := tak_bad s most (by rw [h]; exact h0)
  exact rparse_own s most 0 0 [] ⟨#[]⟩ E ⟨h, h1, h2, by rw [h3]; rfl, h4⟩ w hs
theorem load_rfeed (w : World) (b : Nat) (t : TypeId) (x y z : Value) (h : w.heap[b]? = some (.cells #[x, y, z] t (0, 0))) : (loadVar 30 ⟨b, 0, none⟩).run Tryz.prog w = .ok (.agg #[x, y, z]) w :=
  run_loadVar_row w b t 30 #[x, y, z] (0, 0) _ h Tryz.underlying30 rfl (by kernel_rfl)
/-- the document's feed as a value -/
def rfv (m : Int) (l : List UInt8) (e : Nat) : Value := .agg #[.int .i64 m, .string (bs l), .int .i64 (e : Nat)]
def RFPost (m : Int) (R : List (Int × List (List UInt8 × List UInt8) × List UInt8) × List UInt8 × Nat) (w : World) (r : Ending) (w' : World) : Prop :=
  ∃ rv, r = .returned (.tuple #[.agg #[.int .i64 m, .string (bs R.2.1), .int .i64 (R.2.2 : Nat)], rv, .int .i64 (R.2.2 : Nat)]) ∧ QOwn w' w.heap.size rv R.1 ∧ Below w.heap.size w w'
theorem rend_e (l : List UInt8) (m : Int) (e : Nat) (w : World) : Calls Tryz.prog 16 #[.agg #[.int .i64 m, .string (bs l), .int .i64 (e : Nat)]] w fun r w' => r = .returned (.int .i64 (endE l e : Nat)) ∧ Below w.heap.size w w' := by
  have HB := Lib.hid (below_agg3 w (.int .i64 m) (.string (bs l)) (.int .i64 (e : Nat)) 30)
  by_cases he : e = 0
  case neg =>
    have HF : Hid (endE l e = e) := Lib.hid (if_pos he)
    have tz : ((e : Int) != 0) = true := by rw [bne_iff_ne]; omega
    clear he
    go_enter Tryz.func16, Tryz.ntmps16
    go_wp2_with fail
    go_ret
    exact ⟨by rw [HF.out]; rfl, HB.out⟩
  subst he
  by_cases hl : l = []
  · subst hl
    have HF : Hid (endE [] 0 = 0) := Lib.hid rfl
    obtain ⟨S, hS⟩ : ∃ S, bs [] = S := ⟨_, rfl⟩
    have t0 : (S.toList == []) = true := by rw [← hS, ByteArray.toList_eq, bs_data]; rfl
    rw [hS] at HB ⊢
    clear hS
    go_enter Tryz.func16, Tryz.ntmps16
    go_wp2_with fail
    go_ret
    exact ⟨by rw [HF.out]; rfl, HB.out⟩
  · have HF : Hid (endE l 0 = 3) := Lib.hid (by unfold endE; rw [if_neg (by simp), if_neg hl])
    obtain ⟨S, hS⟩ : ∃ S, bs l = S := ⟨_, rfl⟩
    have hp : 0 < l.length := List.length_pos_iff.2 hl
    have t0 : (S.toList == []) = false := isEmpty_false S (by rw [← hS, bs_size]; exact hp)
    rw [hS] at HB ⊢
    clear hS hl hp
    go_enter Tryz.func16, Tryz.ntmps16
    go_wp2_with fail
    go_ret
    exact ⟨by rw [HF.out]; rfl, HB.out⟩
structure GRel (w wr : World) (m : Int) (L0 : List UInt8) (so : Value) (l1 : List UInt8) (rs : List (Int × List (List UInt8 × List UInt8) × List UInt8)) : Prop where
  blk : wr.heap[w.heap.size]? = some (.cells #[.int .i64 m, .string (bs l1), .int .i64 0] 30 (0, 0))
  zer : wr.heap[w.heap.size + 1]? = some (.cells #[.int .i64 0, .string ⟨#[]⟩, .int .i64 0] 30 (0, 0))
  own : QOwn wr w.heap.size so rs
  bel : Below w.heap.size w wr
  eq : feedOf m L0 = (rs ++ (feedOf m l1).1, (feedOf m l1).2)
  len : rs.length + l1.length ≤ L0.length
theorem GRel.sz {w wr : World} {m : Int} {L0 l1 : List UInt8} {so : Value} {rs : List (Int × List (List UInt8 × List UInt8) × List UInt8)} (h : GRel w wr m L0 so l1 rs) : w.heap.size + 1 < wr.heap.size := (Array.getElem?_eq_some_iff.1 h.zer).1
theorem GRel.below {w wr wr' : World} {m : Int} {L0 l1 : List UInt8} {so : Value} {rs : List (Int × List (List UInt8 × List UInt8) × List UInt8)} (h : GRel w wr m L0 so l1 rs) (hb : Below wr.heap.size wr wr') : GRel w wr' m L0 so l1 rs := by
  have := h.sz
  exact ⟨(hb.block _ (by omega)).trans h.blk, (hb.block _ (by omega)).trans h.zer, h.own.below hb, bstep h.bel hb, h.eq, h.len⟩
theorem QOwn.set {w : World} {B p k : Nat} {v : Value} {rs : List (Int × List (List UInt8 × List UInt8) × List UInt8)} {cs : Array Value} (h : QOwn w B v rs) (hp : w.heap[p]? = some (.cells cs 30 (0, 0))) (u : Value) : QOwn (w.setCell ⟨p, k, none⟩ u) B v rs := by
  obtain ⟨fs, h1, h2, h3⟩ := h
  refine ⟨fs, h1, own_of_block h2 (fun g hg => set_far (fun e => own_not_row h2 hp (by decide) (by rw [hg, show g = p from e]))), fun j hj hf => ?_⟩
  obtain ⟨a, c, e1, e2⟩ := h3 j hj hf
  exact ⟨a, c, e1, own_of_block e2 (fun g hg => set_far (fun e => own_not_row e2 hp (by decide) (by rw [hg, show g = p from e])))⟩
theorem row3_set {w : World} {b k : Nat} {cs : Array Value} {t : TypeId} (h : w.heap[b]? = some (.cells cs t (0, 0))) (u : Value) : (w.setCell ⟨b, k, none⟩ u).heap[b]? = some (.cells (cs.setIfInBounds k u) t (0, 0)) := by
  simp [World.setCell, Array.getElem?_modify, h]
theorem bs_drop (l : List UInt8) (K : Nat) : (bs l).extract K (bs l).size = bs (l.drop K) := by
  rw [extract_bs, bs_data, bs_size, List.take_length]
theorem GRel.mid {w wr w6 : World} {m : Int} {L0 l1 : List UInt8} {so : Value} {rs : List (Int × List (List UInt8 × List UInt8) × List UInt8)} (h : GRel w wr m L0 so l1 rs) (hg : wr.grownBy w6 so.ownBlock) : w6.heap[w.heap.size]? = some (.cells #[.int .i64 m, .string (bs l1), .int .i64 0] 30 (0, 0)) := by
  obtain ⟨fs, f1, f2, f3⟩ := h.own
  have hz := h.sz
  exact (hg.block _ (by omega) (fun e => own_not_row f2 h.blk (by decide) e.symm)).trans h.blk
theorem GRel.short {w wr : World} {m : Int} {L0 l1 : List UInt8} {so : Value} {rs : List (Int × List (List UInt8 × List UInt8) × List UInt8)} (h : GRel w wr m L0 so l1 rs) (h3 : takE (bs l1) m = 3) (x y z : Value) :
    RFPost m (feedOf m L0) w (.returned (.tuple #[.agg #[.int .i64 m, .string (bs l1), .int .i64 0], so, .int .i64 0])) (((wr.setCell ⟨w.heap.size + 1, 0, none⟩ x).setCell ⟨w.heap.size + 1, 1, none⟩ y).setCell ⟨w.heap.size + 1, 2, none⟩ z) := by
  have e := h.eq
  rw [feed_short m l1 h3, List.append_nil] at e
  rw [e]
  exact ⟨so, rfl, ((h.own.set h.zer x).set (row3_set h.zer x) y).set (row3_set (row3_set h.zer x) y) z, three_below h.bel _ (by omega) _ _ _⟩
theorem GRel.bad {w wr : World} {m : Int} {L0 l1 : List UInt8} {so : Value} {rs : List (Int × List (List UInt8 × List UInt8) × List UInt8)} {E : Nat} (h : GRel w wr m L0 so l1 rs) (hE : takE (bs l1) m = E) (h0 : E ≠ 0) (h3 : E ≠ 3) (x y z a b : Value) :
    RFPost m (feedOf m L0) w (.returned (.tuple #[.agg #[.int .i64 m, .string ⟨#[]⟩, .int .i64 (E : Nat)], so, .int .i64 (E : Nat)])) (((((wr.setCell ⟨w.heap.size, 1, none⟩ a).setCell ⟨w.heap.size, 2, none⟩ b).setCell ⟨w.heap.size + 1, 0, none⟩ x).setCell ⟨w.heap.size + 1, 1, none⟩ y).setCell ⟨w.heap.size + 1, 2, none⟩ z) := by
  have e := h.eq
  rw [feed_bad m l1 (by rw [hE]; exact h0) (by rw [hE]; exact h3), List.append_nil, hE] at e
  have hz : ((wr.setCell ⟨w.heap.size, 1, none⟩ a).setCell ⟨w.heap.size, 2, none⟩ b).heap[w.heap.size + 1]? = some (.cells #[.int .i64 0, .string ⟨#[]⟩, .int .i64 0] 30 (0, 0)) := (set_far (by show w.heap.size + 1 ≠ w.heap.size; omega)).trans ((set_far (by show w.heap.size + 1 ≠ w.heap.size; omega)).trans h.zer)
  rw [e]
  exact ⟨so, rfl, ((((h.own.set h.blk a).set (row3_set h.blk a) b).set hz x).set (row3_set hz x) y).set (row3_set (row3_set hz x) y) z, three_below ((h.bel.setCell (p := ⟨w.heap.size, 1, none⟩) (Nat.le_refl _) _).setCell (p := ⟨w.heap.size, 2, none⟩) (Nat.le_refl _) _) _ (by omega) _ _ _⟩
/-- one more reply is taken -/
theorem GRel.step {w wr w6 : World} {m : Int} {L0 l1 : List UInt8} {so so' : Value} {rs : List (Int × List (List UInt8 × List UInt8) × List UInt8)} (h : GRel w wr m L0 so l1 rs) (hg : wr.grownBy w6 so.ownBlock) (h0 : takE (bs l1) m = 0)
    (ho : QOwn w6 w.heap.size so' (rs ++ [(takC (bs l1) m, takF (bs l1) m, takB (bs l1) m)])) :
    GRel w (w6.setCell ⟨w.heap.size, 1, none⟩ (.string (bs (l1.drop (takN (bs l1) m).toNat)))) m L0 so' (l1.drop (takN (bs l1) m).toNat) (rs ++ [(takC (bs l1) m, takF (bs l1) m, takB (bs l1) m)]) := by
  obtain ⟨fs, f1, f2, f3⟩ := h.own
  obtain ⟨n1, n2, n3⟩ := tak_n l1 m h0
  have hz := h.sz
  have he := h.eq
  have hl := h.len
  have b6 : w6.heap[w.heap.size]? = _ := (hg.block _ (by omega) (fun e => own_not_row f2 h.blk (by decide) e.symm)).trans h.blk
  have z6 : w6.heap[w.heap.size + 1]? = _ := (hg.block _ (by omega) (fun e => own_not_row f2 h.zer (by decide) e.symm)).trans h.zer
  have hb6 : Below w.heap.size w w6 := h.bel.grown hg (by omega) (fun k hk => (f2.lt k hk).1)
  refine ⟨(row3_set b6 _).trans (by rfl), (set_far (by show w.heap.size + 1 ≠ w.heap.size; omega)).trans z6, ho.set b6 _, hb6.setCell (p := ⟨w.heap.size, 1, none⟩) (Nat.le_refl _) _, ?_, ?_⟩
  · rw [he, feed_more m l1 h0, List.append_assoc]; rfl
  · rw [List.length_append, List.length_drop, List.length_singleton]; omega
end Go.Proofs.YtdihhbkajcngeaaGreatDoor
namespace Go.Proofs.YtdihhbkajcngeaaGreatDoor
open Go.RowKit Go.Shelf Go.Lib
set_option maxRecDepth 100000 in
set_option maxHeartbeats 4000000 in
theorem rput_bad (m : Int) (l : List UInt8) (e : Nat) (s : ByteArray) (w : World) (he : e ≠ 0) :
    Calls Tryz.prog 11 #[.agg #[.int .i64 m, .string (bs l), .int .i64 (e : Nat)], .string s] w (RFPost m ([], l, e) w) := by
  have tz : ((e : Int) != 0) = true := by rw [bne_iff_ne]; omega
  have B1 := below_agg3 w (.int .i64 m) (.string (bs l)) (.int .i64 (e : Nat)) 30
  have HB := Lib.hid (bstep B1 (below_agg3 (w.alloc (.cells #[.int .i64 m, .string (bs l), .int .i64 (e : Nat)] 30)) (.int .i64 0) (.string ⟨#[]⟩) (.int .i64 0) 30))
  have HP := Lib.hid (heap_alloc2_new w (.cells #[.int .i64 m, .string (bs l), .int .i64 (e : Nat)] 30) (.cells #[.int .i64 0, .string ⟨#[]⟩, .int .i64 0] 30))
  have HP0 := Lib.hid (((below_agg3 (w.alloc (.cells #[.int .i64 m, .string (bs l), .int .i64 (e : Nat)] 30)) (.int .i64 0) (.string ⟨#[]⟩) (.int .i64 0) 30).block w.heap.size (by simp)).trans (heap_alloc_new w (.cells #[.int .i64 m, .string (bs l), .int .i64 (e : Nat)] 30)))
  clear he B1
  go_enter Tryz.func11, Tryz.ntmps11
  go_wp2_with fail
  generalize (w.alloc (.cells #[.int .i64 m, .string (bs l), .int .i64 (e : Nat)] 30)).alloc (.cells #[.int .i64 0, .string ⟨#[]⟩, .int .i64 0] 30) = W0 at HB HP HP0 ⊢
  have HSZ : Hid (w.heap.size + 1 < W0.heap.size) := Lib.hid (Array.getElem?_eq_some_iff.1 HP.out).1
  have HS : Hid (∀ W, Below W0.heap.size W0 W → W.cell? ⟨w.heap.size, 0, none⟩ = some (.int .i64 m) ∧ W.cell? ⟨w.heap.size, 1, none⟩ = some (.string (bs l)) ∧ W.cell? ⟨w.heap.size, 2, none⟩ = some (.int .i64 (e : Nat))) := Lib.hid (fun W hW => by
    obtain ⟨x0, x1, x2, -, -, -⟩ := three_facts ((hW.block w.heap.size (by have := HSZ.out; omega)).trans HP0.out)
    exact ⟨x0, x1, x2⟩)
  obtain ⟨d0, d1, d2, g0, g1, g2⟩ := three_facts HP.out
  obtain ⟨x0, x1, x2, -, -, -⟩ := three_facts HP0.out
  go_region
  go_wp2_with fail
  refine ret_cell3 (A := ⟨w.heap.size + 1, 0, none⟩) rfl (load_rfeed _ _ _ _ _ _ (three_set HP.out _ _ _)) rfl rfl rfl rfl ?_
  exact ⟨_, rfl, ⟨[], rfl, World.ownsRow_nil _ _ _ _, fun j hj => absurd hj (Nat.not_lt_zero _)⟩, (three_below HB.out _ (by omega) _ _ _).drew⟩
set_option maxRecDepth 100000 in
set_option maxHeartbeats 8000000 in
theorem rput (m : Int) (l : List UInt8) (s : ByteArray) (w : World) (hl : l.length + s.size ≤ 1000000) :
    Calls Tryz.prog 11 #[.agg #[.int .i64 m, .string (bs l), .int .i64 0], .string s] w (RFPost m (feedOf m (l ++ s.data.toList)) w) := by
  obtain ⟨L0, hL0⟩ : ∃ L0, l ++ s.data.toList = L0 := ⟨_, rfl⟩
  have HL0 := Lib.hid hL0
  have HLL : Hid (L0.length ≤ 1000000) := Lib.hid (by rw [← hL0, List.length_append, size_len]; exact hl)
  have HS : Hid (bs l ++ s = bs L0) := Lib.hid (by rw [← hL0, ← bs_cat, bs_self])
  have padd := fun w => run_string_add_sum (P := Tryz.prog) w (bs l) s (by rw [bs_size]; omega)
  rw [hL0]
  clear hL0
  go_enter Tryz.func11, Tryz.ntmps11
  go_wp2_with fail
  have HR : Hid (GRel w ((w.alloc (.cells #[.int .i64 m, .string (bs l ++ s), .int .i64 0] 30)).alloc (.cells #[.int .i64 0, .string ⟨#[]⟩, .int .i64 0] 30)) m L0 (.slice none 0 0) L0 []) := Lib.hid (by
    rw [HS.out]
    exact ⟨((below_agg3 (w.alloc (.cells #[.int .i64 m, .string (bs L0), .int .i64 0] 30)) (.int .i64 0) (.string ⟨#[]⟩) (.int .i64 0) 30).block w.heap.size (by simp)).trans (heap_alloc_new w _), heap_alloc2_new w _ _, ⟨[], rfl, World.ownsRow_nil _ _ _ _, fun j hj => absurd hj (Nat.not_lt_zero _)⟩, bstep (below_agg3 w _ _ _ _) (below_agg3 _ _ _ _ _), rfl, by simp⟩)
  generalize (w.alloc (.cells #[.int .i64 m, .string (bs l ++ s), .int .i64 0] 30)).alloc (.cells #[.int .i64 0, .string ⟨#[]⟩, .int .i64 0] 30) = w2 at HR ⊢
  clear HS padd HL0
  go_loopg [7] (L0.length + 1) (fun gk s7 wr => ∃ l1 rs, l1.length < gk ∧ Hid (GRel w wr m L0 s7 l1 rs))
  case atStart => exact ⟨L0, [], by omega, HR⟩
  case round =>
    obtain ⟨l1, rs, hlen, HRr⟩ := hrel
    obtain ⟨g', rfl⟩ : ∃ g', gk = g' + 1 := ⟨gk - 1, by omega⟩
    have hl1 : l1.length ≤ 1000000 := by have := HRr.out.len; have := HLL.out; omega
    obtain ⟨S1, hS1⟩ : ∃ S1, bs l1 = S1 := ⟨_, rfl⟩
    have HS1 := Lib.hid hS1
    have HS1s : Hid (S1.size ≤ 1000000) := Lib.hid (by rw [← hS1, bs_size]; exact hl1)
    have HSL : Hid (S1.size = l1.length) := Lib.hid (by rw [← hS1, bs_size])
    obtain ⟨x0, x1, x2, y0, y1, y2⟩ := three_facts HRr.out.blk
    obtain ⟨d0, d1, d2, e0, e1, e2⟩ := three_facts HRr.out.zer
    rw [hS1] at x1
    obtain ⟨E, hE⟩ : ∃ E, takE S1 m = E := ⟨_, rfl⟩
    clear hl1 hS1 HR
    by_cases h0 : E = 0
    · subst h0
      obtain ⟨K, hK⟩ : ∃ K : Nat, takN S1 m = (K : Int) := ⟨_, by have := (tak_n l1 m (by rw [HS1.out]; exact hE)).2.2; rw [HS1.out] at this; exact this⟩
      obtain ⟨C, hC⟩ : ∃ C, takC S1 m = C := ⟨_, rfl⟩
      obtain ⟨F, hF⟩ : ∃ F, takF S1 m = F := ⟨_, rfl⟩
      obtain ⟨B, hB⟩ : ∃ B, bs (takB S1 m) = B := ⟨_, rfl⟩
      have HC1 := Lib.hid (rparse_own S1 m C (K : Int) F B 0 ⟨hE, hC, hF, hB, hK⟩ wr HS1s.out)
      have HX := Lib.hid (And.intro hE (And.intro hC (And.intro hF (And.intro hB hK))))
      unfold RParseO at HC1
      clear hE hC hF hB hK
      go_wp2_with fail
      refine HC1.out.mono ?_
      rintro e wc ⟨ac, cc, rfl, hoc, hbc⟩
      have HR7 := Lib.hid (HRr.out.below (hbc.alloc hbc.size (.cells #[.int .i64 C, .slice ac F.length cc, .string B] 45)))
      have HO7 := Lib.hid (hoc.alloc (.cells #[.int .i64 C, .slice ac F.length cc, .string B] 45))
      have HN1 : Hid (rs.length < 2147483648 ∧ w.heap.size ≤ (wc.alloc (.cells #[.int .i64 C, .slice ac F.length cc, .string B] 45)).heap.size) := Lib.hid ⟨by have := HRr.out.len; have := HLL.out; omega, HR7.out.bel.size⟩
      clear hoc hbc HC1 HRr x0 x1 x2 y0 y1 y2 d0 d1 d2 e0 e1 e2
      obtain ⟨x0, x1, x2, y0, y1, y2⟩ := three_facts HR7.out.blk
      obtain ⟨FL, hFL⟩ : ∃ FL, F.length = FL := ⟨_, rfl⟩
      have HFL := Lib.hid hFL
      rw [HS1.out] at x1
      have htk := tak_n l1 m (by rw [HS1.out]; exact HX.out.1)
      rw [HS1.out, HX.out.2.2.2.2, Int.toNat_natCast] at htk
      have hKs : (K : Int) ≤ (S1.size : Int) := by rw [HSL.out]; omega
      have hK0 : (0 : Int) ≤ (K : Int) := by omega
      have HTK := Lib.hid htk
      rw [hFL] at x0 x1 x2 y0 y1 y2 ⊢
      clear htk hFL
      go_wp2_with (at_builtin; (rw [← HFL.out]); go_loud (refine append_refreply (wc.alloc (.cells #[.int .i64 C, .slice ac F.length cc, .string B] 45)) C ac cc F B (by rfl) _ _ (by rfl) w.heap.size u7 rs (by rfl) HR7.out.own (takC S1 m, takF S1 m, takB S1 m) ⟨HX.out.2.1, HX.out.2.2.1, HX.out.2.2.2.1⟩ HO7.out (by rw [World.size_alloc]; rfl) HN1.out.1 HN1.out.2 ?_); intro g6 n6 k6 w6 ho6 hg6; have q6 := HR7.out.mid hg6; rw [HS1.out] at q6; obtain ⟨-, q1, -, -, r1, -⟩ := three_facts q6; have HO6 := Lib.hid ho6; have HG6 := Lib.hid hg6; clear q6 ho6 hg6)
      have HRn : Hid (GRel w (w6.setCell ⟨w.heap.size, 1, none⟩ (.string (S1.extract K S1.size))) m L0 (.slice (some ⟨g6, 0, none⟩) n6 k6) (l1.drop K) (rs ++ [(takC S1 m, takF S1 m, takB S1 m)])) := Lib.hid (by
        have := HR7.out.step (so' := .slice (some ⟨g6, 0, none⟩) n6 k6) HG6.out (by rw [HS1.out]; exact HX.out.1) (by rw [HS1.out]; exact HO6.out)
        rw [HS1.out, HX.out.2.2.2.2, Int.toNat_natCast, ← bs_drop, HS1.out] at this
        exact this)
      have HLT : Hid ((l1.drop K).length < g') := Lib.hid (by rw [List.length_drop]; have := HTK.out; omega)
      go_roundg g'
      case measure => omega
      case rel => exact ⟨_, _, HLT.out, HRn⟩
    · have HC1 := Lib.hid (rparse_ownE S1 m E hE h0 wr HS1s.out)
      have HX := Lib.hid hE
      unfold RParseO at HC1
      by_cases h3 : E = 3
      · subst h3
        clear hE h0
        go_wp2_with fail
        refine HC1.out.mono ?_
        rintro e wc ⟨ac, cc, rfl, -, hbc⟩
        have HR7 := Lib.hid (HRr.out.below (hbc.alloc hbc.size (.cells #[.int .i64 0, .slice ac 0 cc, .string ⟨#[]⟩] 45)))
        obtain ⟨x0, x1, x2, y0, y1, y2⟩ := three_facts HR7.out.blk
        obtain ⟨d0, d1, d2, e0, e1, e2⟩ := three_facts HR7.out.zer
        rw [HS1.out] at x1
        clear hbc HC1 HRr
        go_wp2_with fail
        refine ret_cell3 (A := ⟨w.heap.size + 1, 0, none⟩) rfl (load_rfeed _ _ _ _ _ _ (three_set HR7.out.zer _ _ _)) rfl rfl rfl rfl ?_
        rw [← HS1.out]
        exact HR7.out.short (by rw [HS1.out]; exact HX.out) _ _ _
      · have tz : ((E : Int) != 0) = true := by rw [bne_iff_ne]; omega
        have tz3 : ((E : Int) == 3) = false := by rw [beq_eq_false_iff_ne]; omega
        have HNE := Lib.hid (And.intro h0 h3)
        clear hE
        go_wp2_with fail
        refine HC1.out.mono ?_
        rintro e wc ⟨ac, cc, rfl, -, hbc⟩
        have HR7 := Lib.hid (HRr.out.below (hbc.alloc hbc.size (.cells #[.int .i64 0, .slice ac 0 cc, .string ⟨#[]⟩] 45)))
        obtain ⟨x0, x1, x2, y0, y1, y2⟩ := three_facts HR7.out.blk
        obtain ⟨d0, d1, d2, e0, e1, e2⟩ := three_facts HR7.out.zer
        rw [HS1.out] at x1
        clear hbc HC1 HRr
        go_wp2_with fail
        refine ret_cell3 (A := ⟨w.heap.size + 1, 0, none⟩) rfl (load_rfeed _ _ _ _ _ _ (three_set ((set_far (by show w.heap.size + 1 ≠ w.heap.size; omega)).trans ((set_far (by show w.heap.size + 1 ≠ w.heap.size; omega)).trans HR7.out.zer)) _ _ _)) rfl rfl rfl rfl ?_
        exact HR7.out.bad (by rw [HS1.out]; exact HX.out) HNE.out.1 HNE.out.2 _ _ _ _ _
end Go.Proofs.YtdihhbkajcngeaaGreatDoor
