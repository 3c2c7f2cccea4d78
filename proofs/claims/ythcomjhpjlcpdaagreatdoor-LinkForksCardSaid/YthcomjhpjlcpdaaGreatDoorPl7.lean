/- What Parse of package asking returns. What first and Fields of the reference of asking return. What Parse of the reference of asking returns. The small example of the laws of layer 25. The law function AskingTells. A request as printed is taken for itself; cut anywhere it is too short; what is taken may be printed (no program in sight). -/
import Derived.Test.YthcomjhpjlcpdaaGreatDoorPl6
import Derived.LoopN
import Derived.Laws.EntriesVeiled
import Derived.Laws.StructEq
set_option linter.unusedVariables false
set_option linter.unusedSimpArgs false
namespace Go.Proofs.YthcomjhpjlcpdaaGreatDoor
open Go.RowKit

theorem takeLine_len (s : ByteArray) (a : Int) : (takeLine s a).data.toList.length ≤ 256 := by
  unfold takeLine
  split
  · rename_i h
    have := (scan_n (s.data.toList.drop a.toNat) 0 (by omega)).2.2.1
    rw [size_len, ByteArray.size_extract]
    unfold scanAt; omega
  · exact Nat.zero_le _
theorem headR_bound (s : ByteArray) : ∀ (f : Nat) (a : Int) (xs : List (List UInt8)), (∀ x ∈ xs, x.length ≤ 256) → xs.length ≤ 17 → (∀ x ∈ (headR f s a xs).1, x.length ≤ 256) ∧ (headR f s a xs).1.length ≤ 17 := by
  intro f
  induction f with
  | zero => intro a xs _ _; exact ⟨fun x h => by simp [headR] at h, by simp [headR]⟩
  | succ f ih =>
    intro a xs h1 h2
    unfold headR
    split
    · exact ⟨fun x h => by simp at h, by simp⟩
    · split
      · exact ⟨h1, h2⟩
      · split
        · exact ⟨fun x h => by simp at h, by simp⟩
        · rename_i h17
          refine ih _ _ (fun x hx => ?_) (by rw [List.length_append, List.length_singleton]; omega)
          rw [List.mem_append, List.mem_singleton] at hx
          rcases hx with hx | rfl
          · exact h1 x hx
          · exact takeLine_len s a
theorem headOf_bound (s : ByteArray) : (∀ x ∈ (headOf s).1, x.length ≤ 256) ∧ (headOf s).1.length ≤ 17 := headR_bound s 18 0 [] (fun x h => by simp at h) (by decide)
theorem parseV_len (l : List UInt8) : (parseV l).length ≤ l.length := by
  unfold parseV
  split
  · unfold parseVal
    have := trimS_le (l.drop ((ahead l).length + 1))
    rw [List.length_drop] at this; omega
  · exact Nat.zero_le _
theorem getS_mem (fs : List (List UInt8 × List UInt8)) (k : List UInt8) : getS fs k = [] ∨ ∃ f ∈ fs, getS fs k = f.2 := by
  unfold getS
  split
  · rename_i v h
    right
    have hm : v ∈ hits fs k := by rw [h]; exact List.mem_singleton.2 rfl
    unfold hits at hm
    obtain ⟨f, hf, rfl⟩ := List.mem_map.1 hm
    exact ⟨f, (List.mem_filter.1 hf).1, rfl⟩
  · exact .inl rfl
theorem getS_len (ls : List (List UInt8)) (k : List UInt8) (h : ∀ x ∈ ls, x.length ≤ 256) : (getS (fldL ls) k).length ≤ 256 := by
  rcases getS_mem (fldL ls) k with e | ⟨f, hf, e⟩
  · rw [e]; exact Nat.zero_le _
  · rw [e]
    unfold fldL at hf
    obtain ⟨x, hx, rfl⟩ := List.mem_map.1 hf
    exact Nat.le_trans (parseV_len x) (h x hx)
/-- what is wrong with the lines of a request -/
def lnE (ls : List (List UInt8)) : Nat := if firstL ls ≠ 0 then firstL ls else if fldE ls.tail ≠ 0 then fldE ls.tail else if whoE (fldL ls.tail) ≠ 0 then whoE (fldL ls.tail) else whatE (fldL ls.tail)
def askE (s : ByteArray) : Nat := if (headOf s).2.2 ≠ 0 then (headOf s).2.2 else lnE (headOf s).1
def askPath (s : ByteArray) : List UInt8 := if askE s = 0 then wordL (headOf s).1 else []
def askHost (s : ByteArray) : List UInt8 := if askE s = 0 then getS (fldL (headOf s).1.tail) hostK else []
def askA (s : ByteArray) : Int := if askE s = 0 then askedA (getS (fldL (headOf s).1.tail) rangeK) else 0
def askB (s : ByteArray) : Int := if askE s = 0 then askedB (getS (fldL (headOf s).1.tail) rangeK) else 0
def askN (s : ByteArray) : Int := if askE s = 0 then (headOf s).2.1 else 0
def askV (s : ByteArray) : Value := .tuple #[.agg #[.string (bs (askPath s)), .string (bs (askHost s)), .int .i64 (askA s), .int .i64 (askB s)], .int .i64 (askN s), .int .i64 (askE s : Nat)]
theorem askV_bad (s : ByteArray) (e : Nat) (h : askE s = e) (h0 : e ≠ 0) : askV s = .tuple #[.agg #[.string ⟨#[]⟩, .string ⟨#[]⟩, .int .i64 0, .int .i64 0], .int .i64 0, .int .i64 (e : Nat)] := by
  have hn : askE s ≠ 0 := by rw [h]; exact h0
  unfold askV askPath askHost askA askB askN
  rw [if_neg hn, if_neg hn, if_neg hn, if_neg hn, if_neg hn, h]; rfl
/-- what stands while a request is taken -/
structure PSt (w : World) (R : Nat) (lv : Value) (ls : List (List UInt8)) (wx : World) : Prop where
  anc : Anchor R wx
  hold : HoldsLt wx R lv ls
  fs : wx.heap[R + 1]? = some (.cells #[.func (.func 91) #[] #[], .func (.func 92) #[] #[], .func (.func 93) #[] #[], .func (.func 94) #[] #[]] 149 (0, 0))
  res : wx.heap[w.heap.size]? = some (.cells #[.string ⟨#[]⟩, .string ⟨#[]⟩, .int .i64 0, .int .i64 0] 74 (0, 0))
  bel : Below w.heap.size w wx
  Rlt : w.heap.size < R
theorem PSt.lt {w wx : World} {R : Nat} {lv : Value} {ls : List (List UInt8)} (h : PSt w R lv ls wx) : R + 1 < wx.heap.size := (Array.getElem?_eq_some_iff.1 h.fs).1
theorem PSt.keep {w wx wy : World} {R : Nat} {lv : Value} {ls : List (List UInt8)} (h : PSt w R lv ls wx) (g : wx.grownBy wy (some R)) : PSt w R lv ls wy := by
  have hl := h.lt
  have hb := g.toBelow (by omega)
  have hr := h.Rlt
  exact ⟨h.anc.step hb, h.hold.step hb, (g.block (R + 1) hl (by simp)).trans h.fs, (g.block w.heap.size (by omega) (fun e => by have := Option.some.inj e; omega)).trans h.res, h.bel.trans (hb.mono (Nat.le_of_lt hr)), hr⟩
theorem PSt.alloc {w wx : World} {R : Nat} {lv : Value} {ls : List (List UInt8)} (h : PSt w R lv ls wx) (o : Obj) : PSt w R lv ls (wx.alloc o) :=
  h.keep ((GR.refl R wx).below ((Below.refl _ _).alloc (Nat.le_refl _) o))
theorem RdB.alloc {w : World} {R : Nat} {l f p h a b : Value} (k : RdB w R l f p h a b) (o : Obj) : RdB (w.alloc o) R l f p h a b := k.below ((Below.refl _ _).alloc (Nat.le_refl _) o)
theorem PSt.cells {w wx : World} {R : Nat} {lv : Value} {ls : List (List UInt8)} (h : PSt w R lv ls wx) :
    wx.cell? ⟨R + 1, 0, none⟩ = some (.func (.func 91) #[] #[]) ∧ wx.cell? ⟨R + 1, 1, none⟩ = some (.func (.func 92) #[] #[]) ∧ wx.cell? ⟨R + 1, 2, none⟩ = some (.func (.func 93) #[] #[]) ∧ wx.cell? ⟨R + 1, 3, none⟩ = some (.func (.func 94) #[] #[]) := by
  have k := h.fs
  refine ⟨?_, ?_, ?_, ?_⟩ <;> (unfold World.cell?; rw [k]; rfl)
theorem four_of {w : World} {b : Nat} {x y z u : Value} {t : TypeId} (k : w.heap[b]? = some (.cells #[x, y, z, u] t (0, 0))) :
    (w.cell? ⟨b, 0, none⟩ = some x ∧ w.cell? ⟨b, 1, none⟩ = some y ∧ w.cell? ⟨b, 2, none⟩ = some z ∧ w.cell? ⟨b, 3, none⟩ = some u) ∧ (w.frozen? ⟨b, 0, none⟩ = false ∧ w.frozen? ⟨b, 1, none⟩ = false ∧ w.frozen? ⟨b, 2, none⟩ = false ∧ w.frozen? ⟨b, 3, none⟩ = false) := by
  refine ⟨⟨?_, ?_, ?_, ?_⟩, ⟨?_, ?_, ?_, ?_⟩⟩ <;> first | (unfold World.cell?; rw [k]; rfl) | (unfold World.frozen?; rw [k]; rfl)
theorem PSt.start {w w1 : World} {lv : Value} {ls : List (List UInt8)} (hE : EnvF w1) (hS : HoldsLt w1 w1.heap.size lv ls) (hb : Below (w.alloc (.cells #[.string ⟨#[]⟩, .string ⟨#[]⟩, .int .i64 0, .int .i64 0] 74)).heap.size (w.alloc (.cells #[.string ⟨#[]⟩, .string ⟨#[]⟩, .int .i64 0, .int .i64 0] 74)) w1) (o : Obj) :
    PSt w w1.heap.size lv ls ((w1.alloc o).alloc (.cells #[.func (.func 91) #[] #[], .func (.func 92) #[] #[], .func (.func 93) #[] #[], .func (.func 94) #[] #[]] 149)) := by
  have hb2 : Below w1.heap.size w1 ((w1.alloc o).alloc (.cells #[.func (.func 91) #[] #[], .func (.func 92) #[] #[], .func (.func 93) #[] #[], .func (.func 94) #[] #[]] 149)) := ((Below.refl _ _).alloc (Nat.le_refl _) o).alloc (by simp) _
  have hsz : w.heap.size < w1.heap.size := by have := hb.size; simp at this; omega
  refine ⟨⟨w1, hE, rfl, hb2⟩, hS.step hb2, heap_alloc2_new w1 o _, ?_, (below_agg4 w _ _ _ _ _).trans ((hb.mono (by simp)).trans (hb2.mono (Nat.le_of_lt hsz))), hsz⟩
  exact (hb2.block w.heap.size hsz).trans ((hb.block w.heap.size (by simp)).trans (heap_alloc_new w _))
theorem askV_good (s : ByteArray) (ls : List (List UInt8)) (n : Int) (h : headOf s = (ls, n, 0)) (hl : lnE ls = 0) :
    askV s = .tuple #[.agg #[.string (bs (wordL ls)), .string (bs (getS (fldL ls.tail) hostK)), .int .i64 (askedA (getS (fldL ls.tail) rangeK)), .int .i64 (askedB (getS (fldL ls.tail) rangeK))], .int .i64 n, .int .i64 0] := by
  have h0 : askE s = 0 := by unfold askE; rw [h]; exact hl
  unfold askV askPath askHost askA askB askN
  rw [if_pos h0, if_pos h0, if_pos h0, if_pos h0, if_pos h0, h0, h]; rfl
theorem head_good (s : ByteArray) (w : World) (hs : s.size ≤ 9223372036854775807) : Calls Tryz.prog 37 #[.string s] w (HeadPost s w) := lines_head s w hs
set_option maxRecDepth 100000 in
set_option maxHeartbeats 4000000 in
theorem asking_parse (s : ByteArray) (w : World) (hs : s.size ≤ 1000000) (hE : EnvF w) :
    Calls Tryz.prog 55 #[.string s] w fun e w' => e = .returned (askV s) ∧ Below w.heap.size w w' := by
  have HH := Lib.hid (head_good s (w.alloc (.cells #[.string ⟨#[]⟩, .string ⟨#[]⟩, .int .i64 0, .int .i64 0] 74)) (by omega))
  obtain ⟨V, hV⟩ : ∃ V, askV s = V := ⟨_, rfl⟩
  rw [hV]
  have HV := Lib.hid hV
  have HE := Lib.hid (hE.below (below_agg4 w (.string ⟨#[]⟩) (.string ⟨#[]⟩) (.int .i64 0) (.int .i64 0) 74))
  have hbd := headOf_bound s
  unfold HeadPost at HH
  obtain ⟨⟨ls, n, e⟩, hh⟩ : ∃ T, headOf s = T := ⟨_, rfl⟩
  rw [hh] at HH hbd
  have HHd := Lib.hid hh
  change (∀ x ∈ ls, x.length ≤ 256) ∧ ls.length ≤ 17 at hbd
  change Hid (Calls _ _ _ _ fun r w' => ∃ v, r = .returned (.tuple #[v, .int .i64 n, .int .i64 (e : Nat)]) ∧ w'.ownsRow _ 9 1 v ls.length (strs ls) ∧ _) at HH
  have HBD := Lib.hid hbd
  clear hE hV hbd hh
  by_cases he : e = 0
  · subst he
    have HL : Hid (askE s = lnE ls) := Lib.hid (by unfold askE; rw [HHd.out]; rfl)
    go_enter Tryz.func55, Tryz.ntmps55
    go_wp2_with fail
    refine HH.out.mono ?_
    rintro e w1 ⟨v, rfl, hown, hb1⟩
    obtain ⟨av, cv, rfl⟩ := slice_of_own hown
    have HB1 := Lib.hid hb1
    have HE1 := Lib.hid (HE.out.below hb1)
    have HS := Lib.hid (HoldsLt.of (HoldsS.of_own hown))
    clear hb1 hown
    go_wp2_with fail
    have hP1 := PSt.start HE1.out HS.out HB1.out (.cells #[.slice av ls.length cv, .slice none 0 0, .string ⟨#[]⟩, .string ⟨#[]⟩, .int .i64 0, .int .i64 0] 146)
    have hR1 : RdB ((w1.alloc (.cells #[.slice av ls.length cv, .slice none 0 0, .string ⟨#[]⟩, .string ⟨#[]⟩, .int .i64 0, .int .i64 0] 146)).alloc (.cells #[.func (.func 91) #[] #[], .func (.func 92) #[] #[], .func (.func 93) #[] #[], .func (.func 94) #[] #[]] 149)) w1.heap.size (.slice av ls.length cv) (.slice none 0 0) (.string ⟨#[]⟩) (.string ⟨#[]⟩) (.int .i64 0) (.int .i64 0) := RdB.alloc (heap_alloc_new w1 _) _
    generalize (w1.alloc (.cells #[.slice av ls.length cv, .slice none 0 0, .string ⟨#[]⟩, .string ⟨#[]⟩, .int .i64 0, .int .i64 0] 146)).alloc (.cells #[.func (.func 91) #[] #[], .func (.func 92) #[] #[], .func (.func 93) #[] #[], .func (.func 94) #[] #[]] 149) = W1 at hP1 hR1 ⊢
    have HP1 := Lib.hid hP1
    have HR1 := Lib.hid hR1
    obtain ⟨q0, -, -, -⟩ := hP1.cells
    generalize hR : w1.heap.size = R at HP1 HR1 q0 ⊢
    have HS' := Lib.hid HS.out
    clear hP1 hR1 HS HB1 HE1 hR HS' HE HH
    refine wp_loop_rounds 5 ?_
    rw [rounds_succ]
    go_wp2_with fail
    refine (ask_first R _ _ _ _ _ _ _ ls (HR1.out.alloc _) ((HP1.out.alloc _).hold.holds (by have := (HP1.out.alloc (.cells #[.func (.func 91) #[] #[]] 149)).lt; omega)) (fun x hx => by have := HBD.out.1 x hx; omega) (HP1.out.alloc _).anc.env).mono ?_
    rintro e w2 ⟨rfl, hr2, hg2⟩
    have HP2 := Lib.hid ((HP1.out.alloc _).keep hg2)
    obtain ⟨-, q1, -, -⟩ := HP2.out.cells
    have HR2 := Lib.hid hr2
    clear hr2 hg2 q0
    by_cases h1 : firstL ls = 0
    case neg =>
      have HVB := Lib.hid (askV_bad s (firstL ls) (by rw [HL.out]; unfold lnE; rw [if_pos h1]) h1)
      have tz : ((firstL ls : Int) != 0) = true := by rw [bne_iff_ne]; omega
      obtain ⟨⟨d0, d1, d2, d3⟩, ⟨g0, g1, g2, g3⟩⟩ := four_of HP2.out.res
      clear h1 q1
      go_wp2_with fail
      refine ret_cell3 (A := ⟨w.heap.size, 0, none⟩) rfl (load_req _ _ _ _ _ _ _ (four_set HP2.out.res _ _ _ _)) rfl rfl rfl rfl ?_
      exact ⟨by rw [← HV.out, HVB.out]; rfl, four_below HP2.out.bel _ (Nat.le_refl _) _ _ _ _⟩
    have hne : ls ≠ [] := by intro e; rw [e] at h1; exact absurd h1 (by decide)
    have HR2' : Hid (RdB w2 R (.slice av ls.length cv) (.slice none 0 0) (.string (bs (wordL ls))) (.string ⟨#[]⟩) (.int .i64 0) (.int .i64 0)) := Lib.hid (by have := HR2.out; rw [if_pos h1] at this; exact this)
    have H1 := Lib.hid h1
    rw [h1]
    have HN := Lib.hid hne
    clear h1 HR2 hne
    go_wp2_with fail
    rw [rounds_succ]
    go_wp2_with fail
    refine (ask_named R _ _ _ _ _ _ ls (HR2'.out.alloc _) (HP2.out.alloc _).hold HN.out (by have := HBD.out.2; omega) (fun x hx => by have := HBD.out.1 x hx; omega) (HP2.out.alloc _).anc).mono ?_
    rintro e w3 ⟨rfl, ⟨fv, hr3, hf3⟩, hg3⟩
    have HP3 := Lib.hid ((HP2.out.alloc _).keep hg3)
    obtain ⟨-, -, q2, -⟩ := HP3.out.cells
    have HR3 := Lib.hid hr3
    have HF3 := Lib.hid hf3
    clear hr3 hg3 q1 hf3
    by_cases h2 : fldE ls.tail = 0
    case neg =>
      have HVB := Lib.hid (askV_bad s (fldE ls.tail) (by rw [HL.out]; unfold lnE; rw [if_neg (fun h => h H1.out), if_pos h2]) h2)
      have tz : ((fldE ls.tail : Int) != 0) = true := by rw [bne_iff_ne]; omega
      obtain ⟨⟨d0, d1, d2, d3⟩, ⟨g0, g1, g2, g3⟩⟩ := four_of HP3.out.res
      clear h2 q2
      go_wp2_with fail
      refine ret_cell3 (A := ⟨w.heap.size, 0, none⟩) rfl (load_req _ _ _ _ _ _ _ (four_set HP3.out.res _ _ _ _)) rfl rfl rfl rfl ?_
      exact ⟨by rw [← HV.out, HVB.out]; rfl, four_below HP3.out.bel _ (Nat.le_refl _) _ _ _ _⟩
    have HFO := Lib.hid (HF3.out h2)
    have hRb : Hid (R < (w2.alloc (.cells #[.func (.func 92) #[] #[]] 149)).heap.size) := Lib.hid (by have := (HP2.out.alloc (.cells #[.func (.func 92) #[] #[]] 149)).lt; omega)
    have H2 := Lib.hid h2
    rw [h2]
    obtain ⟨fs, hfs⟩ : ∃ fs, fldL ls.tail = fs := ⟨_, rfl⟩
    rw [hfs] at HFO
    have HF : Hid (HoldsF w3 fv fs) := Lib.hid (HoldsF.of_own HFO.out)
    have hfl : fs.length ≤ 17 := by rw [← hfs]; unfold fldL; rw [List.length_map, List.length_tail]; have := HBD.out.2; omega
    have hgl : (getS fs rangeK).length ≤ 256 := by rw [← hfs]; exact getS_len ls.tail rangeK (fun x hx => HBD.out.1 x (List.mem_of_mem_tail hx))
    have HFS := Lib.hid hfs
    have HGL := Lib.hid (And.intro hfl hgl)
    clear h2 HF3 hfs hfl hgl
    go_wp2_with fail
    rw [rounds_succ]
    go_wp2_with fail
    refine (ask_whom R _ _ fv _ _ _ _ fs (HR3.out.alloc _) (HF.out.below ((Below.refl _ _).alloc (Nat.le_refl _) _)) (by have := HGL.out.1; omega)).mono ?_
    rintro e w4 ⟨rfl, hr4, hg4⟩
    have HP4 := Lib.hid ((HP3.out.alloc _).keep hg4)
    obtain ⟨-, -, -, q3⟩ := HP4.out.cells
    have HR4 := Lib.hid hr4
    have HG4 := Lib.hid hg4
    clear hr4 hg4 q2
    by_cases h3 : whoE fs = 0
    case neg =>
      have HVB := Lib.hid (askV_bad s (whoE fs) (by rw [HL.out]; unfold lnE; rw [if_neg (fun h => h H1.out), if_neg (fun h => h H2.out), HFS.out, if_pos h3]) h3)
      have tz : ((whoE fs : Int) != 0) = true := by rw [bne_iff_ne]; omega
      obtain ⟨⟨d0, d1, d2, d3⟩, ⟨g0, g1, g2, g3⟩⟩ := four_of HP4.out.res
      clear h3 q3
      go_wp2_with fail
      refine ret_cell3 (A := ⟨w.heap.size, 0, none⟩) rfl (load_req _ _ _ _ _ _ _ (four_set HP4.out.res _ _ _ _)) rfl rfl rfl rfl ?_
      exact ⟨by rw [← HV.out, HVB.out]; rfl, four_below HP4.out.bel _ (Nat.le_refl _) _ _ _ _⟩
    have H3 := Lib.hid h3
    rw [h3]
    clear h3
    go_wp2_with fail
    rw [rounds_succ]
    go_wp2_with fail
    have HF4 : Hid (HoldsF w4 fv fs) := Lib.hid (HoldsF.of_own (own_grown (own_keep HFO.out ((Below.refl _ _).alloc (Nat.le_refl _) _)) HG4.out hRb.out))
    refine (ask_what R _ _ fv _ _ _ _ fs (HR4.out.alloc _) (HF4.out.below ((Below.refl _ _).alloc (Nat.le_refl _) _)) (by have := HGL.out.1; omega) (by have := HGL.out.2; omega) (HP4.out.alloc _).anc).mono ?_
    rintro e w5 ⟨rfl, ⟨a5, b5, hr5, ha5⟩, hg5⟩
    have HP5 := Lib.hid ((HP4.out.alloc _).keep hg5)
    have HR5 := Lib.hid hr5
    have HA5 := Lib.hid ha5
    clear hr5 hg5 q3 ha5
    by_cases h4 : whatE fs = 0
    case neg =>
      have HVB := Lib.hid (askV_bad s (whatE fs) (by rw [HL.out]; unfold lnE; rw [if_neg (fun h => h H1.out), if_neg (fun h => h H2.out), HFS.out, if_neg (fun h => h H3.out)]) h4)
      have tz : ((whatE fs : Int) != 0) = true := by rw [bne_iff_ne]; omega
      obtain ⟨⟨d0, d1, d2, d3⟩, ⟨g0, g1, g2, g3⟩⟩ := four_of HP5.out.res
      clear h4
      go_wp2_with fail
      refine ret_cell3 (A := ⟨w.heap.size, 0, none⟩) rfl (load_req _ _ _ _ _ _ _ (four_set HP5.out.res _ _ _ _)) rfl rfl rfl rfl ?_
      exact ⟨by rw [← HV.out, HVB.out]; rfl, four_below HP5.out.bel _ (Nat.le_refl _) _ _ _ _⟩
    obtain ⟨rfl, rfl⟩ := HA5.out h4
    have HVG := Lib.hid (askV_good s ls n HHd.out (by unfold lnE; rw [if_neg (fun h => h H1.out), if_neg (fun h => h H2.out), HFS.out, if_neg (fun h => h H3.out)]; exact h4))
    rw [h4]
    obtain ⟨-, -, r2, r3, r4, r5⟩ := HR5.out.cells
    obtain ⟨⟨d0, d1, d2, d3⟩, ⟨g0, g1, g2, g3⟩⟩ := four_of HP5.out.res
    clear h4 HA5
    go_wp2_with fail
    rw [rounds_succ]
    go_wp2_with fail
    refine ret_cell3 (A := ⟨w.heap.size, 0, none⟩) rfl (load_req _ _ _ _ _ _ _ (four_set HP5.out.res _ _ _ _)) rfl rfl rfl rfl ?_
    exact ⟨by rw [← HV.out, HVG.out, HFS.out]; rfl, four_below HP5.out.bel _ (Nat.le_refl _) _ _ _ _⟩
  · have HVB := Lib.hid (askV_bad s e (by unfold askE; rw [HHd.out]; exact if_pos he) he)
    have tz : ((e : Int) != 0) = true := by rw [bne_iff_ne]; omega
    clear he
    go_enter Tryz.func55, Tryz.ntmps55
    go_wp2_with fail
    refine HH.out.mono ?_
    rintro e w1 ⟨v, rfl, -, hb1⟩
    have HB1 := Lib.hid hb1
    have HK := Lib.hid ((hb1.block w.heap.size (by simp)).trans (heap_alloc_new w _))
    obtain ⟨⟨d0, d1, d2, d3⟩, ⟨g0, g1, g2, g3⟩⟩ := four_of HK.out
    clear hb1
    go_wp2_with fail
    refine ret_cell3 (A := ⟨w.heap.size, 0, none⟩) rfl (load_req _ _ _ _ _ _ _ (four_set HK.out _ _ _ _)) rfl rfl rfl rfl ?_
    exact ⟨by rw [← HV.out, HVB.out]; rfl, four_below (bstep (below_agg4 w _ _ _ _ _) HB1.out) _ (Nat.le_refl _) _ _ _ _⟩
end Go.Proofs.YthcomjhpjlcpdaaGreatDoor
namespace Go.Proofs.YthcomjhpjlcpdaaGreatDoor
open Go.RowKit

set_option maxRecDepth 100000 in
set_option maxHeartbeats 2000000 in
theorem ref_first (w : World) (v : Value) (ws : List (List UInt8)) (hv : HoldsS w v ws) (hx : ∀ x ∈ ws, x.length ≤ 1000000) :
    Calls Tryz.prog 99 #[v] w fun e w' => e = .returned (.int .i64 (firstW ws : Nat)) ∧ w' = w := by
  obtain ⟨av, cv, rfl, hc, hh⟩ := hv
  obtain ⟨Z, hZ⟩ : ∃ Z, firstW ws = Z := ⟨_, rfl⟩
  rw [hZ]
  by_cases h3 : ws.length = 3
  · obtain ⟨B', o', rfl, hBl', hcell'⟩ := hh (by intro e; rw [e] at h3; simp at h3)
    have d0 := hcell' 0 (by omega)
    have d1 := hcell' 1 (by omega)
    have d2 := hcell' 2 (by omega)
    rw [Nat.add_zero] at d0
    obtain ⟨y0, y1, y2, rfl⟩ : ∃ y0 y1 y2, ws = [y0, y1, y2] := by
      match ws, h3 with
      | [y0, y1, y2], _ => exact ⟨y0, y1, y2, rfl⟩
    change w.cell? ⟨B', o', none⟩ = some (.string (bs y0)) at d0
    change w.cell? ⟨B', o' + 1, none⟩ = some (.string (bs y1)) at d1
    change w.cell? ⟨B', o' + 2, none⟩ = some (.string (bs y2)) at d2
    have hy1 : y1.length ≤ 1000000 := hx y1 (by simp)
    have HP := Lib.hid (fun w => ref_path (bs y1) w (by rw [bs_size]; omega))
    rw [bs_data] at HP
    have e0 := bs_lit y0 [71, 69, 84]
    have e2 := bs_lit y2 [72, 84, 84, 80, 47, 49, 46, 49]
    clear hcell' hh h3 hx
    by_cases q0 : y0 = [71, 69, 84]
    · rw [decide_eq_true q0] at e0
      by_cases q2 : y2 = [72, 84, 84, 80, 47, 49, 46, 49]
      · rw [decide_eq_true q2] at e2
        cases hp : pathB y1 with
        | false =>
          rw [hp] at HP
          have HFF : Hid (Z = 2) := Lib.hid (by rw [← hZ]; unfold firstW; simp [q0, q2, hp])
          clear hp q0 q2 hZ
          go_enter Tryz.func99, Tryz.ntmps99
          go_wp2_with fail
          refine (HP.out _).mono ?_
          rintro e w' ⟨rfl, rfl⟩
          go_wp2_with fail
          go_ret
          exact ⟨by rw [HFF.out]; rfl, rfl⟩
        | true =>
          rw [hp] at HP
          have HFF : Hid (Z = 0) := Lib.hid (by rw [← hZ]; unfold firstW; simp [q0, q2, hp])
          clear hp q0 q2 hZ
          go_enter Tryz.func99, Tryz.ntmps99
          go_wp2_with fail
          refine (HP.out _).mono ?_
          rintro e w' ⟨rfl, rfl⟩
          go_wp2_with fail
          go_ret
          exact ⟨by rw [HFF.out]; rfl, rfl⟩
      · rw [decide_eq_false q2] at e2
        have HFF : Hid (Z = 13) := Lib.hid (by rw [← hZ]; unfold firstW; simp [q0, q2])
        clear q0 q2 hZ
        go_enter Tryz.func99, Tryz.ntmps99
        go_wp2_with fail
        go_ret
        exact ⟨by rw [HFF.out]; rfl, rfl⟩
    · rw [decide_eq_false q0] at e0
      have HFF : Hid (Z = 14) := Lib.hid (by rw [← hZ]; unfold firstW; simp [q0])
      clear q0 hZ
      go_enter Tryz.func99, Tryz.ntmps99
      go_wp2_with fail
      go_ret
      exact ⟨by rw [HFF.out]; rfl, rfl⟩
  · have HFF : Hid (Z = 4) := Lib.hid (by rw [← hZ]; unfold firstW; rw [if_pos h3])
    have t3 : ((ws.length : Int) != 3) = true := by rw [bne_iff_ne]; omega
    clear hh h3 hx hZ
    go_enter Tryz.func99, Tryz.ntmps99
    go_wp2_with fail
    go_ret
    exact ⟨by rw [HFF.out]; rfl, rfl⟩
theorem info_rfield : (Tryz.prog.info? 102).map (fun i => (i.zero, i.size, i.bytes)) = some (some (.agg #[.string ByteArray.empty, .string ByteArray.empty]), 2, 32) := by kernel_rfl
theorem append_rfield {ops : Array Oper} {rest : List Oper} {o : Oper} {a : Act} {Q : Exit → Act → World → Prop} (w0 : World) (hgd : o.guard = none) (s x : Operand)
    (ho : o.op = .call { callee := .builtin .append, args := #[s, x], argTypes := #[93, 93] })
    (base : Nat) (v : Value) (fs : List (List UInt8 × List UInt8)) (hs : a.eval s = v) (hown : w0.ownsRow base 102 2 v fs.length (fcells fs))
    (p q : ByteArray) (f : List UInt8 × List UInt8) (hp : p = bs f.1) (hq : q = bs f.2) (H : Nat) (hH : w0.heap.size = H) (hx : a.eval x = .slice (some ⟨H, 0, none⟩) 1 1) (hn : fs.length < 2147483648) (hbase : base ≤ w0.heap.size)
    (h : ∀ v' w', w'.ownsRow base 102 2 v' (fs ++ [f]).length (fcells (fs ++ [f])) → w0.grownBy w' v.ownBlock → v' ≠ .slice none 0 0 → wpList Tryz.prog ops Q rest (a.put o.dst v') w') :
    wpList Tryz.prog ops Q (o :: rest) a (w0.alloc (.cells #[.string p, .string q] 102)) := by
  obtain ⟨i0, hi, hz0, hz1, hz2⟩ := info_parts info_rfield
  subst hp hq hH
  refine wpList_append_own _ hgd s x 93 ho base 102 i0 _ 2 32 Tryz.underlying93 hi hz0 hz1 hz2 rfl (by decide) v fs.length (fcells fs) hs (hown.alloc _) ⟨w0.heap.size, 0, none⟩ 1 1 [.string (bs f.1), .string (bs f.2)] hx rfl (cell_two_new w0 _ _ _) (by simp [Value.oneCell']) (by unfold maxLen; omega) (by omega) (by simp; omega) ?_
  intro v' w' h2 h3 h4
  refine h v' w' ?_ ?_ (fun e => by have := (h4.1 e).2; omega)
  · rw [List.length_append, fcells_append]; exact h2
  · exact ⟨h3.os, h3.tape, h3.output, Nat.le_trans (by simp) h3.size, fun k hk hne => (h3.block k (by simp; omega) hne).trans (heap_alloc_old w0 _ hk)⟩
def FieldsPost (ls : List (List UInt8)) (w : World) (e : Ending) (w' : World) : Prop :=
  ∃ v, e = .returned (.tuple #[v, .int .i64 (fldE ls : Nat)]) ∧ (∃ a c n, v = .slice a n c) ∧ (fldE ls = 0 → HoldsF w' v (fldL ls)) ∧ Below w.heap.size w w'
set_option maxRecDepth 100000 in
set_option maxHeartbeats 4000000 in
theorem ref_fields (w : World) (v : Value) (xs : List (List UInt8)) (hv : HoldsS w v xs) (hlen : xs.length ≤ 1000000) (hx : ∀ x ∈ xs, x.length ≤ 1000000) :
    Calls Tryz.prog 100 #[v] w (FieldsPost xs w) := by
  obtain ⟨a, c, rfl, hc, hh⟩ := hv
  have HC := Lib.hid hh
  have HX := Lib.hid hx
  clear hh hx
  go_enter Tryz.func100, Tryz.ntmps100
  go_wp2_with fail
  go_loopw [4, 5] (fun u i wr => ∃ k : Nat, k ≤ xs.length ∧ i = .int .i64 k ∧ wr.ownsRow w.heap.size 102 2 u (fldL (xs.take k)).length (fcells (fldL (xs.take k))) ∧ Below w.heap.size w wr ∧ Hid (∀ j (hj : j < xs.length), j < k → parseE xs[j] = 0)) (fun _ i _ => xs.length - (intOf i).toNat)
  case atStart => exact ⟨0, by omega, rfl, by rw [List.take_zero]; exact World.ownsRow_nil _ _ _ _, Below.refl _ _, Lib.hid (fun j hj h => absurd h (Nat.not_lt_zero _))⟩
  case round =>
    obtain ⟨k, hk, rfl, hown, hb, HK⟩ := hrel
    by_cases hlt : k < xs.length
    · obtain ⟨b, o, rfl, hbl, hcell⟩ := HC.out (fun e => by rw [e] at hlt; exact absurd hlt (Nat.not_lt_zero _))
      have c0 := (hb.cell (p := ⟨b, o + k, none⟩) hbl).trans (hcell k hlt)
      obtain ⟨S, hS⟩ : ∃ S, bs xs[k] = S := ⟨_, rfl⟩
      have hSd : S.data.toList = xs[k] := by rw [← hS, bs_data]
      have hSs : S.size ≤ 1000000 := by rw [← hS, bs_size]; exact HX.out _ (List.getElem_mem hlt)
      rw [hS] at c0
      have HN := Lib.hid (fun w => ref_fparse S w hSs)
      rw [hSd] at HN
      have hkl : (fldL (xs.take k)).length < 2147483648 := by unfold fldL; rw [List.length_map, List.length_take]; omega
      have tl : decide ((k : Int) < (xs.length : Int)) = true := decide_eq_true (by omega)
      clear hcell hS hSd
      by_cases hz : parseE xs[k] = 0
      · rw [hz] at HN
        have HK2 : Hid (∀ j (hj : j < xs.length), j < k + 1 → parseE xs[j] = 0) := Lib.hid (fun j hj h => by
          by_cases e : j = k
          · subst e; exact hz
          · exact HK.out j hj (by omega))
        have hstep : Hid (fldL (xs.take (k + 1)) = fldL (xs.take k) ++ [(parseN xs[k], parseV xs[k])]) := Lib.hid (fldL_snoc xs k hlt)
        clear hz HK
        go_wp2_with fail
        refine (HN.out _).mono ?_
        rintro e w1 ⟨rfl, hb1⟩
        have hown1 : w1.ownsRow w.heap.size 102 2 _ (fldL (xs.take k)).length (fcells (fldL (xs.take k))) := own_keep hown hb1
        have hb2 := bstep hb hb1
        clear hown c0
        have hown2 := own_keep hown1 ((Below.refl w1.heap.size w1).alloc (Nat.le_refl _) (.cells #[.string (bs (parseN xs[k])), .string (bs (parseV xs[k]))] 102))
        have hb3 := bstep hb2 ((Below.refl w1.heap.size w1).alloc (Nat.le_refl _) (.cells #[.string (bs (parseN xs[k])), .string (bs (parseV xs[k]))] 102))
        obtain ⟨j0, j1⟩ := box2 w1 (.string (bs (parseN xs[k]))) (.string (bs (parseV xs[k]))) 102
        go_wp2_with (at_builtin; go_loud (refine append_rfield (w1.alloc (.cells #[.string (bs (parseN xs[k])), .string (bs (parseV xs[k]))] 102)) (by rfl) _ _ (by rfl) w.heap.size _ (fldL (xs.take k)) (by rfl) hown2 (bs (parseN xs[k])) (bs (parseV xs[k])) (parseN xs[k], parseV xs[k]) rfl rfl (w1.heap.size + 1) (by simp) (by rfl) hkl hb3.size ?_); intro v' w2 hown3 hg3 hne3)
        go_roundw
        case rel => exact ⟨k + 1, by omega, by go_num, by rw [hstep.out]; exact hown3, below_ownF hb3 hg3 hown2 (Nat.le_refl _) hb3.size, HK2⟩
        case measure => simp [intOf]; omega
      · have HR : Hid (fldE xs = parseE xs[k]) := Lib.hid (fldE_at xs k hlt HK.out hz)
        have tz : ((parseE xs[k] : Int) != 0) = true := by rw [bne_iff_ne]; omega
        have hz2 : Hid (parseE xs[k] ≠ 0) := Lib.hid hz
        clear hz HK
        go_wp2_with fail
        refine (HN.out _).mono ?_
        rintro e w1 ⟨rfl, hb1⟩
        have hb2 := bstep hb hb1
        clear c0 hown
        go_wp2_with fail
        go_ret2
        exact ⟨_, by rw [HR.out]; rfl, ⟨_, _, _, rfl⟩, fun h => absurd (HR.out ▸ h) hz2.out, hb2.alloc (by have := hb2.size; omega) _⟩
    · have hall : xs.take k = xs := List.take_of_length_le (by omega)
      have HR : Hid (fldE xs = 0) := Lib.hid (fldE_all xs (fun j hj => HK.out j hj (by omega)))
      rw [hall] at hown
      obtain ⟨av, cv, rfl⟩ := slice_of_own hown
      have tl : decide ((k : Int) < (xs.length : Int)) = false := decide_eq_false (by omega)
      clear hall HK
      go_wp2_with fail
      go_ret2
      exact ⟨_, by rw [HR.out]; rfl, ⟨_, _, _, rfl⟩, fun _ => HoldsF.of_own hown, hb⟩
end Go.Proofs.YthcomjhpjlcpdaaGreatDoor
namespace Go.Proofs.YthcomjhpjlcpdaaGreatDoor
open Go.RowKit

theorem res_block {w w1 : World} {x y z u : Value} {t : TypeId} (hb : Below (w.alloc (.cells #[x, y, z, u] t)).heap.size (w.alloc (.cells #[x, y, z, u] t)) w1) : w1.heap[w.heap.size]? = some (.cells #[x, y, z, u] t (0, 0)) :=
  (hb.block _ (by simp)).trans (heap_alloc_new w _)
theorem get_rk (v : Value) (fs : List (List UInt8 × List UInt8)) (n : ByteArray) (k : List UInt8) (hk : n.data.toList = k) (w : World) (hv : HoldsF w v fs) (hlen : fs.length ≤ 1000000) :
    Calls Tryz.prog 101 #[v, .string n] w fun e w' => e = .returned (.tuple #[.string (bs (getS fs k)), .int .i64 (getE fs k)]) ∧ w' = w := by
  subst hk; exact ref_get v fs n w hv hlen
/-- the tail of a slice of texts -/
theorem HoldsS.tail {w : World} {b o c : Nat} {x : List UInt8} {xs : List (List UInt8)} (h : HoldsS w (.slice (some ⟨b, o, none⟩) (x :: xs).length c) (x :: xs)) (hc : 1 < c) : HoldsS w (.slice (some ⟨b, o + 1, none⟩) xs.length (c - 1)) xs := by
  obtain ⟨a, c', hv, hcc, hh⟩ := h
  injection hv with h1 h2 h3
  subst h1 h3
  obtain ⟨b', o', hbo, hbl, hcell⟩ := hh (by simp)
  injection hbo with hbo
  injection hbo with h4 h5
  subst h4 h5
  refine ⟨_, _, rfl, by simp at hcc; omega, fun _ => ⟨b, o + 1, rfl, hbl, fun j hj => ?_⟩⟩
  have := hcell (j + 1) (by simp; omega)
  rw [show o + 1 + j = o + (j + 1) by omega]; exact this
theorem lnE_split (ls : List (List UInt8)) : lnE ls = if firstL ls ≠ 0 then firstL ls else if fldE ls.tail ≠ 0 then fldE ls.tail else if getE (fldL ls.tail) hostK ≠ 0 then getE (fldL ls.tail) hostK else if hostB (getS (fldL ls.tail) hostK) = false then 2 else if getE (fldL ls.tail) rangeK ≠ 0 then getE (fldL ls.tail) rangeK else askedE (getS (fldL ls.tail) rangeK) := by
  unfold lnE whoE whatE
  by_cases h1 : firstL ls ≠ 0
  · rw [if_pos h1, if_pos h1]
  · rw [if_neg h1, if_neg h1]
    by_cases h2 : fldE ls.tail ≠ 0
    · rw [if_pos h2, if_pos h2]
    · rw [if_neg h2, if_neg h2]
      by_cases h3 : getE (fldL ls.tail) hostK ≠ 0
      · rw [if_pos h3, if_pos h3, if_pos h3]
      · rw [if_neg h3, if_neg h3]
        by_cases h4 : hostB (getS (fldL ls.tail) hostK) = false
        · rw [if_pos h4, if_pos h4, if_pos (by decide)]
        · rw [if_neg h4, if_neg h4, if_neg (by decide)]
set_option maxRecDepth 100000 in
set_option maxHeartbeats 3000000 in
theorem ref_aparse (s : ByteArray) (w : World) (hs : s.size ≤ 1000000) :
    Calls Tryz.prog 66 #[.string s] w fun e w' => e = .returned (askV s) ∧ Below w.heap.size w w' := by
  have HH := Lib.hid (ref_head s (w.alloc (.cells #[.string ⟨#[]⟩, .string ⟨#[]⟩, .int .i64 0, .int .i64 0] 126)) (by omega))
  obtain ⟨V, hV⟩ : ∃ V, askV s = V := ⟨_, rfl⟩
  rw [hV]
  have HV := Lib.hid hV
  have hbd := headOf_bound s
  unfold HeadPost at HH
  obtain ⟨⟨ls, n, e⟩, hh⟩ : ∃ T, headOf s = T := ⟨_, rfl⟩
  rw [hh] at HH hbd
  have HHd := Lib.hid hh
  change (∀ x ∈ ls, x.length ≤ 256) ∧ ls.length ≤ 17 at hbd
  change Hid (Calls _ _ _ _ fun r w' => ∃ v, r = .returned (.tuple #[v, .int .i64 n, .int .i64 (e : Nat)]) ∧ w'.ownsRow _ 9 1 v ls.length (strs ls) ∧ _) at HH
  have HBD := Lib.hid hbd
  clear hV hbd hh
  by_cases he : e ≠ 0
  · have HVB := Lib.hid (askV_bad s e (by unfold askE; rw [HHd.out]; exact if_pos he) he)
    have tz : ((e : Int) != 0) = true := by rw [bne_iff_ne]; omega
    clear he
    go_enter Tryz.func66, Tryz.ntmps66
    go_wp2_with fail
    refine HH.out.mono ?_
    rintro e w1 ⟨v, rfl, -, hb1⟩
    have HB1 := Lib.hid hb1
    obtain ⟨⟨d0, d1, d2, d3⟩, ⟨g0, g1, g2, g3⟩⟩ := four_of (res_block hb1)
    clear hb1
    go_wp2_with fail
    refine ret_cell3 (A := ⟨w.heap.size, 0, none⟩) rfl (load_rreq _ _ _ _ _ _ _ (four_set (res_block HB1.out) _ _ _ _)) rfl rfl rfl rfl ?_
    exact ⟨by rw [← HV.out, HVB.out]; rfl, four_below (bstep (below_agg4 w _ _ _ _ _) HB1.out) _ (Nat.le_refl _) _ _ _ _⟩
  have he0 : e = 0 := by omega
  subst he0
  have HL : Hid (askE s = lnE ls) := Lib.hid (by unfold askE; rw [HHd.out]; rfl)
  cases ls with
  | nil =>
    have HVB := Lib.hid (askV_bad s 4 (by rw [HL.out]; rfl) (by decide))
    clear he
    go_enter Tryz.func66, Tryz.ntmps66
    go_wp2_with fail
    refine HH.out.mono ?_
    rintro e w1 ⟨v, rfl, hown, hb1⟩
    obtain ⟨av, cv, rfl⟩ := slice_of_own hown
    have HB1 := Lib.hid hb1
    obtain ⟨⟨d0, d1, d2, d3⟩, ⟨g0, g1, g2, g3⟩⟩ := four_of (res_block hb1)
    clear hb1 hown
    go_wp2_with fail
    refine ret_cell3 (A := ⟨w.heap.size, 0, none⟩) rfl (load_rreq _ _ _ _ _ _ _ (four_set (res_block HB1.out) _ _ _ _)) rfl rfl rfl rfl ?_
    exact ⟨by rw [← HV.out, HVB.out]; rfl, four_below (bstep (below_agg4 w _ _ _ _ _) HB1.out) _ (Nat.le_refl _) _ _ _ _⟩
  | cons x xs =>
    have hxl : x.length ≤ 256 := HBD.out.1 x (List.mem_cons_self ..)
    have HF : Hid (firstL (x :: xs) = firstW (words x) ∧ wordL (x :: xs) = (words x).getD 1 []) := Lib.hid ⟨by unfold firstL; rw [if_neg (by simp)]; rfl, rfl⟩
    have HW := Lib.hid (fun w => ref_words (bs x) w (by rw [bs_size]; omega))
    rw [bs_data] at HW
    have hwl := words_len x
    obtain ⟨ws, hws⟩ : ∃ ws, words x = ws := ⟨_, rfl⟩
    rw [hws] at HF HW hwl
    have HWL := Lib.hid hwl
    have HXS : Hid (∀ y ∈ xs, y.length ≤ 256) := Lib.hid (fun y hy => HBD.out.1 y (List.mem_cons_of_mem _ hy))
    have hxn : xs.length ≤ 16 := by have := HBD.out.2; simp at this; omega
    clear hwl he hws
    go_enter Tryz.func66, Tryz.ntmps66
    go_wp2_with fail
    refine HH.out.mono ?_
    rintro e w1 ⟨v, rfl, hown, hb1⟩
    have hS := HoldsS.of_own hown
    obtain ⟨av, cv, hv, hcv, hhv⟩ := hS
    subst hv
    obtain ⟨B, o, rfl, hBl, hcell⟩ := hhv (by simp)
    have c0 := hcell 0 (by simp)
    rw [Nat.add_zero] at c0
    change w1.cell? ⟨B, o, none⟩ = some (.string (bs x)) at c0
    have HS : Hid (HoldsS w1 (.slice (some ⟨B, o, none⟩) (x :: xs).length cv) (x :: xs)) := Lib.hid (HoldsS.of_own hown)
    have HB1 := Lib.hid hb1
    have hll : ((x :: xs).length : Nat) = xs.length + 1 := rfl
    rw [hll] at hcv ⊢
    clear hb1 hown hcell hhv hll
    go_wp2_with fail
    refine (HW.out _).mono ?_
    rintro e w2 ⟨v2, rfl, hown2, hb2⟩
    obtain ⟨a2, cv2, rfl⟩ := slice_of_own hown2
    have HS2 := Lib.hid (HoldsS.of_own hown2)
    have HST := Lib.hid (HS.out.below hb2)
    have HB2 := Lib.hid (bstep HB1.out hb2)
    clear hb2 hown2 c0
    go_wp2_with fail
    refine (ref_first _ _ ws HS2.out (fun y hy => by have := HWL.out y hy; omega)).mono ?_
    rintro e w2 ⟨rfl, rfl⟩
    by_cases h1 : firstW ws = 0
    case neg =>
      have HVB := Lib.hid (askV_bad s (firstW ws) (by rw [HL.out, lnE_split, HF.out.1, if_pos h1]) h1)
      have tz : ((firstW ws : Int) != 0) = true := by rw [bne_iff_ne]; omega
      obtain ⟨⟨d0, d1, d2, d3⟩, ⟨g0, g1, g2, g3⟩⟩ := four_of (res_block HB2.out)
      clear h1
      go_wp2_with fail
      refine ret_cell3 (A := ⟨w.heap.size, 0, none⟩) rfl (load_rreq _ _ _ _ _ _ _ (four_set (res_block HB2.out) _ _ _ _)) rfl rfl rfl rfl ?_
      exact ⟨by rw [← HV.out, HVB.out]; rfl, four_below (bstep (below_agg4 w _ _ _ _ _) HB2.out) _ (Nat.le_refl _) _ _ _ _⟩
    have H1 : Hid (firstL (x :: xs) = 0) := Lib.hid (HF.out.1.trans h1)
    have hw3 : Hid (ws.length = 3) := Lib.hid (by
      unfold firstW at h1
      split at h1
      · exact absurd h1 (by decide)
      · rename_i hn; exact Classical.not_not.1 hn)
    rw [h1]
    clear h1
    by_cases hx0 : xs = []
    · subst hx0
      have HVB := Lib.hid (askV_bad s 6 (by rw [HL.out, lnE_split, if_neg (fun h => h H1.out)]; rfl) (by decide))
      have HFE : Hid (∀ a c w, Calls Tryz.prog 100 #[.slice a 0 c] w (FieldsPost [] w)) := Lib.hid (fun a c w => ref_fields w (.slice a 0 c) [] (HoldsS.empty w a c) (by decide) (fun x h => by simp at h))
      by_cases hc : cv = 1
      all_goals
        go_wp2_with fail
        refine (HFE.out _ _ _).mono ?_
        rintro e w3 ⟨v3, rfl, ⟨a3, n3, c3, rfl⟩, hf3, hb3⟩
        have HF3 := Lib.hid (hf3 rfl)
        have HB3 := Lib.hid (bstep HB2.out hb3)
        clear hf3 hb3
        go_wp2_with fail
        refine (get_rk _ _ ⟨#[104, 111, 115, 116]⟩ hostK rfl _ HF3.out (by decide)).mono ?_
        rintro e w3 ⟨rfl, rfl⟩
        obtain ⟨⟨d0, d1, d2, d3⟩, ⟨g0, g1, g2, g3⟩⟩ := four_of (res_block HB3.out)
        rw [show getE (fldL []) hostK = 6 from rfl]
        go_wp2_with fail
        refine ret_cell3 (A := ⟨w.heap.size, 0, none⟩) rfl (load_rreq _ _ _ _ _ _ _ (four_set (res_block HB3.out) _ _ _ _)) rfl rfl rfl rfl ?_
        exact ⟨by rw [← HV.out, HVB.out]; rfl, four_below (bstep (below_agg4 w _ _ _ _ _) HB3.out) _ (Nat.le_refl _) _ _ _ _⟩
    · have hyp : 0 < xs.length := List.length_pos_iff.2 hx0
      have hc : 1 < cv := by omega
      have HT : Hid (HoldsS w2 (.slice (some ⟨B, o + 1, none⟩) xs.length (cv - 1)) xs) := Lib.hid (HST.out.tail hc)
      have HFE := Lib.hid (ref_fields w2 _ xs HT.out (by omega) (fun y hy => by have := HXS.out y hy; omega))
      obtain ⟨fs, hfs⟩ : ∃ fs, fldL xs = fs := ⟨_, rfl⟩
      have hfl : fs.length ≤ 17 := by rw [← hfs]; unfold fldL; rw [List.length_map]; omega
      have hgl : (getS fs rangeK).length ≤ 256 := by rw [← hfs]; exact getS_len xs rangeK HXS.out
      have hgh : (getS fs hostK).length ≤ 256 := by rw [← hfs]; exact getS_len xs hostK HXS.out
      have HLN : Hid (lnE (x :: xs) = if fldE xs ≠ 0 then fldE xs else if getE fs hostK ≠ 0 then getE fs hostK else if hostB (getS fs hostK) = false then 2 else if getE fs rangeK ≠ 0 then getE fs rangeK else askedE (getS fs rangeK)) := Lib.hid (by rw [lnE_split, if_neg (fun h => h H1.out), List.tail_cons, hfs])
      have HFS := Lib.hid hfs
      clear hfs hx0
      go_wp2_with fail
      refine HFE.out.mono ?_
      rintro e w3 ⟨v3, rfl, ⟨a3, n3, c3, rfl⟩, hf3, hb3⟩
      have HF3' := Lib.hid hf3
      have HB3 := Lib.hid (bstep HB2.out hb3)
      have HS3 := Lib.hid (HS2.out.below hb3)
      clear hf3 hb3
      by_cases h2 : fldE xs = 0
      case neg =>
        have HVB := Lib.hid (askV_bad s (fldE xs) (by rw [HL.out, HLN.out, if_pos h2]) h2)
        have tz : ((fldE xs : Int) != 0) = true := by rw [bne_iff_ne]; omega
        obtain ⟨⟨d0, d1, d2, d3⟩, ⟨g0, g1, g2, g3⟩⟩ := four_of (res_block HB3.out)
        clear h2
        go_wp2_with fail
        refine ret_cell3 (A := ⟨w.heap.size, 0, none⟩) rfl (load_rreq _ _ _ _ _ _ _ (four_set (res_block HB3.out) _ _ _ _)) rfl rfl rfl rfl ?_
        exact ⟨by rw [← HV.out, HVB.out]; rfl, four_below (bstep (below_agg4 w _ _ _ _ _) HB3.out) _ (Nat.le_refl _) _ _ _ _⟩
      have HF3 : Hid (HoldsF w3 (.slice a3 c3 n3) fs) := Lib.hid (by rw [← HFS.out]; exact HF3'.out h2)
      have H2 := Lib.hid h2
      rw [h2]
      clear h2 HF3'
      go_wp2_with fail
      refine (get_rk _ fs ⟨#[104, 111, 115, 116]⟩ hostK rfl _ HF3.out (by omega)).mono ?_
      rintro e w3 ⟨rfl, rfl⟩
      by_cases h3 : getE fs hostK = 0
      case neg =>
        have HVB := Lib.hid (askV_bad s (getE fs hostK) (by rw [HL.out, HLN.out, if_neg (fun h => h H2.out), if_pos h3]) h3)
        have tz : ((getE fs hostK : Int) != 0) = true := by rw [bne_iff_ne]; omega
        obtain ⟨⟨d0, d1, d2, d3⟩, ⟨g0, g1, g2, g3⟩⟩ := four_of (res_block HB3.out)
        clear h3
        go_wp2_with fail
        refine ret_cell3 (A := ⟨w.heap.size, 0, none⟩) rfl (load_rreq _ _ _ _ _ _ _ (four_set (res_block HB3.out) _ _ _ _)) rfl rfl rfl rfl ?_
        exact ⟨by rw [← HV.out, HVB.out]; rfl, four_below (bstep (below_agg4 w _ _ _ _ _) HB3.out) _ (Nat.le_refl _) _ _ _ _⟩
      have H3 := Lib.hid h3
      rw [h3]
      clear h3
      go_wp2_with fail
      refine (ref_host _ _ (by rw [bs_size]; omega)).mono ?_
      rintro e w3 ⟨rfl, rfl⟩
      rw [bs_data]
      cases h4 : hostB (getS fs hostK) with
      | false =>
        have HVB := Lib.hid (askV_bad s 2 (by rw [HL.out, HLN.out, if_neg (fun h => h H2.out), if_neg (fun h => h H3.out), if_pos h4]) (by decide))
        obtain ⟨⟨d0, d1, d2, d3⟩, ⟨g0, g1, g2, g3⟩⟩ := four_of (res_block HB3.out)
        clear h4
        go_wp2_with fail
        refine ret_cell3 (A := ⟨w.heap.size, 0, none⟩) rfl (load_rreq _ _ _ _ _ _ _ (four_set (res_block HB3.out) _ _ _ _)) rfl rfl rfl rfl ?_
        exact ⟨by rw [← HV.out, HVB.out]; rfl, four_below (bstep (below_agg4 w _ _ _ _ _) HB3.out) _ (Nat.le_refl _) _ _ _ _⟩
      | true =>
        have H4 := Lib.hid h4
        clear h4
        go_wp2_with fail
        refine (get_rk _ fs ⟨#[114, 97, 110, 103, 101]⟩ rangeK rfl _ HF3.out (by omega)).mono ?_
        rintro e w3 ⟨rfl, rfl⟩
        by_cases h5 : getE fs rangeK = 0
        case neg =>
          have HVB := Lib.hid (askV_bad s (getE fs rangeK) (by rw [HL.out, HLN.out, if_neg (fun h => h H2.out), if_neg (fun h => h H3.out), if_neg (by rw [H4.out]; decide), if_pos h5]) h5)
          have tz : ((getE fs rangeK : Int) != 0) = true := by rw [bne_iff_ne]; omega
          obtain ⟨⟨d0, d1, d2, d3⟩, ⟨g0, g1, g2, g3⟩⟩ := four_of (res_block HB3.out)
          clear h5
          go_wp2_with fail
          refine ret_cell3 (A := ⟨w.heap.size, 0, none⟩) rfl (load_rreq _ _ _ _ _ _ _ (four_set (res_block HB3.out) _ _ _ _)) rfl rfl rfl rfl ?_
          exact ⟨by rw [← HV.out, HVB.out]; rfl, four_below (bstep (below_agg4 w _ _ _ _ _) HB3.out) _ (Nat.le_refl _) _ _ _ _⟩
        have H5 := Lib.hid h5
        rw [h5]
        clear h5
        go_wp2_with fail
        refine (ref_asked (bs (getS fs rangeK)) _ (by rw [bs_size]; omega)).mono ?_
        rintro e w4 ⟨rfl, hb4⟩
        rw [bs_data]
        have HB4 := Lib.hid (bstep HB3.out hb4)
        have HS4 := Lib.hid (HS3.out.below hb4)
        obtain ⟨⟨d0, d1, d2, d3⟩, ⟨g0, g1, g2, g3⟩⟩ := four_of (res_block HB4.out)
        clear hb4
        have HLL : Hid (lnE (x :: xs) = askedE (getS fs rangeK)) := Lib.hid (by rw [HLN.out, if_neg (fun h => h H2.out), if_neg (fun h => h H3.out), if_neg (by rw [H4.out]; decide), if_neg (fun h => h H5.out)])
        by_cases h6 : askedE (getS fs rangeK) = 0
        case neg =>
          have HVB := Lib.hid (askV_bad s (askedE (getS fs rangeK)) (by rw [HL.out, HLL.out]) h6)
          have tz : ((askedE (getS fs rangeK) : Int) != 0) = true := by rw [bne_iff_ne]; omega
          have HB5 := Lib.hid (bstep HB4.out (below_agg2 w4 (.int .i64 (askedA (getS fs rangeK))) (.int .i64 (askedB (getS fs rangeK))) 124))
          obtain ⟨⟨d0, d1, d2, d3⟩, ⟨g0, g1, g2, g3⟩⟩ := four_of (res_block HB5.out)
          clear h6
          go_wp2_with fail
          refine ret_cell3 (A := ⟨w.heap.size, 0, none⟩) rfl (load_rreq _ _ _ _ _ _ _ (four_set (res_block HB5.out) _ _ _ _)) rfl rfl rfl rfl ?_
          exact ⟨by rw [← HV.out, HVB.out]; rfl, four_below (bstep (below_agg4 w _ _ _ _ _) HB5.out) _ (Nat.le_refl _) _ _ _ _⟩
        have HVG := Lib.hid (askV_good s (x :: xs) n HHd.out (HLL.out.trans h6))
        rw [h6]
        clear h6
        obtain ⟨a6, c6, hv6, hc6, hh6⟩ := HS4.out
        injection hv6 with i1 i2 i3
        subst i1 i3
        obtain ⟨B6, o6, i4, hB6, hcell6⟩ := hh6 (by intro e; have := hw3.out; rw [e] at this; simp at this)
        subst i4
        have j1 := hcell6 1 (by rw [hw3.out]; decide)
        have hl3 : ws.length = 3 := hw3.out
        obtain ⟨Y, hY⟩ : ∃ Y, ws[1]'(by omega) = Y := ⟨_, rfl⟩
        rw [hY] at j1
        have HY : Hid (wordL (x :: xs) = Y) := Lib.hid (by rw [HF.out.2, List.getD_eq_getElem?_getD, List.getElem?_eq_getElem (by omega), hY]; rfl)
        clear hcell6 hh6 hY
        go_wp2_with fail
        have HB5 := Lib.hid (bstep HB4.out (below_agg2 w4 (.int .i64 (askedA (getS fs rangeK))) (.int .i64 (askedB (getS fs rangeK))) 124))
        obtain ⟨n0, n1⟩ := box2 w4 (.int .i64 (askedA (getS fs rangeK))) (.int .i64 (askedB (getS fs rangeK))) 124
        have j5 := ((below_agg2 w4 (.int .i64 (askedA (getS fs rangeK))) (.int .i64 (askedB (getS fs rangeK))) 124).cell (p := ⟨B6, o6 + 1, none⟩) hB6).trans j1
        generalize w4.alloc (.cells #[.int .i64 (askedA (getS fs rangeK)), .int .i64 (askedB (getS fs rangeK))] 124) = w5 at HB5 n0 n1 j5 ⊢
        obtain ⟨⟨d0, d1, d2, d3⟩, ⟨g0, g1, g2, g3⟩⟩ := four_of (res_block HB5.out)
        have hrb0 := res_block HB5.out
        have HRB : Hid (w5.drew.heap[w.heap.size]? = some (.cells #[.string ⟨#[]⟩, .string ⟨#[]⟩, .int .i64 0, .int .i64 0] 126 (0, 0))) := Lib.hid (by exact hrb0)
        clear j1 hrb0
        go_region
        all_goals go_wp2_with fail
        all_goals
          refine ret_cell3 (A := ⟨w.heap.size, 0, none⟩) rfl (load_rreq _ _ _ _ _ _ _ (four_set (w := w5.drew) HRB.out _ _ _ _)) rfl rfl rfl rfl ?_
          exact ⟨by rw [← HV.out, HVG.out, HY.out, List.tail_cons, HFS.out]; rfl, four_below ((bstep (below_agg4 w _ _ _ _ _) HB5.out).drew) _ (Nat.le_refl _) _ _ _ _⟩
end Go.Proofs.YthcomjhpjlcpdaaGreatDoor
namespace Go.Proofs.YthcomjhpjlcpdaaGreatDoor
open Go.RowKit

theorem eq_range_in (d : Nat) (x y : Int) (w : World) : (Op.equalIn (d + 2) 72 (.agg #[.int .i64 x, .int .i64 y]) (.agg #[.int .i64 x, .int .i64 y])).run Tryz.prog w = .ok true w := by
  have u4 := Tryz.underlying3
  have hS : Tryz.prog.underlying 72 = some (.struct (Tryz.prog.fieldsOf 72)) := by kernel_rfl
  have hp : Tryz.prog.stoodInHeld 72 = false := by kernel_rfl
  rw [run_equalIn_agg w (d + 1) 72 _ _ hS hp]
  simp only [Program.fieldsOf, Tryz.underlying72]
  go_simp
theorem eq_req_in (d : Nat) (a b : ByteArray) (x y : Int) (w : World) : (Op.equalIn (d + 3) 74 (.agg #[.string a, .string b, .int .i64 x, .int .i64 y]) (.agg #[.string a, .string b, .int .i64 x, .int .i64 y])).run Tryz.prog w = .ok true w := by
  have u3 := Tryz.underlying9
  have hS : Tryz.prog.underlying 74 = some (.struct (Tryz.prog.fieldsOf 74)) := by kernel_rfl
  have hp : Tryz.prog.stoodInHeld 74 = false := by kernel_rfl
  have hi := Tryz.sizeOf72
  have ha := Tryz.isAgg72
  have hin := eq_range_in d x y
  rw [run_equalIn_agg w (d + 2) 74 _ _ hS hp]
  simp only [Program.fieldsOf, Tryz.underlying74]
  go_simp
theorem eq_req (a b : ByteArray) (x y : Int) (w : World) : (binOp .eql 74 (.agg #[.string a, .string b, .int .i64 x, .int .i64 y]) (.agg #[.string a, .string b, .int .i64 x, .int .i64 y])).run Tryz.prog w = .ok (.bool true) w := by
  rw [run_eql_struct, show (10000 : Nat) = 9997 + 3 from rfl, eq_req_in]; rfl
theorem guard_req (op : BinOp) (x y : Operand) (xs ys : Array Value) (w : World) : (eqGuard op 74 x y (.agg xs) (.agg ys)).run Tryz.prog w = .ok () w :=
  run_eqGuard_agg w op 74 x y xs ys (by kernel_rfl)
theorem aparse_at (s P H : ByteArray) (a b n : Int) (e : Nat) (h : askPath s = P.data.toList ∧ askHost s = H.data.toList ∧ askA s = a ∧ askB s = b ∧ askN s = n ∧ askE s = e) (w : World) (hs : s.size ≤ 1000000) (hE : EnvF w) :
    Calls Tryz.prog 55 #[.string s] w fun r w' => r = .returned (.tuple #[.agg #[.string P, .string H, .int .i64 a, .int .i64 b], .int .i64 n, .int .i64 (e : Nat)]) ∧ Below w.heap.size w w' := by
  have := asking_parse s w hs hE
  unfold askV at this
  obtain ⟨h1, h2, h3, h4, h5, h6⟩ := h
  rw [h1, h2, h3, h4, h5, h6, bs_self, bs_self] at this
  exact this
theorem acheck_at (p h : ByteArray) (a b : Int) (e : Nat) (hh : aErr p.data.toList h.data.toList a b = e) (w : World) :
    Calls Tryz.prog 33 #[.agg #[.string p, .string h, .int .i64 a, .int .i64 b]] w fun r w' => r = .returned (.int .i64 (e : Nat)) ∧ Below w.heap.size w w' := by
  have := asking_check p h a b w
  rw [hh] at this
  exact this
theorem dig0 : digL 0 = [48] := by
  unfold digL; rw [if_neg (by decide)]; exact Go.Lib.decDigits_one (by decide)
theorem dig9 : digL 9 = [57] := by
  unfold digL; rw [if_neg (by decide)]; exact Go.Lib.decDigits_one (by decide)
theorem ask09 : askL 0 9 = [98, 121, 116, 101, 115, 61, 48, 45, 57] := by
  unfold askL textR; rw [dig0, dig9]; rfl
theorem qw1 : aPrint (ByteArray.mk #[47, 97]).data.toList (ByteArray.mk #[104]).data.toList 0 9 = (ByteArray.mk #[71, 69, 84, 32, 47, 97, 32, 72, 84, 84, 80, 47, 49, 46, 49, 13, 10, 72, 111, 115, 116, 58, 32, 104, 13, 10, 82, 97, 110, 103, 101, 58, 32, 98, 121, 116, 101, 115, 61, 48, 45, 57, 13, 10, 13, 10]).data.toList ∧ aErr (ByteArray.mk #[47, 97]).data.toList (ByteArray.mk #[104]).data.toList 0 9 = 0 := by
  have h : aErr (ByteArray.mk #[47, 97]).data.toList (ByteArray.mk #[104]).data.toList 0 9 = 0 := by decide +kernel
  refine ⟨?_, h⟩
  unfold aPrint
  rw [if_pos h]
  unfold reqL line3
  rw [ask09]
  decide +kernel
theorem qw2 : askPath ((ByteArray.mk #[71, 69, 84, 32, 47, 97, 32, 72, 84, 84, 80, 47, 49, 46, 49, 13, 10, 72, 111, 115, 116, 58, 32, 104, 13, 10, 82, 97, 110, 103, 101, 58, 32, 98, 121, 116, 101, 115, 61, 48, 45, 57, 13, 10, 13, 10]) ++ ⟨#[120]⟩) = (ByteArray.mk #[47, 97]).data.toList ∧ askHost ((ByteArray.mk #[71, 69, 84, 32, 47, 97, 32, 72, 84, 84, 80, 47, 49, 46, 49, 13, 10, 72, 111, 115, 116, 58, 32, 104, 13, 10, 82, 97, 110, 103, 101, 58, 32, 98, 121, 116, 101, 115, 61, 48, 45, 57, 13, 10, 13, 10]) ++ ⟨#[120]⟩) = (ByteArray.mk #[104]).data.toList ∧ askA ((ByteArray.mk #[71, 69, 84, 32, 47, 97, 32, 72, 84, 84, 80, 47, 49, 46, 49, 13, 10, 72, 111, 115, 116, 58, 32, 104, 13, 10, 82, 97, 110, 103, 101, 58, 32, 98, 121, 116, 101, 115, 61, 48, 45, 57, 13, 10, 13, 10]) ++ ⟨#[120]⟩) = 0 ∧ askB ((ByteArray.mk #[71, 69, 84, 32, 47, 97, 32, 72, 84, 84, 80, 47, 49, 46, 49, 13, 10, 72, 111, 115, 116, 58, 32, 104, 13, 10, 82, 97, 110, 103, 101, 58, 32, 98, 121, 116, 101, 115, 61, 48, 45, 57, 13, 10, 13, 10]) ++ ⟨#[120]⟩) = 9 ∧ askN ((ByteArray.mk #[71, 69, 84, 32, 47, 97, 32, 72, 84, 84, 80, 47, 49, 46, 49, 13, 10, 72, 111, 115, 116, 58, 32, 104, 13, 10, 82, 97, 110, 103, 101, 58, 32, 98, 121, 116, 101, 115, 61, 48, 45, 57, 13, 10, 13, 10]) ++ ⟨#[120]⟩) = 46 ∧ askE ((ByteArray.mk #[71, 69, 84, 32, 47, 97, 32, 72, 84, 84, 80, 47, 49, 46, 49, 13, 10, 72, 111, 115, 116, 58, 32, 104, 13, 10, 82, 97, 110, 103, 101, 58, 32, 98, 121, 116, 101, 115, 61, 48, 45, 57, 13, 10, 13, 10]) ++ ⟨#[120]⟩) = 0 := by decide +kernel
theorem qw3 : askPath (ByteArray.mk #[80, 85, 84, 32, 47, 97, 32, 72, 84, 84, 80, 47, 49, 46, 49, 13, 10, 13, 10]) = (ByteArray.mk #[]).data.toList ∧ askHost (ByteArray.mk #[80, 85, 84, 32, 47, 97, 32, 72, 84, 84, 80, 47, 49, 46, 49, 13, 10, 13, 10]) = (ByteArray.mk #[]).data.toList ∧ askA (ByteArray.mk #[80, 85, 84, 32, 47, 97, 32, 72, 84, 84, 80, 47, 49, 46, 49, 13, 10, 13, 10]) = 0 ∧ askB (ByteArray.mk #[80, 85, 84, 32, 47, 97, 32, 72, 84, 84, 80, 47, 49, 46, 49, 13, 10, 13, 10]) = 0 ∧ askN (ByteArray.mk #[80, 85, 84, 32, 47, 97, 32, 72, 84, 84, 80, 47, 49, 46, 49, 13, 10, 13, 10]) = 0 ∧ askE (ByteArray.mk #[80, 85, 84, 32, 47, 97, 32, 72, 84, 84, 80, 47, 49, 46, 49, 13, 10, 13, 10]) = 14 := by decide +kernel
theorem qw4 : askPath (ByteArray.mk #[71, 69, 84, 32, 47, 97, 32, 72, 84, 84, 80, 47, 49, 46, 49, 13, 10, 13, 10]) = (ByteArray.mk #[]).data.toList ∧ askHost (ByteArray.mk #[71, 69, 84, 32, 47, 97, 32, 72, 84, 84, 80, 47, 49, 46, 49, 13, 10, 13, 10]) = (ByteArray.mk #[]).data.toList ∧ askA (ByteArray.mk #[71, 69, 84, 32, 47, 97, 32, 72, 84, 84, 80, 47, 49, 46, 49, 13, 10, 13, 10]) = 0 ∧ askB (ByteArray.mk #[71, 69, 84, 32, 47, 97, 32, 72, 84, 84, 80, 47, 49, 46, 49, 13, 10, 13, 10]) = 0 ∧ askN (ByteArray.mk #[71, 69, 84, 32, 47, 97, 32, 72, 84, 84, 80, 47, 49, 46, 49, 13, 10, 13, 10]) = 0 ∧ askE (ByteArray.mk #[71, 69, 84, 32, 47, 97, 32, 72, 84, 84, 80, 47, 49, 46, 49, 13, 10, 13, 10]) = 6 := by decide +kernel
theorem qw5 : aErr (ByteArray.mk #[97]).data.toList (ByteArray.mk #[104]).data.toList 0 0 = 2 := by decide +kernel
def Four (w : World) (b : Nat) (x y z u : Value) : Prop := b < w.heap.size ∧ w.cell? ⟨b, 0, none⟩ = some x ∧ w.cell? ⟨b, 1, none⟩ = some y ∧ w.cell? ⟨b, 2, none⟩ = some z ∧ w.cell? ⟨b, 3, none⟩ = some u
theorem Four.below {w w' : World} {b : Nat} {x y z u : Value} (h : Four w b x y z u) (hb : Below w.heap.size w w') : Four w' b x y z u :=
  ⟨Nat.lt_of_lt_of_le h.1 hb.size, (hb.cell (p := ⟨b, 0, none⟩) h.1).trans h.2.1, (hb.cell (p := ⟨b, 1, none⟩) h.1).trans h.2.2.1, (hb.cell (p := ⟨b, 2, none⟩) h.1).trans h.2.2.2.1, (hb.cell (p := ⟨b, 3, none⟩) h.1).trans h.2.2.2.2⟩
theorem Four.alloc {w : World} {b : Nat} {x y z u : Value} (h : Four w b x y z u) (o : Obj) : Four (w.alloc o) b x y z u := h.below ((Below.refl _ _).alloc (Nat.le_refl _) o)
theorem Four.new (w : World) (x y z u : Value) (t : TypeId) : Four (w.alloc (.cells #[x, y, z, u] t)) w.heap.size x y z u := ⟨by simp, box4 w x y z u t⟩
end Go.Proofs.YthcomjhpjlcpdaaGreatDoor
namespace Go.Proofs.YthcomjhpjlcpdaaGreatDoor
open Go.RowKit

theorem aparse_vals (s : ByteArray) : ∃ (P H : ByteArray) (a b n : Int) (e : Nat), askV s = .tuple #[.agg #[.string P, .string H, .int .i64 a, .int .i64 b], .int .i64 n, .int .i64 (e : Nat)] := ⟨_, _, _, _, _, _, rfl⟩
theorem cells_of {W : World} {b : Nat} {x y z u : Value} (h : Four W b x y z u) : (∀ p : BelowOf W, p.world.cell? ⟨b, 0, none⟩ = some x) ∧ (∀ p : BelowOf W, p.world.cell? ⟨b, 1, none⟩ = some y) ∧ (∀ p : BelowOf W, p.world.cell? ⟨b, 2, none⟩ = some z) ∧ (∀ p : BelowOf W, p.world.cell? ⟨b, 3, none⟩ = some u) :=
  ⟨fun p => cell_of p h.1 h.2.1, fun p => cell_of p h.1 h.2.2.1, fun p => cell_of p h.1 h.2.2.2.1, fun p => cell_of p h.1 h.2.2.2.2⟩
end Go.Proofs.YthcomjhpjlcpdaaGreatDoor
namespace Go.Proofs.YthcomjhpjlcpdaaGreatDoor
open Go.RowKit

/-- the end of a head lies behind its beginning, within the text -/
theorem take_next_bd (s : ByteArray) (a : Int) (h : takeErr s a = 0) (h0 : 0 ≤ a) : a + 2 ≤ takeNext s a ∧ takeNext s a ≤ (s.size : Int) := by
  have hin : ¬ (a < 0 ∨ (s.size : Int) < a) := by
    intro hh
    rw [takeErr_out s a hh] at h
    exact absurd h (by decide)
  obtain ⟨i, rfl⟩ : ∃ i : Nat, a = (i : Int) := ⟨a.toNat, by omega⟩
  have hi : i ≤ s.size := by omega
  have hz := h
  rw [takeErr_in s i hi] at hz
  unfold takeNext
  rw [if_pos h, Int.toNat_natCast]
  have := scan_zero (s.data.toList.drop i) 0 hz
  unfold scanAt
  have hl : (s.data.toList.drop i).length = s.size - i := by rw [List.length_drop, size_len]
  omega
theorem headR_bd (s : ByteArray) : ∀ (f : Nat) (a : Int) (xs : List (List UInt8)), 0 ≤ a → (headR f s a xs).2.2 = 0 → 0 < f → a + 2 ≤ (headR f s a xs).2.1 ∧ (headR f s a xs).2.1 ≤ (s.size : Int) := by
  intro f
  induction f with
  | zero => intro a xs _ _ hf; omega
  | succ f ih =>
    intro a xs h0 he _
    by_cases h : takeErr s a = 0
    · obtain ⟨b1, b2⟩ := take_next_bd s a h h0
      by_cases h2 : (takeLine s a).toList.isEmpty = true
      · rw [headR_end f s a xs h h2]
        exact ⟨b1, b2⟩
      · rw [Bool.not_eq_true] at h2
        by_cases h3 : xs.length = 17
        · rw [headR_many f s a xs h h2 h3] at he
          exact absurd he (by decide)
        · rw [headR_more f s a xs h h2 h3] at he ⊢
          rcases f with _ | f
          · simp [headR] at he
          · obtain ⟨c1, c2⟩ := ih (takeNext s a) _ (by omega) he (by omega)
            exact ⟨by omega, c2⟩
    · rw [headR_err f s a xs h] at he
      exact absurd he h
theorem headOf_bd (s : ByteArray) (h : (headOf s).2.2 = 0) : 0 < (headOf s).2.1 ∧ (headOf s).2.1 ≤ (s.size : Int) := by
  have := headR_bd s 18 0 [] (by omega) h (by omega)
  unfold headOf
  exact ⟨by omega, this.2⟩

theorem words_one (p : List UInt8) (h : ∀ c ∈ p, c ≠ 32) : words p = [p] := by
  induction p with
  | nil => rfl
  | cons c t ih =>
    rw [words, if_neg (h c (List.mem_cons_self ..)), ih fun c hc => h c (List.mem_cons_of_mem _ hc)]
theorem words_pre (p r : List UInt8) (h : ∀ c ∈ p, c ≠ 32) : words (p ++ 32 :: r) = p :: words r := by
  induction p with
  | nil => rw [List.nil_append, words, if_pos rfl]
  | cons c t ih =>
    rw [List.cons_append, words, if_neg (h c (List.mem_cons_self ..)), ih fun c hc => h c (List.mem_cons_of_mem _ hc)]
theorem path_no32 (p : List UInt8) (h : pathB p = true) : ∀ c ∈ p, c ≠ 32 := by
  intro c hc e
  subst e
  exact absurd ((pathB_and p h).2.1 32 hc) (by decide)
theorem line1_words (p : List UInt8) (h : pathB p = true) : words (line1 p) = [[71, 69, 84], p, [72, 84, 84, 80, 47, 49, 46, 49]] := by
  have e : line1 p = [71, 69, 84] ++ 32 :: (p ++ 32 :: [72, 84, 84, 80, 47, 49, 46, 49]) := by unfold line1; simp
  rw [e, words_pre _ _ (by decide), words_pre _ _ (path_no32 p h), words_one _ (by decide)]
theorem line2_print (h : List UInt8) (hh : hostB h = true) : line2 h = printL hostK h := by
  have hne := (hostB_and h hh).2.2
  unfold line2 printL tailV
  rw [if_neg (by cases h <;> simp_all), show titL true hostK = [72, 111, 115, 116] by decide]
  rfl
theorem host_gap (h : List UInt8) (hh : hostB h = true) : printOk hostK h = true := by
  obtain ⟨-, h2, h3⟩ := hostB_and h hh
  have hg : ∀ c ∈ h, gapB c = false := by
    intro c hc
    have := hostN_plain c.toNat (h2 c hc)
    have h9 : c ≠ 9 := by rintro rfl; exact absurd (h2 9 hc) (by decide)
    have h32 : c ≠ 32 := by rintro rfl; exact absurd (h2 32 hc) (by decide)
    rw [← gapL_contains]
    unfold gapL
    simp [h9, h32]
  have hgap : ∀ l : List UInt8, (∀ c ∈ l, gapB c = false) → headGap l = false := by
    intro l hl
    cases l with
    | nil => rfl
    | cons c t => exact hl c (List.mem_cons_self ..)
  unfold printOk
  rw [show nameL hostK = true by decide, Bool.true_and, Bool.and_eq_true]
  refine ⟨List.all_eq_true.2 fun c hc => (hostN_plain c.toNat (h2 c hc)).1, ?_⟩
  unfold noGap
  rw [hgap h hg, hgap h.reverse (fun c hc => hg c (List.mem_reverse.1 hc))]
  rfl
theorem rangeL_eq (a b : Int) (h : rErr a b = 0) : askL a b = asksL ++ (Go.Lib.decDigits a.toNat ++ 45 :: Go.Lib.decDigits b.toNat) := by
  obtain ⟨h1, h2, h3⟩ := rErr_ok a b h
  unfold askL textR digL
  rw [if_pos h, if_neg (by omega), if_neg (by omega)]
theorem line3_print (a b : Int) (h : rErr a b = 0) : line3 a b = printL rangeK (askL a b) := by
  unfold line3 printL tailV
  rw [rangeL_eq a b h, if_neg (by simp [asksL]), show titL true rangeK = [82, 97, 110, 103, 101] by decide]
  rfl
theorem dig_gap (n : Nat) (t : List UInt8) : headGap (Go.Lib.decDigits n ++ t).reverse = headGap (Go.Lib.decDigits n ++ t).reverse := rfl
theorem dig_no (n : Nat) : ∀ c ∈ Go.Lib.decDigits n, gapB c = false ∧ c ≠ 45 ∧ c ≠ 47 := by
  intro c hc
  have := digN_bd _ (List.all_eq_true.1 (decDigits_all n) c hc)
  have h9 : c ≠ 9 := by rintro rfl; exact absurd this (by decide)
  have h32 : c ≠ 32 := by rintro rfl; exact absurd this (by decide)
  refine ⟨?_, by rintro rfl; exact absurd this (by decide), by rintro rfl; exact absurd this (by decide)⟩
  rw [← gapL_contains]
  unfold gapL
  simp [h9, h32]
theorem dig_last (n : Nat) (x : List UInt8) : headGap (x ++ Go.Lib.decDigits n).reverse = false := by
  rw [List.reverse_append]
  cases e : (Go.Lib.decDigits n).reverse with
  | nil => exact absurd (List.reverse_eq_nil_iff.1 e) (decDigits_ne n)
  | cons c t => exact (dig_no n c (by rw [← List.mem_reverse, e]; exact List.mem_cons_self ..)).1
theorem range_gap (a b : Int) (h : rErr a b = 0) : printOk rangeK (askL a b) = true := by
  unfold printOk
  rw [show nameL rangeK = true by decide, Bool.true_and, Bool.and_eq_true]
  refine ⟨List.all_eq_true.2 fun c hc => askL_plain a b c hc, ?_⟩
  unfold noGap
  rw [rangeL_eq a b h]
  have e1 : headGap (asksL ++ (Go.Lib.decDigits a.toNat ++ 45 :: Go.Lib.decDigits b.toNat)) = false := by
    unfold asksL; rfl
  have e2 : asksL ++ (Go.Lib.decDigits a.toNat ++ 45 :: Go.Lib.decDigits b.toNat) = (asksL ++ (Go.Lib.decDigits a.toNat ++ [45])) ++ Go.Lib.decDigits b.toNat := by simp
  rw [e1, e2, dig_last]
  rfl
theorem upTo_of (c : UInt8) (x t : List UInt8) (h : ∀ d ∈ x, d ≠ c) : upTo c (x ++ c :: t) = x := by
  unfold upTo
  rw [List.takeWhile_append_of_pos (fun d hd => by simpa using h d hd), List.takeWhile_cons_of_neg (by simp)]
  simp
theorem hasB_of (c : UInt8) (x t : List UInt8) (h : ∀ d ∈ x, d ≠ c) : hasB c (x ++ c :: t) = true := by
  unfold hasB
  rw [upTo_of c x t h]
  simp
theorem behind_of (c : UInt8) (x t : List UInt8) (h : ∀ d ∈ x, d ≠ c) : behind c (x ++ c :: t) = t := by
  unfold behind
  rw [upTo_of c x t h, ← List.drop_drop, List.drop_left]
  rfl
theorem numE_dec (n : Nat) (h : n ≤ 9007199254740991) : numE (Go.Lib.decDigits n) = 0 ∧ numV (Go.Lib.decDigits n) = n := by
  have e : numE (Go.Lib.decDigits n) = 0 := by
    unfold numE
    rw [numBad_dec, if_neg (by decide), decV_decDigits, if_neg (by omega)]
  refine ⟨e, ?_⟩
  unfold numV
  rw [if_pos e, decV_decDigits]
theorem asked_ask (a b : Int) (h : rErr a b = 0) : askedE (askL a b) = 0 ∧ askedA (askL a b) = a ∧ askedB (askL a b) = b := by
  obtain ⟨h1, h2, h3⟩ := rErr_ok a b h
  have hd : (askL a b).drop 6 = Go.Lib.decDigits a.toNat ++ 45 :: Go.Lib.decDigits b.toNat := by rw [rangeL_eq a b h]; rfl
  have hno : ∀ d ∈ Go.Lib.decDigits a.toNat, d ≠ 45 := fun d hd => (dig_no _ d hd).2.1
  have hok : askedOk (askL a b) = true := by
    unfold askedOk
    rw [hd, hasB_of _ _ _ hno, rangeL_eq a b h, Bool.and_true]
    exact List.isPrefixOf_iff_prefix.2 (List.prefix_append _ _)
  have hF : askedF (askL a b) = a.toNat := by unfold askedF; rw [hd, upTo_of _ _ _ hno, (numE_dec _ (by omega)).2]
  have hT : askedT (askL a b) = b.toNat := by unfold askedT; rw [hd, behind_of _ _ _ hno, (numE_dec _ (by omega)).2]
  have he : askedE (askL a b) = 0 := by
    unfold askedE
    rw [if_neg (by rw [hok]; decide), hF, hT, hd, upTo_of _ _ _ hno, behind_of _ _ _ hno]
    unfold twoE
    rw [(numE_dec _ (by omega)).1, (numE_dec _ (by omega)).1, if_neg (by decide), Int.toNat_of_nonneg h1, Int.toNat_of_nonneg (by omega)]
    exact h
  refine ⟨he, ?_, ?_⟩
  · unfold askedA; rw [if_pos he, hF]; exact Int.toNat_of_nonneg h1
  · unfold askedB; rw [if_pos he, hT]; exact Int.toNat_of_nonneg (by omega)

theorem fields_req (h : List UInt8) (a b : Int) (hh : hostB h = true) (hr : rErr a b = 0) : fldE [line2 h, line3 a b] = 0 ∧ fldL [line2 h, line3 a b] = [(hostK, h), (rangeK, askL a b)] := by
  obtain ⟨x1, x2, x3⟩ := print_parse hostK h (host_gap h hh)
  obtain ⟨y1, y2, y3⟩ := print_parse rangeK (askL a b) (range_gap a b hr)
  rw [line2_print h hh, line3_print a b hr]
  refine ⟨?_, ?_⟩
  · unfold fldE fldE fldE
    rw [x3, y3]; rfl
  · unfold fldL
    simp [x1, x2, y1, y2]
theorem hits_req (x y : List UInt8) : getE [(hostK, x), (rangeK, y)] hostK = 0 ∧ getS [(hostK, x), (rangeK, y)] hostK = x ∧ getE [(hostK, x), (rangeK, y)] rangeK = 0 ∧ getS [(hostK, x), (rangeK, y)] rangeK = y := by
  have n1 : (rangeK == hostK) = false := by decide
  have n2 : (hostK == rangeK) = false := by decide
  have e1 : hits [(hostK, x), (rangeK, y)] hostK = [x] := by unfold hits; simp [List.filter, n1]
  have e2 : hits [(hostK, x), (rangeK, y)] rangeK = [y] := by unfold hits; simp [List.filter, n2]
  unfold getE getS
  rw [e1, e2]
  exact ⟨rfl, rfl, rfl, rfl⟩
theorem ln_req (p h : List UInt8) (a b : Int) (he : aErr p h a b = 0) : lnE [line1 p, line2 h, line3 a b] = 0 ∧ wordL [line1 p, line2 h, line3 a b] = p := by
  obtain ⟨hp, hh, hr⟩ := aErr_zero p h a b he
  obtain ⟨f1, f2⟩ := fields_req h a b hh hr
  obtain ⟨g1, g2, g3, g4⟩ := hits_req h (askL a b)
  obtain ⟨k1, k2, k3⟩ := asked_ask a b hr
  have hf : firstL [line1 p, line2 h, line3 a b] = 0 := by
    unfold firstL firstW
    rw [if_neg (by simp), show ([line1 p, line2 h, line3 a b] : List (List UInt8)).getD 0 [] = line1 p from rfl, line1_words p hp]
    simp [hp]
  refine ⟨?_, ?_⟩
  · unfold lnE
    rw [hf, List.tail_cons, f1, f2]
    unfold whoE whatE
    rw [g1, g2, g3, g4, hh, k1]
    rfl
  · unfold wordL
    rw [show ([line1 p, line2 h, line3 a b] : List (List UInt8)).getD 0 [] = line1 p from rfl, line1_words p hp]
    rfl
theorem lines_good (p h : List UInt8) (a b : Int) (he : aErr p h a b = 0) (ha : a ≤ 9223372036854775807) (hb : b ≤ 9223372036854775807) : ∀ x ∈ [line1 p, line2 h, line3 a b], goodLine x := by
  obtain ⟨hp, hh, hr⟩ := aErr_zero p h a b he
  intro x hx
  simp only [List.mem_cons, List.not_mem_nil, or_false] at hx
  rcases hx with rfl | rfl | rfl
  · have := putErr_good _ (line1_put p hp); exact ⟨by simp [line1], this.1, this.2⟩
  · have := putErr_good _ (line2_put h hh); exact ⟨by simp [line2], this.1, this.2⟩
  · have := putErr_good _ (line3_put a b ha hb); exact ⟨by simp [line3], this.1, this.2⟩
/-- what is taken of a printed request with anything behind it -/
theorem ask_req (p h : List UInt8) (a b : Int) (he : aErr p h a b = 0) (ha : a ≤ 9223372036854775807) (hb : b ≤ 9223372036854775807) (s : ByteArray) (rest : List UInt8) (hs : s.data.toList = reqL p h a b ++ rest) :
    askE s = 0 ∧ askPath s = p ∧ askHost s = h ∧ askA s = a ∧ askB s = b ∧ askN s = (reqL p h a b).length := by
  obtain ⟨hp, hh, hr⟩ := aErr_zero p h a b he
  have hd : headOf s = ([line1 p, line2 h, line3 a b], ((reqL p h a b).length : Int), 0) := by
    have := head_ok s rest [line1 p, line2 h, line3 a b] [] [] 18 (lines_good p h a b he ha hb) (by simp) (by simp) (by rw [hs]; unfold reqL; simp)
    unfold headOf
    rw [show (0 : Int) = ((([] : List UInt8).length : Nat) : Int) from rfl, this]
    unfold reqL
    simp
  obtain ⟨l1, l2⟩ := ln_req p h a b he
  obtain ⟨f1, f2⟩ := fields_req h a b hh hr
  obtain ⟨g1, g2, g3, g4⟩ := hits_req h (askL a b)
  obtain ⟨k1, k2, k3⟩ := asked_ask a b hr
  have e0 : askE s = 0 := by unfold askE; rw [hd]; simpa using l1
  refine ⟨e0, ?_, ?_, ?_, ?_, ?_⟩
  · unfold askPath; rw [if_pos e0, hd]; exact l2
  · unfold askHost; rw [if_pos e0, hd]; simp only [List.tail_cons]; rw [f2, g2]
  · unfold askA; rw [if_pos e0, hd]; simp only [List.tail_cons]; rw [f2, g4, k2]
  · unfold askB; rw [if_pos e0, hd]; simp only [List.tail_cons]; rw [f2, g4, k3]
  · unfold askN; rw [if_pos e0, hd]
theorem ask_cut (p h : List UInt8) (a b : Int) (he : aErr p h a b = 0) (ha : a ≤ 9223372036854775807) (hb : b ≤ 9223372036854775807) (s : ByteArray) (k : Nat) (hk : k < (reqL p h a b).length) (hs : s.data.toList = (reqL p h a b).take k) : askE s = 3 := by
  have := head_cut s [line1 p, line2 h, line3 a b] [] [] 18 k (lines_good p h a b he ha hb) (by simp) (by simp) (by unfold reqL at hk; simpa using hk) (by rw [hs]; unfold reqL; simp)
  unfold askE headOf
  rw [show (0 : Int) = ((([] : List UInt8).length : Nat) : Int) from rfl, this]
  rfl
/-- what is taken may be printed, and what is printed of it is taken for the same -/
theorem ask_again (s : ByteArray) (h0 : askE s = 0) : aErr (askPath s) (askHost s) (askA s) (askB s) = 0 ∧ 0 < askN s ∧ askN s ≤ (s.size : Int) ∧ 0 ≤ askA s ∧ askA s ≤ 9007199254740990 ∧ 0 ≤ askB s ∧ askB s ≤ 9007199254740990 := by
  have hh : (headOf s).2.2 = 0 := by
    by_cases h : (headOf s).2.2 = 0
    · exact h
    · unfold askE at h0; rw [if_pos h] at h0; exact h0
  have hl : lnE (headOf s).1 = 0 := by unfold askE at h0; rw [if_neg (by simp [hh])] at h0; exact h0
  have h1 : firstL (headOf s).1 = 0 := by
    by_cases h : firstL (headOf s).1 = 0
    · exact h
    · unfold lnE at hl; rw [if_pos h] at hl; exact hl
  unfold lnE at hl
  rw [if_neg (by simp [h1])] at hl
  have h2 : fldE (headOf s).1.tail = 0 := by
    by_cases h : fldE (headOf s).1.tail = 0
    · exact h
    · rw [if_pos h] at hl; exact hl
  rw [if_neg (by simp [h2])] at hl
  have h3 : whoE (fldL (headOf s).1.tail) = 0 := by
    by_cases h : whoE (fldL (headOf s).1.tail) = 0
    · exact h
    · rw [if_pos h] at hl; exact hl
  rw [if_neg (by simp [h3])] at hl
  have hp : pathB (wordL (headOf s).1) = true := by
    unfold firstL firstW at h1
    unfold wordL
    split at h1
    · exact absurd h1 (by decide)
    split at h1
    · exact absurd h1 (by decide)
    split at h1
    · exact absurd h1 (by decide)
    split at h1
    · exact absurd h1 (by decide)
    split at h1
    · exact absurd h1 (by decide)
    · rename_i hx
      simpa using hx
  have hH : hostB (getS (fldL (headOf s).1.tail) hostK) = true := by
    unfold whoE at h3
    split at h3
    · rename_i hx; exact absurd h3 hx
    split at h3
    · exact absurd h3 (by decide)
    · rename_i hx
      simpa using hx
  have hA : askedE (getS (fldL (headOf s).1.tail) rangeK) = 0 := by
    unfold whatE at hl
    split at hl
    · rename_i hx; exact absurd hl hx
    · exact hl
  have hr : rErr (askedF (getS (fldL (headOf s).1.tail) rangeK)) (askedT (getS (fldL (headOf s).1.tail) rangeK)) = 0 := by
    have hA' := hA
    unfold askedE at hA'
    split at hA'
    · exact absurd hA' (by decide)
    split at hA'
    · rename_i hx; exact absurd hA' hx
    · exact hA'
  obtain ⟨n1, n2⟩ := headOf_bd s hh
  obtain ⟨r1, r2, r3⟩ := rErr_ok _ _ hr
  unfold askPath askHost askA askB askN
  rw [if_pos h0, if_pos h0, if_pos h0, if_pos h0, if_pos h0]
  unfold askedA askedB
  rw [if_pos hA, if_pos hA]
  refine ⟨?_, n1, n2, r1, by omega, by omega, r3⟩
  unfold aErr
  rw [if_neg (by simp [hp, hH])]
  exact hr
theorem ask_bad (s : ByteArray) (h0 : askE s ≠ 0) : askPath s = [] ∧ askHost s = [] ∧ askA s = 0 ∧ askB s = 0 ∧ askN s = 0 := by
  unfold askPath askHost askA askB askN
  rw [if_neg h0, if_neg h0, if_neg h0, if_neg h0, if_neg h0]
  exact ⟨rfl, rfl, rfl, rfl, rfl⟩
end Go.Proofs.YthcomjhpjlcpdaaGreatDoor
