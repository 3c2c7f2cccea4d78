/- What Parse of package asking returns. -/
import Derived.Test.YtgaojfebmcmpaaaGreatDoorAskWhom
import Derived.LoopN
import Derived.Laws.EntriesVeiled
namespace Go.Proofs.YtgaojfebmcmpaaaGreatDoor
open Go.RowKit

theorem takeLine_len (s : ByteArray) (a : Int) : (takeLine s a).data.toList.length ≤ 256 := by
  unfold takeLine
  split
  · rename_i h
    have := (scan_n (s.data.toList.drop a.toNat) 0 (by omega)).2.2.1
    rw [size_len, ByteArray.size_extract]
    unfold scanAt; omega
  · exact Nat.zero_le _
theorem headR_bound (s : ByteArray) : ∀ (f : Nat) (a : Int) (xs : List (List UInt8)), (∀ x ∈ xs, x.length ≤ 256) → xs.length ≤ 17 → (∀ x ∈ (headR f s a xs).1, x.length ≤ 256) ∧ (headR f s a xs).1.length ≤ 17 := by
  intro f
  induction f with
  | zero => intro a xs _ _; exact ⟨fun x h => by simp [headR] at h, by simp [headR]⟩
  | succ f ih =>
    intro a xs h1 h2
    unfold headR
    split
    · exact ⟨fun x h => by simp at h, by simp⟩
    · split
      · exact ⟨h1, h2⟩
      · split
        · exact ⟨fun x h => by simp at h, by simp⟩
        · rename_i h17
          refine ih _ _ (fun x hx => ?_) (by rw [List.length_append, List.length_singleton]; omega)
          rw [List.mem_append, List.mem_singleton] at hx
          rcases hx with hx | rfl
          · exact h1 x hx
          · exact takeLine_len s a
theorem headOf_bound (s : ByteArray) : (∀ x ∈ (headOf s).1, x.length ≤ 256) ∧ (headOf s).1.length ≤ 17 := headR_bound s 18 0 [] (fun x h => by simp at h) (by decide)
theorem parseV_len (l : List UInt8) : (parseV l).length ≤ l.length := by
  unfold parseV
  split
  · unfold parseVal
    have := trimS_le (l.drop ((ahead l).length + 1))
    rw [List.length_drop] at this; omega
  · exact Nat.zero_le _
theorem getS_mem (fs : List (List UInt8 × List UInt8)) (k : List UInt8) : getS fs k = [] ∨ ∃ f ∈ fs, getS fs k = f.2 := by
  unfold getS
  split
  · rename_i v h
    right
    have hm : v ∈ hits fs k := by rw [h]; exact List.mem_singleton.2 rfl
    unfold hits at hm
    obtain ⟨f, hf, rfl⟩ := List.mem_map.1 hm
    exact ⟨f, (List.mem_filter.1 hf).1, rfl⟩
  · exact .inl rfl
theorem getS_len (ls : List (List UInt8)) (k : List UInt8) (h : ∀ x ∈ ls, x.length ≤ 256) : (getS (fldL ls) k).length ≤ 256 := by
  rcases getS_mem (fldL ls) k with e | ⟨f, hf, e⟩
  · rw [e]; exact Nat.zero_le _
  · rw [e]
    unfold fldL at hf
    obtain ⟨x, hx, rfl⟩ := List.mem_map.1 hf
    exact Nat.le_trans (parseV_len x) (h x hx)
/-- what is wrong with the lines of a request -/
def lnE (ls : List (List UInt8)) : Nat := if firstL ls ≠ 0 then firstL ls else if fldE ls.tail ≠ 0 then fldE ls.tail else if whoE (fldL ls.tail) ≠ 0 then whoE (fldL ls.tail) else whatE (fldL ls.tail)
def askE (s : ByteArray) : Nat := if (headOf s).2.2 ≠ 0 then (headOf s).2.2 else lnE (headOf s).1
def askPath (s : ByteArray) : List UInt8 := if askE s = 0 then wordL (headOf s).1 else []
def askHost (s : ByteArray) : List UInt8 := if askE s = 0 then getS (fldL (headOf s).1.tail) hostK else []
def askA (s : ByteArray) : Int := if askE s = 0 then askedA (getS (fldL (headOf s).1.tail) rangeK) else 0
def askB (s : ByteArray) : Int := if askE s = 0 then askedB (getS (fldL (headOf s).1.tail) rangeK) else 0
def askN (s : ByteArray) : Int := if askE s = 0 then (headOf s).2.1 else 0
def askV (s : ByteArray) : Value := .tuple #[.agg #[.string (bs (askPath s)), .string (bs (askHost s)), .int .i64 (askA s), .int .i64 (askB s)], .int .i64 (askN s), .int .i64 (askE s : Nat)]
theorem askV_bad (s : ByteArray) (e : Nat) (h : askE s = e) (h0 : e ≠ 0) : askV s = .tuple #[.agg #[.string ⟨#[]⟩, .string ⟨#[]⟩, .int .i64 0, .int .i64 0], .int .i64 0, .int .i64 (e : Nat)] := by
  have hn : askE s ≠ 0 := by rw [h]; exact h0
  unfold askV askPath askHost askA askB askN
  rw [if_neg hn, if_neg hn, if_neg hn, if_neg hn, if_neg hn, h]; rfl
/-- what stands while a request is taken -/
structure PSt (w : World) (R : Nat) (lv : Value) (ls : List (List UInt8)) (wx : World) : Prop where
  anc : Anchor R wx
  hold : HoldsLt wx R lv ls
  fs : wx.heap[R + 1]? = some (.cells #[.func (.func 59) #[] #[], .func (.func 60) #[] #[], .func (.func 61) #[] #[], .func (.func 62) #[] #[]] 105 (0, 0))
  res : wx.heap[w.heap.size]? = some (.cells #[.string ⟨#[]⟩, .string ⟨#[]⟩, .int .i64 0, .int .i64 0] 32 (0, 0))
  bel : Below w.heap.size w wx
  Rlt : w.heap.size < R
theorem PSt.lt {w wx : World} {R : Nat} {lv : Value} {ls : List (List UInt8)} (h : PSt w R lv ls wx) : R + 1 < wx.heap.size := (Array.getElem?_eq_some_iff.1 h.fs).1
theorem PSt.keep {w wx wy : World} {R : Nat} {lv : Value} {ls : List (List UInt8)} (h : PSt w R lv ls wx) (g : wx.grownBy wy (some R)) : PSt w R lv ls wy := by
  have hl := h.lt
  have hb := g.toBelow (by omega)
  have hr := h.Rlt
  exact ⟨h.anc.step hb, h.hold.step hb, (g.block (R + 1) hl (by simp)).trans h.fs, (g.block w.heap.size (by omega) (fun e => by have := Option.some.inj e; omega)).trans h.res, h.bel.trans (hb.mono (Nat.le_of_lt hr)), hr⟩
theorem PSt.alloc {w wx : World} {R : Nat} {lv : Value} {ls : List (List UInt8)} (h : PSt w R lv ls wx) (o : Obj) : PSt w R lv ls (wx.alloc o) :=
  h.keep ((GR.refl R wx).below ((Below.refl _ _).alloc (Nat.le_refl _) o))
theorem RdB.alloc {w : World} {R : Nat} {l f p h a b : Value} (k : RdB w R l f p h a b) (o : Obj) : RdB (w.alloc o) R l f p h a b := k.below ((Below.refl _ _).alloc (Nat.le_refl _) o)
theorem PSt.cells {w wx : World} {R : Nat} {lv : Value} {ls : List (List UInt8)} (h : PSt w R lv ls wx) :
    wx.cell? ⟨R + 1, 0, none⟩ = some (.func (.func 59) #[] #[]) ∧ wx.cell? ⟨R + 1, 1, none⟩ = some (.func (.func 60) #[] #[]) ∧ wx.cell? ⟨R + 1, 2, none⟩ = some (.func (.func 61) #[] #[]) ∧ wx.cell? ⟨R + 1, 3, none⟩ = some (.func (.func 62) #[] #[]) := by
  have k := h.fs
  refine ⟨?_, ?_, ?_, ?_⟩ <;> (unfold World.cell?; rw [k]; rfl)
theorem four_of {w : World} {b : Nat} {x y z u : Value} {t : TypeId} (k : w.heap[b]? = some (.cells #[x, y, z, u] t (0, 0))) :
    (w.cell? ⟨b, 0, none⟩ = some x ∧ w.cell? ⟨b, 1, none⟩ = some y ∧ w.cell? ⟨b, 2, none⟩ = some z ∧ w.cell? ⟨b, 3, none⟩ = some u) ∧ (w.frozen? ⟨b, 0, none⟩ = false ∧ w.frozen? ⟨b, 1, none⟩ = false ∧ w.frozen? ⟨b, 2, none⟩ = false ∧ w.frozen? ⟨b, 3, none⟩ = false) := by
  refine ⟨⟨?_, ?_, ?_, ?_⟩, ⟨?_, ?_, ?_, ?_⟩⟩ <;> first | (unfold World.cell?; rw [k]; rfl) | (unfold World.frozen?; rw [k]; rfl)
theorem PSt.start {w w1 : World} {lv : Value} {ls : List (List UInt8)} (hE : EnvF w1) (hS : HoldsLt w1 w1.heap.size lv ls) (hb : Below (w.alloc (.cells #[.string ⟨#[]⟩, .string ⟨#[]⟩, .int .i64 0, .int .i64 0] 32)).heap.size (w.alloc (.cells #[.string ⟨#[]⟩, .string ⟨#[]⟩, .int .i64 0, .int .i64 0] 32)) w1) (o : Obj) :
    PSt w w1.heap.size lv ls ((w1.alloc o).alloc (.cells #[.func (.func 59) #[] #[], .func (.func 60) #[] #[], .func (.func 61) #[] #[], .func (.func 62) #[] #[]] 105)) := by
  have hb2 : Below w1.heap.size w1 ((w1.alloc o).alloc (.cells #[.func (.func 59) #[] #[], .func (.func 60) #[] #[], .func (.func 61) #[] #[], .func (.func 62) #[] #[]] 105)) := ((Below.refl _ _).alloc (Nat.le_refl _) o).alloc (by simp) _
  have hsz : w.heap.size < w1.heap.size := by have := hb.size; simp at this; omega
  refine ⟨⟨w1, hE, rfl, hb2⟩, hS.step hb2, heap_alloc2_new w1 o _, ?_, (below_agg4 w _ _ _ _ _).trans ((hb.mono (by simp)).trans (hb2.mono (Nat.le_of_lt hsz))), hsz⟩
  exact (hb2.block w.heap.size hsz).trans ((hb.block w.heap.size (by simp)).trans (heap_alloc_new w _))
theorem askV_good (s : ByteArray) (ls : List (List UInt8)) (n : Int) (h : headOf s = (ls, n, 0)) (hl : lnE ls = 0) :
    askV s = .tuple #[.agg #[.string (bs (wordL ls)), .string (bs (getS (fldL ls.tail) hostK)), .int .i64 (askedA (getS (fldL ls.tail) rangeK)), .int .i64 (askedB (getS (fldL ls.tail) rangeK))], .int .i64 n, .int .i64 0] := by
  have h0 : askE s = 0 := by unfold askE; rw [h]; exact hl
  unfold askV askPath askHost askA askB askN
  rw [if_pos h0, if_pos h0, if_pos h0, if_pos h0, if_pos h0, h0, h]; rfl
theorem head_good (s : ByteArray) (w : World) (hs : s.size ≤ 9223372036854775807) : Calls Tryz.prog 54 #[.string s] w (HeadPost s w) := lines_head s w hs
set_option maxRecDepth 100000 in
set_option maxHeartbeats 4000000 in
theorem asking_parse (s : ByteArray) (w : World) (hs : s.size ≤ 1000000) (hE : EnvF w) :
    Calls Tryz.prog 19 #[.string s] w fun e w' => e = .returned (askV s) ∧ Below w.heap.size w w' := by
  have HH := Lib.hid (head_good s (w.alloc (.cells #[.string ⟨#[]⟩, .string ⟨#[]⟩, .int .i64 0, .int .i64 0] 32)) (by omega))
  obtain ⟨V, hV⟩ : ∃ V, askV s = V := ⟨_, rfl⟩
  rw [hV]
  have HV := Lib.hid hV
  have HE := Lib.hid (hE.below (below_agg4 w (.string ⟨#[]⟩) (.string ⟨#[]⟩) (.int .i64 0) (.int .i64 0) 32))
  have hbd := headOf_bound s
  unfold HeadPost at HH
  obtain ⟨⟨ls, n, e⟩, hh⟩ : ∃ T, headOf s = T := ⟨_, rfl⟩
  rw [hh] at HH hbd
  have HHd := Lib.hid hh
  change (∀ x ∈ ls, x.length ≤ 256) ∧ ls.length ≤ 17 at hbd
  change Hid (Calls _ _ _ _ fun r w' => ∃ v, r = .returned (.tuple #[v, .int .i64 n, .int .i64 (e : Nat)]) ∧ w'.ownsRow _ 9 1 v ls.length (strs ls) ∧ _) at HH
  have HBD := Lib.hid hbd
  clear hE hV hbd hh
  by_cases he : e = 0
  · subst he
    have HL : Hid (askE s = lnE ls) := Lib.hid (by unfold askE; rw [HHd.out]; rfl)
    go_enter Tryz.func19, Tryz.ntmps19
    go_wp2_with fail
    refine HH.out.mono ?_
    rintro e w1 ⟨v, rfl, hown, hb1⟩
    obtain ⟨av, cv, rfl⟩ := slice_of_own hown
    have HB1 := Lib.hid hb1
    have HE1 := Lib.hid (HE.out.below hb1)
    have HS := Lib.hid (HoldsLt.of (HoldsS.of_own hown))
    clear hb1 hown
    go_wp2_with fail
    have hP1 := PSt.start HE1.out HS.out HB1.out (.cells #[.slice av ls.length cv, .slice none 0 0, .string ⟨#[]⟩, .string ⟨#[]⟩, .int .i64 0, .int .i64 0] 102)
    have hR1 : RdB ((w1.alloc (.cells #[.slice av ls.length cv, .slice none 0 0, .string ⟨#[]⟩, .string ⟨#[]⟩, .int .i64 0, .int .i64 0] 102)).alloc (.cells #[.func (.func 59) #[] #[], .func (.func 60) #[] #[], .func (.func 61) #[] #[], .func (.func 62) #[] #[]] 105)) w1.heap.size (.slice av ls.length cv) (.slice none 0 0) (.string ⟨#[]⟩) (.string ⟨#[]⟩) (.int .i64 0) (.int .i64 0) := RdB.alloc (heap_alloc_new w1 _) _
    generalize (w1.alloc (.cells #[.slice av ls.length cv, .slice none 0 0, .string ⟨#[]⟩, .string ⟨#[]⟩, .int .i64 0, .int .i64 0] 102)).alloc (.cells #[.func (.func 59) #[] #[], .func (.func 60) #[] #[], .func (.func 61) #[] #[], .func (.func 62) #[] #[]] 105) = W1 at hP1 hR1 ⊢
    have HP1 := Lib.hid hP1
    have HR1 := Lib.hid hR1
    obtain ⟨q0, -, -, -⟩ := hP1.cells
    generalize hR : w1.heap.size = R at HP1 HR1 q0 ⊢
    have HS' := Lib.hid HS.out
    clear hP1 hR1 HS HB1 HE1 hR HS' HE HH
    refine wp_loop_rounds 5 ?_
    rw [rounds_succ]
    go_wp2_with fail
    refine (ask_first R _ _ _ _ _ _ _ ls (HR1.out.alloc _) ((HP1.out.alloc _).hold.holds (by have := (HP1.out.alloc (.cells #[.func (.func 59) #[] #[]] 105)).lt; omega)) (fun x hx => by have := HBD.out.1 x hx; omega) (HP1.out.alloc _).anc.env).mono ?_
    rintro e w2 ⟨rfl, hr2, hg2⟩
    have HP2 := Lib.hid ((HP1.out.alloc _).keep hg2)
    obtain ⟨-, q1, -, -⟩ := HP2.out.cells
    have HR2 := Lib.hid hr2
    clear hr2 hg2 q0
    by_cases h1 : firstL ls = 0
    case neg =>
      have HVB := Lib.hid (askV_bad s (firstL ls) (by rw [HL.out]; unfold lnE; rw [if_pos h1]) h1)
      have tz : ((firstL ls : Int) != 0) = true := by rw [bne_iff_ne]; omega
      obtain ⟨⟨d0, d1, d2, d3⟩, ⟨g0, g1, g2, g3⟩⟩ := four_of HP2.out.res
      clear h1 q1
      go_wp2_with fail
      refine ret_cell3 (A := ⟨w.heap.size, 0, none⟩) rfl (load_req _ _ _ _ _ _ _ (four_set HP2.out.res _ _ _ _)) rfl rfl rfl rfl ?_
      exact ⟨by rw [← HV.out, HVB.out]; rfl, four_below HP2.out.bel _ (Nat.le_refl _) _ _ _ _⟩
    have hne : ls ≠ [] := by intro e; rw [e] at h1; exact absurd h1 (by decide)
    have HR2' : Hid (RdB w2 R (.slice av ls.length cv) (.slice none 0 0) (.string (bs (wordL ls))) (.string ⟨#[]⟩) (.int .i64 0) (.int .i64 0)) := Lib.hid (by have := HR2.out; rw [if_pos h1] at this; exact this)
    have H1 := Lib.hid h1
    rw [h1]
    have HN := Lib.hid hne
    clear h1 HR2 hne
    go_wp2_with fail
    rw [rounds_succ]
    go_wp2_with fail
    refine (ask_named R _ _ _ _ _ _ ls (HR2'.out.alloc _) (HP2.out.alloc _).hold HN.out (by have := HBD.out.2; omega) (fun x hx => by have := HBD.out.1 x hx; omega) (HP2.out.alloc _).anc).mono ?_
    rintro e w3 ⟨rfl, ⟨fv, hr3, hf3⟩, hg3⟩
    have HP3 := Lib.hid ((HP2.out.alloc _).keep hg3)
    obtain ⟨-, -, q2, -⟩ := HP3.out.cells
    have HR3 := Lib.hid hr3
    have HF3 := Lib.hid hf3
    clear hr3 hg3 q1 hf3
    by_cases h2 : fldE ls.tail = 0
    case neg =>
      have HVB := Lib.hid (askV_bad s (fldE ls.tail) (by rw [HL.out]; unfold lnE; rw [if_neg (fun h => h H1.out), if_pos h2]) h2)
      have tz : ((fldE ls.tail : Int) != 0) = true := by rw [bne_iff_ne]; omega
      obtain ⟨⟨d0, d1, d2, d3⟩, ⟨g0, g1, g2, g3⟩⟩ := four_of HP3.out.res
      clear h2 q2
      go_wp2_with fail
      refine ret_cell3 (A := ⟨w.heap.size, 0, none⟩) rfl (load_req _ _ _ _ _ _ _ (four_set HP3.out.res _ _ _ _)) rfl rfl rfl rfl ?_
      exact ⟨by rw [← HV.out, HVB.out]; rfl, four_below HP3.out.bel _ (Nat.le_refl _) _ _ _ _⟩
    have HFO := Lib.hid (HF3.out h2)
    have hRb : Hid (R < (w2.alloc (.cells #[.func (.func 60) #[] #[]] 105)).heap.size) := Lib.hid (by have := (HP2.out.alloc (.cells #[.func (.func 60) #[] #[]] 105)).lt; omega)
    have H2 := Lib.hid h2
    rw [h2]
    obtain ⟨fs, hfs⟩ : ∃ fs, fldL ls.tail = fs := ⟨_, rfl⟩
    rw [hfs] at HFO
    have HF : Hid (HoldsF w3 fv fs) := Lib.hid (HoldsF.of_own HFO.out)
    have hfl : fs.length ≤ 17 := by rw [← hfs]; unfold fldL; rw [List.length_map, List.length_tail]; have := HBD.out.2; omega
    have hgl : (getS fs rangeK).length ≤ 256 := by rw [← hfs]; exact getS_len ls.tail rangeK (fun x hx => HBD.out.1 x (List.mem_of_mem_tail hx))
    have HFS := Lib.hid hfs
    have HGL := Lib.hid (And.intro hfl hgl)
    clear h2 HF3 hfs hfl hgl
    go_wp2_with fail
    rw [rounds_succ]
    go_wp2_with fail
    refine (ask_whom R _ _ fv _ _ _ _ fs (HR3.out.alloc _) (HF.out.below ((Below.refl _ _).alloc (Nat.le_refl _) _)) (by have := HGL.out.1; omega)).mono ?_
    rintro e w4 ⟨rfl, hr4, hg4⟩
    have HP4 := Lib.hid ((HP3.out.alloc _).keep hg4)
    obtain ⟨-, -, -, q3⟩ := HP4.out.cells
    have HR4 := Lib.hid hr4
    have HG4 := Lib.hid hg4
    clear hr4 hg4 q2
    by_cases h3 : whoE fs = 0
    case neg =>
      have HVB := Lib.hid (askV_bad s (whoE fs) (by rw [HL.out]; unfold lnE; rw [if_neg (fun h => h H1.out), if_neg (fun h => h H2.out), HFS.out, if_pos h3]) h3)
      have tz : ((whoE fs : Int) != 0) = true := by rw [bne_iff_ne]; omega
      obtain ⟨⟨d0, d1, d2, d3⟩, ⟨g0, g1, g2, g3⟩⟩ := four_of HP4.out.res
      clear h3 q3
      go_wp2_with fail
      refine ret_cell3 (A := ⟨w.heap.size, 0, none⟩) rfl (load_req _ _ _ _ _ _ _ (four_set HP4.out.res _ _ _ _)) rfl rfl rfl rfl ?_
      exact ⟨by rw [← HV.out, HVB.out]; rfl, four_below HP4.out.bel _ (Nat.le_refl _) _ _ _ _⟩
    have H3 := Lib.hid h3
    rw [h3]
    clear h3
    go_wp2_with fail
    rw [rounds_succ]
    go_wp2_with fail
    have HF4 : Hid (HoldsF w4 fv fs) := Lib.hid (HoldsF.of_own (own_grown (own_keep HFO.out ((Below.refl _ _).alloc (Nat.le_refl _) _)) HG4.out hRb.out))
    refine (ask_what R _ _ fv _ _ _ _ fs (HR4.out.alloc _) (HF4.out.below ((Below.refl _ _).alloc (Nat.le_refl _) _)) (by have := HGL.out.1; omega) (by have := HGL.out.2; omega) (HP4.out.alloc _).anc).mono ?_
    rintro e w5 ⟨rfl, ⟨a5, b5, hr5, ha5⟩, hg5⟩
    have HP5 := Lib.hid ((HP4.out.alloc _).keep hg5)
    have HR5 := Lib.hid hr5
    have HA5 := Lib.hid ha5
    clear hr5 hg5 q3 ha5
    by_cases h4 : whatE fs = 0
    case neg =>
      have HVB := Lib.hid (askV_bad s (whatE fs) (by rw [HL.out]; unfold lnE; rw [if_neg (fun h => h H1.out), if_neg (fun h => h H2.out), HFS.out, if_neg (fun h => h H3.out)]) h4)
      have tz : ((whatE fs : Int) != 0) = true := by rw [bne_iff_ne]; omega
      obtain ⟨⟨d0, d1, d2, d3⟩, ⟨g0, g1, g2, g3⟩⟩ := four_of HP5.out.res
      clear h4
      go_wp2_with fail
      refine ret_cell3 (A := ⟨w.heap.size, 0, none⟩) rfl (load_req _ _ _ _ _ _ _ (four_set HP5.out.res _ _ _ _)) rfl rfl rfl rfl ?_
      exact ⟨by rw [← HV.out, HVB.out]; rfl, four_below HP5.out.bel _ (Nat.le_refl _) _ _ _ _⟩
    obtain ⟨rfl, rfl⟩ := HA5.out h4
    have HVG := Lib.hid (askV_good s ls n HHd.out (by unfold lnE; rw [if_neg (fun h => h H1.out), if_neg (fun h => h H2.out), HFS.out, if_neg (fun h => h H3.out)]; exact h4))
    rw [h4]
    obtain ⟨-, -, r2, r3, r4, r5⟩ := HR5.out.cells
    obtain ⟨⟨d0, d1, d2, d3⟩, ⟨g0, g1, g2, g3⟩⟩ := four_of HP5.out.res
    clear h4 HA5
    go_wp2_with fail
    rw [rounds_succ]
    go_wp2_with fail
    refine ret_cell3 (A := ⟨w.heap.size, 0, none⟩) rfl (load_req _ _ _ _ _ _ _ (four_set HP5.out.res _ _ _ _)) rfl rfl rfl rfl ?_
    exact ⟨by rw [← HV.out, HVG.out, HFS.out]; rfl, four_below HP5.out.bel _ (Nat.le_refl _) _ _ _ _⟩
  · have HVB := Lib.hid (askV_bad s e (by unfold askE; rw [HHd.out]; exact if_pos he) he)
    have tz : ((e : Int) != 0) = true := by rw [bne_iff_ne]; omega
    clear he
    go_enter Tryz.func19, Tryz.ntmps19
    go_wp2_with fail
    refine HH.out.mono ?_
    rintro e w1 ⟨v, rfl, -, hb1⟩
    have HB1 := Lib.hid hb1
    have HK := Lib.hid ((hb1.block w.heap.size (by simp)).trans (heap_alloc_new w _))
    obtain ⟨⟨d0, d1, d2, d3⟩, ⟨g0, g1, g2, g3⟩⟩ := four_of HK.out
    clear hb1
    go_wp2_with fail
    refine ret_cell3 (A := ⟨w.heap.size, 0, none⟩) rfl (load_req _ _ _ _ _ _ _ (four_set HK.out _ _ _ _)) rfl rfl rfl rfl ?_
    exact ⟨by rw [← HV.out, HVB.out]; rfl, four_below (bstep (below_agg4 w _ _ _ _ _) HB1.out) _ (Nat.le_refl _) _ _ _ _⟩
end Go.Proofs.YtgaojfebmcmpaaaGreatDoor
