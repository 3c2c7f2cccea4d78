/- What named of package asking returns. -/
import Derived.Test.YtgaojfebmcmpaaaGreatDoorAskFirst
import Derived.Deep.RegionLaw
namespace Go.Proofs.YtgaojfebmcmpaaaGreatDoor
open Go.RowKit

/-- the library's variables, as a world held them whose blocks all lie below R -/
def Anchor (R : Nat) (w : World) : Prop := ∃ wa, EnvF wa ∧ wa.heap.size = R ∧ Below R wa w
theorem Anchor.env {R : Nat} {w : World} (h : Anchor R w) : EnvF w := by
  obtain ⟨wa, h1, rfl, h3⟩ := h
  exact h1.below h3
theorem Anchor.step {R : Nat} {w w' : World} (h : Anchor R w) (hb : Below R w w') : Anchor R w' := by
  obtain ⟨wa, h1, h2, h3⟩ := h
  exact ⟨wa, h1, h2, h3.trans hb⟩
/-- the slice v reads as the texts xs, and lies below R -/
def HoldsLt (w : World) (R : Nat) (v : Value) (xs : List (List UInt8)) : Prop :=
  ∃ a c, v = .slice a xs.length c ∧ xs.length ≤ c ∧ (xs ≠ [] → ∃ b o, a = some ⟨b, o, none⟩ ∧ b < R ∧ ∀ j (hj : j < xs.length), w.cell? ⟨b, o + j, none⟩ = some (.string (bs xs[j])))
theorem HoldsLt.holds {w : World} {R : Nat} {v : Value} {xs : List (List UInt8)} (h : HoldsLt w R v xs) (hR : R ≤ w.heap.size) : HoldsS w v xs := by
  obtain ⟨a, c, h1, h2, h3⟩ := h
  exact ⟨a, c, h1, h2, fun hn => let ⟨b, o, e1, e2, e3⟩ := h3 hn; ⟨b, o, e1, Nat.lt_of_lt_of_le e2 hR, e3⟩⟩
theorem HoldsLt.step {w w' : World} {R : Nat} {v : Value} {xs : List (List UInt8)} (h : HoldsLt w R v xs) (hb : Below R w w') : HoldsLt w' R v xs := by
  obtain ⟨a, c, h1, h2, h3⟩ := h
  exact ⟨a, c, h1, h2, fun hn => let ⟨b, o, e1, e2, e3⟩ := h3 hn; ⟨b, o, e1, e2, fun j hj => (hb.cell (p := ⟨b, o + j, none⟩) e2).trans (e3 j hj)⟩⟩
theorem HoldsLt.of {w : World} {v : Value} {xs : List (List UInt8)} (h : HoldsS w v xs) : HoldsLt w w.heap.size v xs := h
/-- the first error of some lines that are to be fields; the fields -/
def fldE : List (List UInt8) → Nat
  | [] => 0
  | l :: t => if parseE l ≠ 0 then parseE l else fldE t
def fldL (ls : List (List UInt8)) : List (List UInt8 × List UInt8) := ls.map fun l => (parseN l, parseV l)
theorem fldE_skip (xs : List (List UInt8)) : ∀ k, (∀ j (hj : j < xs.length), j < k → parseE xs[j] = 0) → fldE xs = fldE (xs.drop k) := by
  induction xs with
  | nil => intro k _; simp
  | cons x t ih =>
    intro k h
    cases k with
    | zero => rfl
    | succ k =>
      have h0 := h 0 (by simp) (by omega)
      show (if parseE x ≠ 0 then parseE x else fldE t) = fldE (t.drop k)
      rw [if_neg (fun hh => hh h0)]
      exact ih k (fun j hj hk => h (j + 1) (by simp; omega) (by omega))
theorem fldE_at (xs : List (List UInt8)) (k : Nat) (hk : k < xs.length) (h : ∀ j (hj : j < xs.length), j < k → parseE xs[j] = 0) (hb : parseE xs[k] ≠ 0) : fldE xs = parseE xs[k] := by
  rw [fldE_skip xs k h, List.drop_eq_getElem_cons hk]
  exact if_pos hb
theorem fldE_all (xs : List (List UInt8)) (h : ∀ j (hj : j < xs.length), parseE xs[j] = 0) : fldE xs = 0 := by
  rw [fldE_skip xs xs.length (fun j hj _ => h j hj), List.drop_length]; rfl
theorem fldL_snoc (xs : List (List UInt8)) (k : Nat) (hk : k < xs.length) : fldL (xs.take (k + 1)) = fldL (xs.take k) ++ [(parseN xs[k], parseV xs[k])] := by
  unfold fldL; rw [List.take_succ_eq_append_getElem hk, List.map_append]; rfl
/-- append of one field at a step of a region that draws -/
theorem step_appF {ops : Array Oper} {o : Oper} {a : Act} {K : Act → World → Prop} {Q : Exit → Act → World → Prop} {E : Prop} (W : World) (hgd : o.guard = none) (s x : Operand)
    (ho : o.op = .call { callee := .builtin .append, args := #[s, x], argTypes := #[50, 50] })
    (base : Nat) (v : Value) (fs : List (List UInt8 × List UInt8)) (hs : a.eval s = v) (hown : W.ownsRow base 123 2 v fs.length (fcells fs))
    (B : Nat) (f : List UInt8 × List UInt8) (hB : W.heap[B]? = some (.cells #[.string (bs f.1), .string (bs f.2)] 123 (0, 0))) (hx : a.eval x = .slice (some ⟨B, 0, none⟩) 1 1) (hn : fs.length < 2147483648) (hbase : base ≤ W.heap.size)
    (h : ∀ g cap w', w'.ownsRow base 123 2 (.slice (some ⟨g, 0, none⟩) (fs.length + 1) cap) (fs ++ [f]).length (fcells (fs ++ [f])) → W.grownBy w' v.ownBlock → K (a.put o.dst (.slice (some ⟨g, 0, none⟩) (fs.length + 1) cap)) w') :
    if Region.wanted o (yielded ops a.tmps) = true then Oper.wp Tryz.prog o a W K Q else E := by
  obtain ⟨i0, hi, hz0, hz1, hz2⟩ := info_parts info_field
  refine step_append_lies W hgd s x 50 ho base 123 i0 _ 2 32 Tryz.underlying50 hi hz0 hz1 hz2 rfl (by decide) v fs.length (fcells fs) hs hown ⟨B, 0, none⟩ 1 1 [.string (bs f.1), .string (bs f.2)] hx rfl (World.news_of_block hB) (by simp [Value.oneCell']) (by decide) (by unfold maxLen; omega) (by omega) hbase _ rfl ?_
  intro g cap w' h1 h2 _ _
  refine h g cap w' ?_ h2
  rw [List.length_append, fcells_append]; exact h1
theorem grow_block {w w' : World} {v : Value} {base R : Nat} {e : TypeId} {size n : Nat} {xs : List Value} (hg : w.grownBy w' v.ownBlock) (hown : w.ownsRow base e size v n xs) (hR : R < base) (hRw : R < w.heap.size) : w'.heap[R]? = w.heap[R]? :=
  hg.block R hRw (fun h => by have := (hown.lt R h.symm).1; omega)
/-- behind the append: the block as it was, all below it, too -/
def AfterApp (R : Nat) (W w' : World) (l v p h a b : Value) : Prop := RdB w' R l v p h a b ∧ W.grownBy w' (some R)
theorem step_appR {ops : Array Oper} {o : Oper} {a : Act} {K : Act → World → Prop} {Q : Exit → Act → World → Prop} {E : Prop} {R base : Nat} (w0 : World) (hw0 : w0.heap.size = base) (hR0 : R < base) {l v p h x y : Value} {W2 : World} {fs : List (List UInt8 × List UInt8)} (W : World) (hgd : o.guard = none) (s z : Operand)
    (ho : o.op = .call { callee := .builtin .append, args := #[s, z], argTypes := #[50, 50] })
    (hR2 : RdB W2 R l v p h x y) (hown : W2.ownsRow base 123 2 v fs.length (fcells fs)) (hg0 : w0.grownBy W2 (some R)) (hs : a.eval s = v) (hn : fs.length < 2147483648) (hbW : Below W2.heap.size W2 W)
    (B : Nat) (f : List UInt8 × List UInt8) (hB : W.heap[B]? = some (.cells #[.string (bs f.1), .string (bs f.2)] 123 (0, 0))) (hx : a.eval z = .slice (some ⟨B, 0, none⟩) 1 1)
    (hK : ∀ g cap w', w'.ownsRow base 123 2 (.slice (some ⟨g, 0, none⟩) (fs.length + 1) cap) (fs ++ [f]).length (fcells (fs ++ [f])) → w'.cell? ⟨R, 1, none⟩ = some v → w'.frozen? ⟨R, 1, none⟩ = false → AfterApp R w0 w' l v p h x y → K (a.put o.dst (.slice (some ⟨g, 0, none⟩) (fs.length + 1) cap)) w') :
    if Region.wanted o (yielded ops a.tmps) = true then Oper.wp Tryz.prog o a W K Q else E := by
  have hoW := own_keep hown hbW
  have hlt := hR2.lt
  have hsz := hbW.size
  have hs0 := hg0.size
  refine step_appF W hgd s z ho base v fs hs hoW B f hB hx hn (by omega) (fun g cap w' h1 h2 => ?_)
  have hR3 : RdB w' R l v p h x y := (grow_block h2 hoW hR0 (by omega)).trans (hR2.below hbW)
  have hg1 := hg0.below hbW
  have hb3 : w0.grownBy w' (some R) := ⟨h2.os.trans hg1.os, h2.tape.trans hg1.tape, h2.output.trans hg1.output, Nat.le_trans hg1.size h2.size, fun k hk hne =>
    (h2.block k (Nat.lt_of_lt_of_le hk hg1.size) (fun h => by have := (hoW.lt k h.symm).1; omega)).trans (hg1.block k hk hne)⟩
  exact hK g cap w' h1 hR3.cells.2.1 hR3.free.2.1 ⟨hR3, hb3⟩
theorem own_grown {w w' : World} {R B : Nat} {e : TypeId} {k : Nat} {v : Value} {n : Nat} {xs : List Value} (h : w.ownsRow B e k v n xs) (g : w.grownBy w' (some R)) (hR : R < B) : w'.ownsRow B e k v n xs := by
  refine ⟨h.1, ?_⟩
  rcases h.2 with h0 | ⟨b, cap, cur, e1, e2, e3, e4⟩
  · exact .inl h0
  · exact .inr ⟨b, cap, cur, e1, e2, (g.block b (Array.getElem?_eq_some_iff.1 e3).1 (fun e => by have := Option.some.inj e; omega)).trans e3, e4⟩
def NamedPost (R : Nat) (w : World) (lv p h a b : Value) (ls : List (List UInt8)) (e : Ending) (w' : World) : Prop :=
  e = .returned (.int .i64 (fldE ls.tail : Nat)) ∧ (∃ fv, RdB w' R lv fv p h a b ∧ (fldE ls.tail = 0 → w'.ownsRow w.heap.size 123 2 fv (fldL ls.tail).length (fcells (fldL ls.tail)))) ∧ w.grownBy w' (some R)
set_option maxRecDepth 100000 in
set_option maxHeartbeats 4000000 in
theorem ask_named (R : Nat) (w : World) (lv p h a b : Value) (ls : List (List UInt8)) (hR : RdB w R lv (.slice none 0 0) p h a b) (hl : HoldsLt w R lv ls) (hne : ls ≠ []) (hlen : ls.length ≤ 1000000) (hx : ∀ x ∈ ls, x.length ≤ 1000000) (hA : Anchor R w) :
    Calls Tryz.prog 60 #[.pointer (some ⟨R, 0, none⟩)] w (NamedPost R w lv p h a b ls) := by
  obtain ⟨k0, -, -, -, -, -⟩ := hR.cells
  have hRl := hR.lt
  obtain ⟨av, c, rfl, hc, hh⟩ := hl
  obtain ⟨B, o, rfl, hBl, hcell⟩ := hh hne
  obtain ⟨x0, ts, rfl⟩ : ∃ x ts, ls = x :: ts := by cases ls with
    | nil => exact absurd rfl hne
    | cons x ts => exact ⟨x, ts, rfl⟩
  have HC : Hid (∀ j (hj : j < ts.length), w.cell? ⟨B, o + 1 + j, none⟩ = some (.string (bs ts[j]))) := Lib.hid (fun j hj => by
    have := hcell (j + 1) (by simp; omega)
    rw [show o + 1 + j = o + (j + 1) by omega]; exact this)
  have HX : Hid (∀ x ∈ ts, x.length ≤ 1000000) := Lib.hid (fun x hxx => hx x (List.mem_cons_of_mem _ hxx))
  have HA := Lib.hid hA
  have HR := Lib.hid hR
  have hn1 : ((x0 :: ts).length : Nat) = ts.length + 1 := rfl
  rw [hn1] at hc hlen k0
  have HRL : Hid (RdB w R (.slice (some ⟨B, o, none⟩) (ts.length + 1) c) (.slice none 0 0) p h a b) := HR
  have HT : Hid ((x0 :: ts).tail = ts) := Lib.hid rfl
  rw [hn1]
  generalize (x0 :: ts) = LS at HT ⊢
  clear hcell hh hx hA hR hne hn1 HR
  have hts : ts.length ≤ 1000000 := by omega
  by_cases h1 : c = 1
  · have ht0 : ts = [] := List.length_eq_zero_iff.1 (by omega)
    subst ht0
    subst h1
    have HP : Hid (fldE LS.tail = 0 ∧ fldL LS.tail = []) := Lib.hid (by rw [HT.out]; exact ⟨rfl, rfl⟩)
    clear HT HC HX
    go_enter Tryz.func60, Tryz.ntmps60
    go_wp2_with fail
    refine wp_loop_rounds 1 ?_
    rw [rounds_succ]
    go_wp2_with fail
    go_ret
    exact ⟨by rw [HP.out.1]; rfl, ⟨_, HRL.out, fun _ => by rw [HP.out.2]; exact World.ownsRow_nil _ _ _ _⟩, GR.refl _ _⟩
  · have hc1 : 1 < c := by omega
    go_enter Tryz.func60, Tryz.ntmps60
    go_wp2_with fail
    go_loopg [13] ts.length (fun gk s13 wr => ∃ (k : Nat) (fv : Value), s13 = .int .i64 (k : Int) ∧ k + gk = ts.length ∧ RdB wr R (.slice (some ⟨B, o, none⟩) (ts.length + 1) c) fv p h a b ∧ wr.ownsRow w.heap.size 123 2 fv (fldL (ts.take k)).length (fcells (fldL (ts.take k))) ∧ w.grownBy wr (some R) ∧ Hid (∀ j (hj : j < ts.length), j < k → parseE ts[j] = 0))
    case atStart => exact ⟨0, _, by simp, by omega, HRL.out, by rw [List.take_zero]; exact World.ownsRow_nil _ _ _ _, GR.refl _ _, Lib.hid (fun j hj h => absurd h (Nat.not_lt_zero _))⟩
    case round =>
      obtain ⟨k, fv, rfl, hgk, hRr, hown, hgr, HK⟩ := hrel
      have HGR := Lib.hid hgr
      have hbr := hgr.toBelow (Nat.le_of_lt hRl)
      clear hgr
      have HO := Lib.hid hown
      have HRr := Lib.hid hRr
      clear hown hRr
      by_cases hk : k < ts.length
      · obtain ⟨g', rfl⟩ : ∃ g', gk = g' + 1 := ⟨gk - 1, by omega⟩
        have tk : decide ((k : Int) < (ts.length : Int)) = true := decide_eq_true (by omega)
        have c0 := (hbr.cell (p := ⟨B, o + 1 + k, none⟩) hBl).trans (HC.out k hk)
        obtain ⟨S, hS⟩ : ∃ S, bs ts[k] = S := ⟨_, rfl⟩
        have hSd : S.data.toList = ts[k] := by rw [← hS, bs_data]
        have hSs : S.size ≤ 1000000 := by rw [← hS, bs_size]; exact HX.out _ (List.getElem_mem hk)
        rw [hS] at c0
        have HP := Lib.hid (fun w hE => fields_parse S w hSs hE)
        rw [hSd] at HP
        have HE := Lib.hid (HA.out.step hbr).env
        have hkl : Hid ((fldL (ts.take k)).length < 2147483648) := Lib.hid (by unfold fldL; rw [List.length_map, List.length_take]; omega)
        clear hS hSd
        by_cases hz : parseE ts[k] = 0
        · rw [hz] at HP
          have HK2 : Hid (∀ j (hj : j < ts.length), j < k + 1 → parseE ts[j] = 0) := Lib.hid (fun j hj h => by
            by_cases e : j = k
            · subst e; exact hz
            · exact HK.out j hj (by omega))
          have hstep : Hid (fldL (ts.take (k + 1)) = fldL (ts.take k) ++ [(parseN ts[k], parseV ts[k])]) := Lib.hid (fldL_snoc ts k hk)
          clear hz HK
          go_wp2_with fail
          refine (HP.out _ HE.out).mono ?_
          rintro e w1 ⟨rfl, hb1⟩
          have HR1 := Lib.hid (HRr.out.below hb1)
          have HO1 := Lib.hid (own_keep HO.out hb1)
          have HG1 := Lib.hid (HGR.out.below hb1)
          have hR1l := HR1.out.lt
          clear hb1 hbr c0
          go_wp2_with fail
          have hR2 : RdB (w1.alloc (.cells #[.string (bs (parseN ts[k])), .string (bs (parseV ts[k]))] 123)) R (.slice (some ⟨B, o, none⟩) (ts.length + 1) c) fv p h a b := HR1.out.below ((Below.refl _ _).alloc (Nat.le_refl _) _)
          have hO2 := own_keep HO1.out ((Below.refl w1.heap.size w1).alloc (Nat.le_refl _) (.cells #[.string (bs (parseN ts[k])), .string (bs (parseV ts[k]))] 123))
          have hg2 := HG1.out.below ((Below.refl w1.heap.size w1).alloc (Nat.le_refl _) (.cells #[.string (bs (parseN ts[k])), .string (bs (parseV ts[k]))] 123))
          obtain ⟨j0, j1⟩ := box2 w1 (.string (bs (parseN ts[k]))) (.string (bs (parseV ts[k]))) 123
          have hj : w1.heap.size < (w1.alloc (.cells #[.string (bs (parseN ts[k])), .string (bs (parseV ts[k]))] 123)).heap.size := by simp
          generalize w1.alloc (.cells #[.string (bs (parseN ts[k])), .string (bs (parseV ts[k]))] 123) = W2 at hR2 hO2 hg2 j0 j1 hj ⊢
          have HR2 := Lib.hid hR2
          have HO2 := Lib.hid hO2
          have HG2 := Lib.hid hg2
          obtain ⟨-, k1, -, -, -, -⟩ := hR2.cells
          obtain ⟨-, f1, -, -, -, -⟩ := hR2.free
          have hRl2 := hR2.lt
          clear hR2 hO2 hg2 HR1 HO1 HG1
          go_region_law (refine step_appR w rfl hRl _ rfl _ _ rfl HR2.out HO2.out HG2.out rfl hkl.out ?_ W2.heap.size (parseN ts[k], parseV ts[k]) ?_ rfl ?_; exact ((Below.refl _ _).alloc (Nat.le_refl _) _).drew; exact heap_alloc_new W2 _; intro g cap w3 hown3 hc3 hf3 haf)
          all_goals
            go_wp2_with fail
            go_roundg g'
            case measure => omega
            case rel =>
              refine ⟨k + 1, _, by simp, by omega, haf.1.set1 _, ?_, haf.2.set 1 _, HK2⟩
              rw [hstep.out]; exact ownsRow_setCell_below hown3 (a := ⟨R, 1, none⟩) hRl _
        · have HF : Hid (fldE LS.tail = parseE ts[k] ∧ fldE LS.tail ≠ 0) := Lib.hid (by rw [HT.out, fldE_at ts k hk HK.out hz]; exact ⟨rfl, hz⟩)
          have tz : ((parseE ts[k] : Int) != 0) = true := by rw [bne_iff_ne]; omega
          clear hz HK
          go_wp2_with fail
          refine (HP.out _ HE.out).mono ?_
          rintro e w1 ⟨rfl, hb1⟩
          have HR1 := Lib.hid (HRr.out.below hb1)
          have HG1 := Lib.hid (HGR.out.below hb1)
          have hR1l := HR1.out.lt
          clear hb1 hbr c0
          go_wp2_with fail
          go_ret
          exact ⟨by rw [HF.out.1]; rfl, ⟨_, HR1.out.below ((Below.refl _ _).alloc (Nat.le_refl _) _), fun h => absurd h HF.out.2⟩, HG1.out.below ((Below.refl _ _).alloc (Nat.le_refl _) _)⟩
      · obtain rfl : k = ts.length := by omega
        have tk : decide ((ts.length : Int) < (ts.length : Int)) = false := decide_eq_false (by omega)
        have HP : Hid (fldE LS.tail = 0 ∧ fldL LS.tail = fldL (ts.take ts.length)) := Lib.hid (by rw [HT.out, List.take_length]; exact ⟨fldE_all ts (fun j hj => HK.out j hj hj), rfl⟩)
        clear HT HK
        go_wp2_with fail
        go_ret
        exact ⟨by rw [HP.out.1]; rfl, ⟨_, HRr.out, fun _ => by rw [HP.out.2]; exact HO.out⟩, HGR.out⟩
end Go.Proofs.YtgaojfebmcmpaaaGreatDoor
