/- What named of package asking returns. What whom and what of package asking return. What Parse of package asking returns. What first and Fields of the reference of asking return. What Parse of the reference of asking returns. The small example of the laws of layer 25. A request as printed is taken for itself; cut anywhere it is too short; what is taken may be printed (no program in sight). Plain words on replies: what one is printed as, and what is taken of bytes (no program in sight). DERIVED: THE SHELF's CONTRACTS AT THIS DUMP, IN PLAIN WORDS (tools/lay-plain.mjs out of 'YtbdmmgmcbecolaaGreatDoorSlLaysG.lean', which tools/lay-shelf.mjs wrote): THE SAME DECLARATIONS UNDER THE SAME NAMES: 'import', 'namespace', 'open', 'def', 'theorem' AND NOTHING ELSE: no command of the shelf's: FOR A HAND-IN. Each laying: the table of numbers ('.._ren') and one theorem, a field a fact of the dump's own or the kernel's comparison; each contract: ONE APPLICATION. -/
import Derived.Test.YtbdmmgmcbecolaaGreatDoorPu6
import Derived.Deep.RegionLaw
import Derived.LoopN
import Derived.Laws.EntriesVeiled
import Derived.Laws.StructEq
import Derived.Shelf.SlicesQ.Equal
import Derived.Shelf.SlicesE.Clone
import Derived.Shelf.SlicesQ.IndexFunc
import Derived.Ground.SlgqProg
import Derived.Ground.SlgnProg
import Derived.Ground.SlgfProg
import Derived.Test.YtbdmmgmcbecolaaGreatDoorProg
set_option linter.unusedVariables false
set_option linter.unusedSimpArgs false
namespace Go.Proofs.YtbdmmgmcbecolaaGreatDoor
open Go.RowKit

/-- the library's variables, as a world held them whose blocks all lie below R -/
def Anchor (R : Nat) (w : World) : Prop := ∃ wa, EnvF wa ∧ wa.heap.size = R ∧ Below R wa w
theorem Anchor.env {R : Nat} {w : World} (h : Anchor R w) : EnvF w := by
  obtain ⟨wa, h1, rfl, h3⟩ := h
  exact h1.below h3
theorem Anchor.step {R : Nat} {w w' : World} (h : Anchor R w) (hb : Below R w w') : Anchor R w' := by
  obtain ⟨wa, h1, h2, h3⟩ := h
  exact ⟨wa, h1, h2, h3.trans hb⟩
/-- the slice v reads as the texts xs, and lies below R -/
def HoldsLt (w : World) (R : Nat) (v : Value) (xs : List (List UInt8)) : Prop :=
  ∃ a c, v = .slice a xs.length c ∧ xs.length ≤ c ∧ (xs ≠ [] → ∃ b o, a = some ⟨b, o, none⟩ ∧ b < R ∧ ∀ j (hj : j < xs.length), w.cell? ⟨b, o + j, none⟩ = some (.string (bs xs[j])))
theorem HoldsLt.holds {w : World} {R : Nat} {v : Value} {xs : List (List UInt8)} (h : HoldsLt w R v xs) (hR : R ≤ w.heap.size) : HoldsS w v xs := by
  obtain ⟨a, c, h1, h2, h3⟩ := h
  exact ⟨a, c, h1, h2, fun hn => let ⟨b, o, e1, e2, e3⟩ := h3 hn; ⟨b, o, e1, Nat.lt_of_lt_of_le e2 hR, e3⟩⟩
theorem HoldsLt.step {w w' : World} {R : Nat} {v : Value} {xs : List (List UInt8)} (h : HoldsLt w R v xs) (hb : Below R w w') : HoldsLt w' R v xs := by
  obtain ⟨a, c, h1, h2, h3⟩ := h
  exact ⟨a, c, h1, h2, fun hn => let ⟨b, o, e1, e2, e3⟩ := h3 hn; ⟨b, o, e1, e2, fun j hj => (hb.cell (p := ⟨b, o + j, none⟩) e2).trans (e3 j hj)⟩⟩
theorem HoldsLt.of {w : World} {v : Value} {xs : List (List UInt8)} (h : HoldsS w v xs) : HoldsLt w w.heap.size v xs := h
/-- the first error of some lines that are to be fields; the fields -/
def fldE : List (List UInt8) → Nat
  | [] => 0
  | l :: t => if parseE l ≠ 0 then parseE l else fldE t
def fldL (ls : List (List UInt8)) : List (List UInt8 × List UInt8) := ls.map fun l => (parseN l, parseV l)
theorem fldE_skip (xs : List (List UInt8)) : ∀ k, (∀ j (hj : j < xs.length), j < k → parseE xs[j] = 0) → fldE xs = fldE (xs.drop k) := by
  induction xs with
  | nil => intro k _; simp
  | cons x t ih =>
    intro k h
    cases k with
    | zero => rfl
    | succ k =>
      have h0 := h 0 (by simp) (by omega)
      show (if parseE x ≠ 0 then parseE x else fldE t) = fldE (t.drop k)
      rw [if_neg (fun hh => hh h0)]
      exact ih k (fun j hj hk => h (j + 1) (by simp; omega) (by omega))
theorem fldE_at (xs : List (List UInt8)) (k : Nat) (hk : k < xs.length) (h : ∀ j (hj : j < xs.length), j < k → parseE xs[j] = 0) (hb : parseE xs[k] ≠ 0) : fldE xs = parseE xs[k] := by
  rw [fldE_skip xs k h, List.drop_eq_getElem_cons hk]
  exact if_pos hb
theorem fldE_all (xs : List (List UInt8)) (h : ∀ j (hj : j < xs.length), parseE xs[j] = 0) : fldE xs = 0 := by
  rw [fldE_skip xs xs.length (fun j hj _ => h j hj), List.drop_length]; rfl
theorem fldL_snoc (xs : List (List UInt8)) (k : Nat) (hk : k < xs.length) : fldL (xs.take (k + 1)) = fldL (xs.take k) ++ [(parseN xs[k], parseV xs[k])] := by
  unfold fldL; rw [List.take_succ_eq_append_getElem hk, List.map_append]; rfl
/-- append of one field at a step of a region that draws -/
theorem step_appF {ops : Array Oper} {o : Oper} {a : Act} {K : Act → World → Prop} {Q : Exit → Act → World → Prop} {E : Prop} (W : World) (hgd : o.guard = none) (s x : Operand)
    (ho : o.op = .call { callee := .builtin .append, args := #[s, x], argTypes := #[111, 111] })
    (base : Nat) (v : Value) (fs : List (List UInt8 × List UInt8)) (hs : a.eval s = v) (hown : W.ownsRow base 161 2 v fs.length (fcells fs))
    (B : Nat) (f : List UInt8 × List UInt8) (hB : W.heap[B]? = some (.cells #[.string (bs f.1), .string (bs f.2)] 161 (0, 0))) (hx : a.eval x = .slice (some ⟨B, 0, none⟩) 1 1) (hn : fs.length < 2147483648) (hbase : base ≤ W.heap.size)
    (h : ∀ g cap w', w'.ownsRow base 161 2 (.slice (some ⟨g, 0, none⟩) (fs.length + 1) cap) (fs ++ [f]).length (fcells (fs ++ [f])) → W.grownBy w' v.ownBlock → K (a.put o.dst (.slice (some ⟨g, 0, none⟩) (fs.length + 1) cap)) w') :
    if Region.wanted o (yielded ops a.tmps) = true then Oper.wp Tryz.prog o a W K Q else E := by
  obtain ⟨i0, hi, hz0, hz1, hz2⟩ := info_parts info_field
  refine step_append_lies W hgd s x 111 ho base 161 i0 _ 2 32 Tryz.underlying111 hi hz0 hz1 hz2 rfl (by decide) v fs.length (fcells fs) hs hown ⟨B, 0, none⟩ 1 1 [.string (bs f.1), .string (bs f.2)] hx rfl (World.news_of_block hB) (by simp [Value.oneCell']) (by decide) (by unfold maxLen; omega) (by omega) hbase _ rfl ?_
  intro g cap w' h1 h2 _ _
  refine h g cap w' ?_ h2
  rw [List.length_append, fcells_append]; exact h1
theorem grow_block {w w' : World} {v : Value} {base R : Nat} {e : TypeId} {size n : Nat} {xs : List Value} (hg : w.grownBy w' v.ownBlock) (hown : w.ownsRow base e size v n xs) (hR : R < base) (hRw : R < w.heap.size) : w'.heap[R]? = w.heap[R]? :=
  hg.block R hRw (fun h => by have := (hown.lt R h.symm).1; omega)
/-- behind the append: the block as it was, all below it, too -/
def AfterApp (R : Nat) (W w' : World) (l v p h a b : Value) : Prop := RdB w' R l v p h a b ∧ W.grownBy w' (some R)
theorem step_appR {ops : Array Oper} {o : Oper} {a : Act} {K : Act → World → Prop} {Q : Exit → Act → World → Prop} {E : Prop} {R base : Nat} (w0 : World) (hw0 : w0.heap.size = base) (hR0 : R < base) {l v p h x y : Value} {W2 : World} {fs : List (List UInt8 × List UInt8)} (W : World) (hgd : o.guard = none) (s z : Operand)
    (ho : o.op = .call { callee := .builtin .append, args := #[s, z], argTypes := #[111, 111] })
    (hR2 : RdB W2 R l v p h x y) (hown : W2.ownsRow base 161 2 v fs.length (fcells fs)) (hg0 : w0.grownBy W2 (some R)) (hs : a.eval s = v) (hn : fs.length < 2147483648) (hbW : Below W2.heap.size W2 W)
    (B : Nat) (f : List UInt8 × List UInt8) (hB : W.heap[B]? = some (.cells #[.string (bs f.1), .string (bs f.2)] 161 (0, 0))) (hx : a.eval z = .slice (some ⟨B, 0, none⟩) 1 1)
    (hK : ∀ g cap w', w'.ownsRow base 161 2 (.slice (some ⟨g, 0, none⟩) (fs.length + 1) cap) (fs ++ [f]).length (fcells (fs ++ [f])) → w'.cell? ⟨R, 1, none⟩ = some v → w'.frozen? ⟨R, 1, none⟩ = false → AfterApp R w0 w' l v p h x y → K (a.put o.dst (.slice (some ⟨g, 0, none⟩) (fs.length + 1) cap)) w') :
    if Region.wanted o (yielded ops a.tmps) = true then Oper.wp Tryz.prog o a W K Q else E := by
  have hoW := own_keep hown hbW
  have hlt := hR2.lt
  have hsz := hbW.size
  have hs0 := hg0.size
  refine step_appF W hgd s z ho base v fs hs hoW B f hB hx hn (by omega) (fun g cap w' h1 h2 => ?_)
  have hR3 : RdB w' R l v p h x y := (grow_block h2 hoW hR0 (by omega)).trans (hR2.below hbW)
  have hg1 := hg0.below hbW
  have hb3 : w0.grownBy w' (some R) := ⟨h2.os.trans hg1.os, h2.tape.trans hg1.tape, h2.output.trans hg1.output, Nat.le_trans hg1.size h2.size, fun k hk hne =>
    (h2.block k (Nat.lt_of_lt_of_le hk hg1.size) (fun h => by have := (hoW.lt k h.symm).1; omega)).trans (hg1.block k hk hne)⟩
  exact hK g cap w' h1 hR3.cells.2.1 hR3.free.2.1 ⟨hR3, hb3⟩
theorem own_grown {w w' : World} {R B : Nat} {e : TypeId} {k : Nat} {v : Value} {n : Nat} {xs : List Value} (h : w.ownsRow B e k v n xs) (g : w.grownBy w' (some R)) (hR : R < B) : w'.ownsRow B e k v n xs := by
  refine ⟨h.1, ?_⟩
  rcases h.2 with h0 | ⟨b, cap, cur, e1, e2, e3, e4⟩
  · exact .inl h0
  · exact .inr ⟨b, cap, cur, e1, e2, (g.block b (Array.getElem?_eq_some_iff.1 e3).1 (fun e => by have := Option.some.inj e; omega)).trans e3, e4⟩
def NamedPost (R : Nat) (w : World) (lv p h a b : Value) (ls : List (List UInt8)) (e : Ending) (w' : World) : Prop :=
  e = .returned (.int .i64 (fldE ls.tail : Nat)) ∧ (∃ fv, RdB w' R lv fv p h a b ∧ (fldE ls.tail = 0 → w'.ownsRow w.heap.size 161 2 fv (fldL ls.tail).length (fcells (fldL ls.tail)))) ∧ w.grownBy w' (some R)
set_option maxRecDepth 100000 in
set_option maxHeartbeats 4000000 in
theorem ask_named (R : Nat) (w : World) (lv p h a b : Value) (ls : List (List UInt8)) (hR : RdB w R lv (.slice none 0 0) p h a b) (hl : HoldsLt w R lv ls) (hne : ls ≠ []) (hlen : ls.length ≤ 1000000) (hx : ∀ x ∈ ls, x.length ≤ 1000000) (hA : Anchor R w) :
    Calls Tryz.prog 161 #[.pointer (some ⟨R, 0, none⟩)] w (NamedPost R w lv p h a b ls) := by
  obtain ⟨k0, -, -, -, -, -⟩ := hR.cells
  have hRl := hR.lt
  obtain ⟨av, c, rfl, hc, hh⟩ := hl
  obtain ⟨B, o, rfl, hBl, hcell⟩ := hh hne
  obtain ⟨x0, ts, rfl⟩ : ∃ x ts, ls = x :: ts := by cases ls with
    | nil => exact absurd rfl hne
    | cons x ts => exact ⟨x, ts, rfl⟩
  have HC : Hid (∀ j (hj : j < ts.length), w.cell? ⟨B, o + 1 + j, none⟩ = some (.string (bs ts[j]))) := Lib.hid (fun j hj => by
    have := hcell (j + 1) (by simp; omega)
    rw [show o + 1 + j = o + (j + 1) by omega]; exact this)
  have HX : Hid (∀ x ∈ ts, x.length ≤ 1000000) := Lib.hid (fun x hxx => hx x (List.mem_cons_of_mem _ hxx))
  have HA := Lib.hid hA
  have HR := Lib.hid hR
  have hn1 : ((x0 :: ts).length : Nat) = ts.length + 1 := rfl
  rw [hn1] at hc hlen k0
  have HRL : Hid (RdB w R (.slice (some ⟨B, o, none⟩) (ts.length + 1) c) (.slice none 0 0) p h a b) := HR
  have HT : Hid ((x0 :: ts).tail = ts) := Lib.hid rfl
  rw [hn1]
  generalize (x0 :: ts) = LS at HT ⊢
  clear hcell hh hx hA hR hne hn1 HR
  have hts : ts.length ≤ 1000000 := by omega
  by_cases h1 : c = 1
  · have ht0 : ts = [] := List.length_eq_zero_iff.1 (by omega)
    subst ht0
    subst h1
    have HP : Hid (fldE LS.tail = 0 ∧ fldL LS.tail = []) := Lib.hid (by rw [HT.out]; exact ⟨rfl, rfl⟩)
    clear HT HC HX
    go_enter Tryz.func161, Tryz.ntmps161
    go_wp2_with fail
    refine wp_loop_rounds 1 ?_
    rw [rounds_succ]
    go_wp2_with fail
    go_ret
    exact ⟨by rw [HP.out.1]; rfl, ⟨_, HRL.out, fun _ => by rw [HP.out.2]; exact World.ownsRow_nil _ _ _ _⟩, GR.refl _ _⟩
  · have hc1 : 1 < c := by omega
    go_enter Tryz.func161, Tryz.ntmps161
    go_wp2_with fail
    go_loopg [13] ts.length (fun gk s13 wr => ∃ (k : Nat) (fv : Value), s13 = .int .i64 (k : Int) ∧ k + gk = ts.length ∧ RdB wr R (.slice (some ⟨B, o, none⟩) (ts.length + 1) c) fv p h a b ∧ wr.ownsRow w.heap.size 161 2 fv (fldL (ts.take k)).length (fcells (fldL (ts.take k))) ∧ w.grownBy wr (some R) ∧ Hid (∀ j (hj : j < ts.length), j < k → parseE ts[j] = 0))
    case atStart => exact ⟨0, _, by simp, by omega, HRL.out, by rw [List.take_zero]; exact World.ownsRow_nil _ _ _ _, GR.refl _ _, Lib.hid (fun j hj h => absurd h (Nat.not_lt_zero _))⟩
    case round =>
      obtain ⟨k, fv, rfl, hgk, hRr, hown, hgr, HK⟩ := hrel
      have HGR := Lib.hid hgr
      have hbr := hgr.toBelow (Nat.le_of_lt hRl)
      clear hgr
      have HO := Lib.hid hown
      have HRr := Lib.hid hRr
      clear hown hRr
      by_cases hk : k < ts.length
      · obtain ⟨g', rfl⟩ : ∃ g', gk = g' + 1 := ⟨gk - 1, by omega⟩
        have tk : decide ((k : Int) < (ts.length : Int)) = true := decide_eq_true (by omega)
        have c0 := (hbr.cell (p := ⟨B, o + 1 + k, none⟩) hBl).trans (HC.out k hk)
        obtain ⟨S, hS⟩ : ∃ S, bs ts[k] = S := ⟨_, rfl⟩
        have hSd : S.data.toList = ts[k] := by rw [← hS, bs_data]
        have hSs : S.size ≤ 1000000 := by rw [← hS, bs_size]; exact HX.out _ (List.getElem_mem hk)
        rw [hS] at c0
        have HP := Lib.hid (fun w hE => fields_parse S w hSs hE)
        rw [hSd] at HP
        have HE := Lib.hid (HA.out.step hbr).env
        have hkl : Hid ((fldL (ts.take k)).length < 2147483648) := Lib.hid (by unfold fldL; rw [List.length_map, List.length_take]; omega)
        clear hS hSd
        by_cases hz : parseE ts[k] = 0
        · rw [hz] at HP
          have HK2 : Hid (∀ j (hj : j < ts.length), j < k + 1 → parseE ts[j] = 0) := Lib.hid (fun j hj h => by
            by_cases e : j = k
            · subst e; exact hz
            · exact HK.out j hj (by omega))
          have hstep : Hid (fldL (ts.take (k + 1)) = fldL (ts.take k) ++ [(parseN ts[k], parseV ts[k])]) := Lib.hid (fldL_snoc ts k hk)
          clear hz HK
          go_wp2_with fail
          refine (HP.out _ HE.out).mono ?_
          rintro e w1 ⟨rfl, hb1⟩
          have HR1 := Lib.hid (HRr.out.below hb1)
          have HO1 := Lib.hid (own_keep HO.out hb1)
          have HG1 := Lib.hid (HGR.out.below hb1)
          have hR1l := HR1.out.lt
          clear hb1 hbr c0
          go_wp2_with fail
          have hR2 : RdB (w1.alloc (.cells #[.string (bs (parseN ts[k])), .string (bs (parseV ts[k]))] 161)) R (.slice (some ⟨B, o, none⟩) (ts.length + 1) c) fv p h a b := HR1.out.below ((Below.refl _ _).alloc (Nat.le_refl _) _)
          have hO2 := own_keep HO1.out ((Below.refl w1.heap.size w1).alloc (Nat.le_refl _) (.cells #[.string (bs (parseN ts[k])), .string (bs (parseV ts[k]))] 161))
          have hg2 := HG1.out.below ((Below.refl w1.heap.size w1).alloc (Nat.le_refl _) (.cells #[.string (bs (parseN ts[k])), .string (bs (parseV ts[k]))] 161))
          obtain ⟨j0, j1⟩ := box2 w1 (.string (bs (parseN ts[k]))) (.string (bs (parseV ts[k]))) 161
          have hj : w1.heap.size < (w1.alloc (.cells #[.string (bs (parseN ts[k])), .string (bs (parseV ts[k]))] 161)).heap.size := by simp
          generalize w1.alloc (.cells #[.string (bs (parseN ts[k])), .string (bs (parseV ts[k]))] 161) = W2 at hR2 hO2 hg2 j0 j1 hj ⊢
          have HR2 := Lib.hid hR2
          have HO2 := Lib.hid hO2
          have HG2 := Lib.hid hg2
          obtain ⟨-, k1, -, -, -, -⟩ := hR2.cells
          obtain ⟨-, f1, -, -, -, -⟩ := hR2.free
          have hRl2 := hR2.lt
          clear hR2 hO2 hg2 HR1 HO1 HG1
          go_region_law (refine step_appR w rfl hRl _ rfl _ _ rfl HR2.out HO2.out HG2.out rfl hkl.out ?_ W2.heap.size (parseN ts[k], parseV ts[k]) ?_ rfl ?_; exact ((Below.refl _ _).alloc (Nat.le_refl _) _).drew; exact heap_alloc_new W2 _; intro g cap w3 hown3 hc3 hf3 haf)
          all_goals
            go_wp2_with fail
            go_roundg g'
            case measure => omega
            case rel =>
              refine ⟨k + 1, _, by simp, by omega, haf.1.set1 _, ?_, haf.2.set 1 _, HK2⟩
              rw [hstep.out]; exact ownsRow_setCell_below hown3 (a := ⟨R, 1, none⟩) hRl _
        · have HF : Hid (fldE LS.tail = parseE ts[k] ∧ fldE LS.tail ≠ 0) := Lib.hid (by rw [HT.out, fldE_at ts k hk HK.out hz]; exact ⟨rfl, hz⟩)
          have tz : ((parseE ts[k] : Int) != 0) = true := by rw [bne_iff_ne]; omega
          clear hz HK
          go_wp2_with fail
          refine (HP.out _ HE.out).mono ?_
          rintro e w1 ⟨rfl, hb1⟩
          have HR1 := Lib.hid (HRr.out.below hb1)
          have HG1 := Lib.hid (HGR.out.below hb1)
          have hR1l := HR1.out.lt
          clear hb1 hbr c0
          go_wp2_with fail
          go_ret
          exact ⟨by rw [HF.out.1]; rfl, ⟨_, HR1.out.below ((Below.refl _ _).alloc (Nat.le_refl _) _), fun h => absurd h HF.out.2⟩, HG1.out.below ((Below.refl _ _).alloc (Nat.le_refl _) _)⟩
      · obtain rfl : k = ts.length := by omega
        have tk : decide ((ts.length : Int) < (ts.length : Int)) = false := decide_eq_false (by omega)
        have HP : Hid (fldE LS.tail = 0 ∧ fldL LS.tail = fldL (ts.take ts.length)) := Lib.hid (by rw [HT.out, List.take_length]; exact ⟨fldE_all ts (fun j hj => HK.out j hj hj), rfl⟩)
        clear HT HK
        go_wp2_with fail
        go_ret
        exact ⟨by rw [HP.out.1]; rfl, ⟨_, HRr.out, fun _ => by rw [HP.out.2]; exact HO.out⟩, HGR.out⟩
end Go.Proofs.YtbdmmgmcbecolaaGreatDoor
namespace Go.Proofs.YtbdmmgmcbecolaaGreatDoor
open Go.RowKit

def hostK : List UInt8 := [104, 111, 115, 116]
def rangeK : List UInt8 := [114, 97, 110, 103, 101]
def whoE (fs : List (List UInt8 × List UInt8)) : Nat := if getE fs hostK ≠ 0 then getE fs hostK else if hostB (getS fs hostK) = false then 2 else 0
def whatE (fs : List (List UInt8 × List UInt8)) : Nat := if getE fs rangeK ≠ 0 then getE fs rangeK else askedE (getS fs rangeK)
def WhomPost (R : Nat) (w : World) (lv fv p a b : Value) (fs : List (List UInt8 × List UInt8)) (e : Ending) (w' : World) : Prop :=
  e = .returned (.int .i64 (whoE fs : Nat)) ∧ RdB w' R lv fv p (.string (bs (getS fs hostK))) a b ∧ w.grownBy w' (some R)
def WhatPost (R : Nat) (w : World) (lv fv p h : Value) (fs : List (List UInt8 × List UInt8)) (e : Ending) (w' : World) : Prop :=
  e = .returned (.int .i64 (whatE fs : Nat)) ∧ (∃ a b, RdB w' R lv fv p h a b ∧ (whatE fs = 0 → a = .int .i64 (askedA (getS fs rangeK)) ∧ b = .int .i64 (askedB (getS fs rangeK)))) ∧ w.grownBy w' (some R)
theorem get_k (v : Value) (fs : List (List UInt8 × List UInt8)) (n : ByteArray) (k : List UInt8) (hk : n.data.toList = k) (w : World) (hv : HoldsF w v fs) (hlen : fs.length ≤ 1000000) :
    Calls Tryz.prog 47 #[v, .string n] w fun e w' => e = .returned (.tuple #[.string (bs (getS fs k)), .int .i64 (getE fs k)]) ∧ Below w.heap.size w w' := by
  subst hk; exact fields_get v fs n w hv hlen
set_option maxRecDepth 100000 in
set_option maxHeartbeats 2000000 in
theorem ask_whom (R : Nat) (w : World) (lv fv p a b : Value) (h0 : ByteArray) (fs : List (List UInt8 × List UInt8)) (hR : RdB w R lv fv p (.string h0) a b) (hf : HoldsF w fv fs) (hlen : fs.length ≤ 1000000) :
    Calls Tryz.prog 162 #[.pointer (some ⟨R, 0, none⟩)] w (WhomPost R w lv fv p a b fs) := by
  obtain ⟨-, k1, -, -, -, -⟩ := hR.cells
  have HG := Lib.hid (get_k fv fs ⟨#[104, 111, 115, 116]⟩ hostK rfl w hf hlen)
  obtain ⟨H, hH⟩ : ∃ H, bs (getS fs hostK) = H := ⟨_, rfl⟩
  have hHd : H.data.toList = getS fs hostK := by rw [← hH, bs_data]
  have HH := Lib.hid (fun w => asking_host H w)
  rw [hHd] at HH
  rw [hH] at HG
  have HHH := Lib.hid hH
  have HR := Lib.hid hR
  have hRl := hR.lt
  clear hR hf hH hHd
  by_cases hg : getE fs hostK = 0
  · rw [hg] at HG
    cases hb : hostB (getS fs hostK) with
    | false =>
      rw [hb] at HH
      have HE : Hid (whoE fs = 2) := Lib.hid (by unfold whoE; rw [if_neg (fun h => h hg), if_pos hb])
      clear hg hb
      go_enter Tryz.func162, Tryz.ntmps162
      go_wp2_with fail
      refine HG.out.mono ?_
      rintro e w1 ⟨rfl, hb1⟩
      have HR1 := Lib.hid (HR.out.below hb1)
      obtain ⟨-, -, -, k3, -, -⟩ := HR1.out.cells
      obtain ⟨-, -, -, f3, -, -⟩ := HR1.out.free
      have HB1 := Lib.hid hb1
      clear hb1 k1
      go_wp2_with fail
      have HR2 := Lib.hid (HR1.out.set3 (.string H))
      have HB2 := Lib.hid (((GR.refl R w).below HB1.out).set 3 (.string H))
      generalize w1.setCell ⟨R, 3, none⟩ (.string H) = w2 at HR2 HB2 ⊢
      refine (HH.out _).mono ?_
      rintro e w3 ⟨rfl, hb3⟩
      go_wp2_with fail
      go_ret
      exact ⟨by rw [HE.out]; rfl, by rw [HHH.out]; exact HR2.out.below hb3, HB2.out.below hb3⟩
    | true =>
      rw [hb] at HH
      have HE : Hid (whoE fs = 0) := Lib.hid (by unfold whoE; rw [if_neg (fun h => h hg), if_neg (by rw [hb]; decide)])
      clear hg hb
      go_enter Tryz.func162, Tryz.ntmps162
      go_wp2_with fail
      refine HG.out.mono ?_
      rintro e w1 ⟨rfl, hb1⟩
      have HR1 := Lib.hid (HR.out.below hb1)
      obtain ⟨-, -, -, k3, -, -⟩ := HR1.out.cells
      obtain ⟨-, -, -, f3, -, -⟩ := HR1.out.free
      have HB1 := Lib.hid hb1
      clear hb1 k1
      go_wp2_with fail
      have HR2 := Lib.hid (HR1.out.set3 (.string H))
      have HB2 := Lib.hid (((GR.refl R w).below HB1.out).set 3 (.string H))
      generalize w1.setCell ⟨R, 3, none⟩ (.string H) = w2 at HR2 HB2 ⊢
      refine (HH.out _).mono ?_
      rintro e w3 ⟨rfl, hb3⟩
      go_wp2_with fail
      go_ret
      exact ⟨by rw [HE.out]; rfl, by rw [HHH.out]; exact HR2.out.below hb3, HB2.out.below hb3⟩
  · have HE : Hid (whoE fs = getE fs hostK) := Lib.hid (by unfold whoE; rw [if_pos hg])
    have tz : ((getE fs hostK : Int) != 0) = true := by rw [bne_iff_ne]; omega
    generalize getE fs hostK = Z at HG HE tz
    clear hg
    go_enter Tryz.func162, Tryz.ntmps162
    go_wp2_with fail
    refine HG.out.mono ?_
    rintro e w1 ⟨rfl, hb1⟩
    have HR1 := Lib.hid (HR.out.below hb1)
    obtain ⟨-, -, -, k3, -, -⟩ := HR1.out.cells
    obtain ⟨-, -, -, f3, -, -⟩ := HR1.out.free
    have HB1 := Lib.hid hb1
    clear hb1 k1
    go_wp2_with fail
    go_ret
    exact ⟨by rw [HE.out]; rfl, by rw [HHH.out]; exact HR1.out.set3 _, ((GR.refl R w).below HB1.out).set 3 _⟩
set_option maxRecDepth 100000 in
set_option maxHeartbeats 2000000 in
theorem ask_what (R : Nat) (w : World) (lv fv p h : Value) (a0 b0 : Int) (fs : List (List UInt8 × List UInt8)) (hR : RdB w R lv fv p h (.int .i64 a0) (.int .i64 b0)) (hf : HoldsF w fv fs) (hlen : fs.length ≤ 1000000) (hs : (getS fs rangeK).length ≤ 1000000) (hA : Anchor R w) :
    Calls Tryz.prog 163 #[.pointer (some ⟨R, 0, none⟩)] w (WhatPost R w lv fv p h fs) := by
  obtain ⟨-, k1, -, -, -, -⟩ := hR.cells
  have HG := Lib.hid (get_k fv fs ⟨#[114, 97, 110, 103, 101]⟩ rangeK rfl w hf hlen)
  obtain ⟨H, hH⟩ : ∃ H, bs (getS fs rangeK) = H := ⟨_, rfl⟩
  have hHd : H.data.toList = getS fs rangeK := by rw [← hH, bs_data]
  have HH := Lib.hid (fun w hE => ranges_asked H w (by rw [← hH, bs_size]; exact hs) hE)
  rw [hHd] at HH
  rw [hH] at HG
  have HR := Lib.hid hR
  have HE := Lib.hid hA.env
  have hRl := hR.lt
  clear hR hf hH hHd hs hA
  by_cases hg : getE fs rangeK = 0
  · rw [hg] at HG
    have HW : Hid (whatE fs = askedE (getS fs rangeK)) := Lib.hid (by unfold whatE; rw [if_neg (fun h => h hg)])
    clear hg
    go_enter Tryz.func163, Tryz.ntmps163
    go_wp2_with fail
    refine HG.out.mono ?_
    rintro e w1 ⟨rfl, hb1⟩
    have HR1 := Lib.hid (HR.out.below hb1)
    have HB1 := Lib.hid hb1
    have HE1 := Lib.hid (HE.out.below hb1)
    clear hb1 k1
    go_wp2_with fail
    refine (HH.out _ HE1.out).mono ?_
    rintro e w2 ⟨rfl, hb2⟩
    have HR2 := Lib.hid (HR1.out.below hb2)
    obtain ⟨-, -, -, -, k4, k5⟩ := HR2.out.cells
    obtain ⟨-, -, -, -, f4, f5⟩ := HR2.out.free
    have HB2 := Lib.hid (bstep HB1.out hb2)
    clear hb2
    go_wp2_with fail
    go_ret
    exact ⟨by rw [HW.out]; rfl, ⟨_, _, HR2.out.set45 _ _, fun _ => ⟨rfl, rfl⟩⟩, (((GR.refl R w).below HB2.out).set 4 _).set 5 _⟩
  · have HW : Hid (whatE fs = getE fs rangeK ∧ whatE fs ≠ 0) := Lib.hid (by unfold whatE; rw [if_pos hg]; exact ⟨rfl, hg⟩)
    have tz : ((getE fs rangeK : Int) != 0) = true := by rw [bne_iff_ne]; omega
    generalize getE fs rangeK = Z at HG HW tz
    clear hg
    go_enter Tryz.func163, Tryz.ntmps163
    go_wp2_with fail
    refine HG.out.mono ?_
    rintro e w1 ⟨rfl, hb1⟩
    have HR1 := Lib.hid (HR.out.below hb1)
    have HB1 := Lib.hid hb1
    clear hb1 k1
    go_wp2_with fail
    go_ret
    exact ⟨by rw [HW.out.1]; rfl, ⟨_, _, HR1.out, fun h => absurd h HW.out.2⟩, (GR.refl R w).below HB1.out⟩
end Go.Proofs.YtbdmmgmcbecolaaGreatDoor
namespace Go.Proofs.YtbdmmgmcbecolaaGreatDoor
open Go.RowKit

theorem takeLine_len (s : ByteArray) (a : Int) : (takeLine s a).data.toList.length ≤ 256 := by
  unfold takeLine
  split
  · rename_i h
    have := (scan_n (s.data.toList.drop a.toNat) 0 (by omega)).2.2.1
    rw [size_len, ByteArray.size_extract]
    unfold scanAt; omega
  · exact Nat.zero_le _
theorem headR_bound (s : ByteArray) : ∀ (f : Nat) (a : Int) (xs : List (List UInt8)), (∀ x ∈ xs, x.length ≤ 256) → xs.length ≤ 17 → (∀ x ∈ (headR f s a xs).1, x.length ≤ 256) ∧ (headR f s a xs).1.length ≤ 17 := by
  intro f
  induction f with
  | zero => intro a xs _ _; exact ⟨fun x h => by simp [headR] at h, by simp [headR]⟩
  | succ f ih =>
    intro a xs h1 h2
    unfold headR
    split
    · exact ⟨fun x h => by simp at h, by simp⟩
    · split
      · exact ⟨h1, h2⟩
      · split
        · exact ⟨fun x h => by simp at h, by simp⟩
        · rename_i h17
          refine ih _ _ (fun x hx => ?_) (by rw [List.length_append, List.length_singleton]; omega)
          rw [List.mem_append, List.mem_singleton] at hx
          rcases hx with hx | rfl
          · exact h1 x hx
          · exact takeLine_len s a
theorem headOf_bound (s : ByteArray) : (∀ x ∈ (headOf s).1, x.length ≤ 256) ∧ (headOf s).1.length ≤ 17 := headR_bound s 18 0 [] (fun x h => by simp at h) (by decide)
theorem parseV_len (l : List UInt8) : (parseV l).length ≤ l.length := by
  unfold parseV
  split
  · unfold parseVal
    have := trimS_le (l.drop ((ahead l).length + 1))
    rw [List.length_drop] at this; omega
  · exact Nat.zero_le _
theorem getS_mem (fs : List (List UInt8 × List UInt8)) (k : List UInt8) : getS fs k = [] ∨ ∃ f ∈ fs, getS fs k = f.2 := by
  unfold getS
  split
  · rename_i v h
    right
    have hm : v ∈ hits fs k := by rw [h]; exact List.mem_singleton.2 rfl
    unfold hits at hm
    obtain ⟨f, hf, rfl⟩ := List.mem_map.1 hm
    exact ⟨f, (List.mem_filter.1 hf).1, rfl⟩
  · exact .inl rfl
theorem getS_len (ls : List (List UInt8)) (k : List UInt8) (h : ∀ x ∈ ls, x.length ≤ 256) : (getS (fldL ls) k).length ≤ 256 := by
  rcases getS_mem (fldL ls) k with e | ⟨f, hf, e⟩
  · rw [e]; exact Nat.zero_le _
  · rw [e]
    unfold fldL at hf
    obtain ⟨x, hx, rfl⟩ := List.mem_map.1 hf
    exact Nat.le_trans (parseV_len x) (h x hx)
/-- what is wrong with the lines of a request -/
def lnE (ls : List (List UInt8)) : Nat := if firstL ls ≠ 0 then firstL ls else if fldE ls.tail ≠ 0 then fldE ls.tail else if whoE (fldL ls.tail) ≠ 0 then whoE (fldL ls.tail) else whatE (fldL ls.tail)
def askE (s : ByteArray) : Nat := if (headOf s).2.2 ≠ 0 then (headOf s).2.2 else lnE (headOf s).1
def askPath (s : ByteArray) : List UInt8 := if askE s = 0 then wordL (headOf s).1 else []
def askHost (s : ByteArray) : List UInt8 := if askE s = 0 then getS (fldL (headOf s).1.tail) hostK else []
def askA (s : ByteArray) : Int := if askE s = 0 then askedA (getS (fldL (headOf s).1.tail) rangeK) else 0
def askB (s : ByteArray) : Int := if askE s = 0 then askedB (getS (fldL (headOf s).1.tail) rangeK) else 0
def askN (s : ByteArray) : Int := if askE s = 0 then (headOf s).2.1 else 0
def askV (s : ByteArray) : Value := .tuple #[.agg #[.string (bs (askPath s)), .string (bs (askHost s)), .int .i64 (askA s), .int .i64 (askB s)], .int .i64 (askN s), .int .i64 (askE s : Nat)]
theorem askV_bad (s : ByteArray) (e : Nat) (h : askE s = e) (h0 : e ≠ 0) : askV s = .tuple #[.agg #[.string ⟨#[]⟩, .string ⟨#[]⟩, .int .i64 0, .int .i64 0], .int .i64 0, .int .i64 (e : Nat)] := by
  have hn : askE s ≠ 0 := by rw [h]; exact h0
  unfold askV askPath askHost askA askB askN
  rw [if_neg hn, if_neg hn, if_neg hn, if_neg hn, if_neg hn, h]; rfl
/-- what stands while a request is taken -/
structure PSt (w : World) (R : Nat) (lv : Value) (ls : List (List UInt8)) (wx : World) : Prop where
  anc : Anchor R wx
  hold : HoldsLt wx R lv ls
  fs : wx.heap[R + 1]? = some (.cells #[.func (.func 160) #[] #[], .func (.func 161) #[] #[], .func (.func 162) #[] #[], .func (.func 163) #[] #[]] 262 (0, 0))
  res : wx.heap[w.heap.size]? = some (.cells #[.string ⟨#[]⟩, .string ⟨#[]⟩, .int .i64 0, .int .i64 0] 91 (0, 0))
  bel : Below w.heap.size w wx
  Rlt : w.heap.size < R
theorem PSt.lt {w wx : World} {R : Nat} {lv : Value} {ls : List (List UInt8)} (h : PSt w R lv ls wx) : R + 1 < wx.heap.size := (Array.getElem?_eq_some_iff.1 h.fs).1
theorem PSt.keep {w wx wy : World} {R : Nat} {lv : Value} {ls : List (List UInt8)} (h : PSt w R lv ls wx) (g : wx.grownBy wy (some R)) : PSt w R lv ls wy := by
  have hl := h.lt
  have hb := g.toBelow (by omega)
  have hr := h.Rlt
  exact ⟨h.anc.step hb, h.hold.step hb, (g.block (R + 1) hl (by simp)).trans h.fs, (g.block w.heap.size (by omega) (fun e => by have := Option.some.inj e; omega)).trans h.res, h.bel.trans (hb.mono (Nat.le_of_lt hr)), hr⟩
theorem PSt.alloc {w wx : World} {R : Nat} {lv : Value} {ls : List (List UInt8)} (h : PSt w R lv ls wx) (o : Obj) : PSt w R lv ls (wx.alloc o) :=
  h.keep ((GR.refl R wx).below ((Below.refl _ _).alloc (Nat.le_refl _) o))
theorem RdB.alloc {w : World} {R : Nat} {l f p h a b : Value} (k : RdB w R l f p h a b) (o : Obj) : RdB (w.alloc o) R l f p h a b := k.below ((Below.refl _ _).alloc (Nat.le_refl _) o)
theorem PSt.cells {w wx : World} {R : Nat} {lv : Value} {ls : List (List UInt8)} (h : PSt w R lv ls wx) :
    wx.cell? ⟨R + 1, 0, none⟩ = some (.func (.func 160) #[] #[]) ∧ wx.cell? ⟨R + 1, 1, none⟩ = some (.func (.func 161) #[] #[]) ∧ wx.cell? ⟨R + 1, 2, none⟩ = some (.func (.func 162) #[] #[]) ∧ wx.cell? ⟨R + 1, 3, none⟩ = some (.func (.func 163) #[] #[]) := by
  have k := h.fs
  refine ⟨?_, ?_, ?_, ?_⟩ <;> (unfold World.cell?; rw [k]; rfl)
theorem four_of {w : World} {b : Nat} {x y z u : Value} {t : TypeId} (k : w.heap[b]? = some (.cells #[x, y, z, u] t (0, 0))) :
    (w.cell? ⟨b, 0, none⟩ = some x ∧ w.cell? ⟨b, 1, none⟩ = some y ∧ w.cell? ⟨b, 2, none⟩ = some z ∧ w.cell? ⟨b, 3, none⟩ = some u) ∧ (w.frozen? ⟨b, 0, none⟩ = false ∧ w.frozen? ⟨b, 1, none⟩ = false ∧ w.frozen? ⟨b, 2, none⟩ = false ∧ w.frozen? ⟨b, 3, none⟩ = false) := by
  refine ⟨⟨?_, ?_, ?_, ?_⟩, ⟨?_, ?_, ?_, ?_⟩⟩ <;> first | (unfold World.cell?; rw [k]; rfl) | (unfold World.frozen?; rw [k]; rfl)
theorem PSt.start {w w1 : World} {lv : Value} {ls : List (List UInt8)} (hE : EnvF w1) (hS : HoldsLt w1 w1.heap.size lv ls) (hb : Below (w.alloc (.cells #[.string ⟨#[]⟩, .string ⟨#[]⟩, .int .i64 0, .int .i64 0] 91)).heap.size (w.alloc (.cells #[.string ⟨#[]⟩, .string ⟨#[]⟩, .int .i64 0, .int .i64 0] 91)) w1) (o : Obj) :
    PSt w w1.heap.size lv ls ((w1.alloc o).alloc (.cells #[.func (.func 160) #[] #[], .func (.func 161) #[] #[], .func (.func 162) #[] #[], .func (.func 163) #[] #[]] 262)) := by
  have hb2 : Below w1.heap.size w1 ((w1.alloc o).alloc (.cells #[.func (.func 160) #[] #[], .func (.func 161) #[] #[], .func (.func 162) #[] #[], .func (.func 163) #[] #[]] 262)) := ((Below.refl _ _).alloc (Nat.le_refl _) o).alloc (by simp) _
  have hsz : w.heap.size < w1.heap.size := by have := hb.size; simp at this; omega
  refine ⟨⟨w1, hE, rfl, hb2⟩, hS.step hb2, heap_alloc2_new w1 o _, ?_, (below_agg4 w _ _ _ _ _).trans ((hb.mono (by simp)).trans (hb2.mono (Nat.le_of_lt hsz))), hsz⟩
  exact (hb2.block w.heap.size hsz).trans ((hb.block w.heap.size (by simp)).trans (heap_alloc_new w _))
theorem askV_good (s : ByteArray) (ls : List (List UInt8)) (n : Int) (h : headOf s = (ls, n, 0)) (hl : lnE ls = 0) :
    askV s = .tuple #[.agg #[.string (bs (wordL ls)), .string (bs (getS (fldL ls.tail) hostK)), .int .i64 (askedA (getS (fldL ls.tail) rangeK)), .int .i64 (askedB (getS (fldL ls.tail) rangeK))], .int .i64 n, .int .i64 0] := by
  have h0 : askE s = 0 := by unfold askE; rw [h]; exact hl
  unfold askV askPath askHost askA askB askN
  rw [if_pos h0, if_pos h0, if_pos h0, if_pos h0, if_pos h0, h0, h]; rfl
theorem head_good (s : ByteArray) (w : World) (hs : s.size ≤ 9223372036854775807) : Calls Tryz.prog 73 #[.string s] w (HeadPost s w) := lines_head s w hs
set_option maxRecDepth 100000 in
set_option maxHeartbeats 4000000 in
theorem asking_parse (s : ByteArray) (w : World) (hs : s.size ≤ 1000000) (hE : EnvF w) :
    Calls Tryz.prog 125 #[.string s] w fun e w' => e = .returned (askV s) ∧ Below w.heap.size w w' := by
  have HH := Lib.hid (head_good s (w.alloc (.cells #[.string ⟨#[]⟩, .string ⟨#[]⟩, .int .i64 0, .int .i64 0] 91)) (by omega))
  obtain ⟨V, hV⟩ : ∃ V, askV s = V := ⟨_, rfl⟩
  rw [hV]
  have HV := Lib.hid hV
  have HE := Lib.hid (hE.below (below_agg4 w (.string ⟨#[]⟩) (.string ⟨#[]⟩) (.int .i64 0) (.int .i64 0) 91))
  have hbd := headOf_bound s
  unfold HeadPost at HH
  obtain ⟨⟨ls, n, e⟩, hh⟩ : ∃ T, headOf s = T := ⟨_, rfl⟩
  rw [hh] at HH hbd
  have HHd := Lib.hid hh
  change (∀ x ∈ ls, x.length ≤ 256) ∧ ls.length ≤ 17 at hbd
  change Hid (Calls _ _ _ _ fun r w' => ∃ v, r = .returned (.tuple #[v, .int .i64 n, .int .i64 (e : Nat)]) ∧ w'.ownsRow _ 9 1 v ls.length (strs ls) ∧ _) at HH
  have HBD := Lib.hid hbd
  clear hE hV hbd hh
  by_cases he : e = 0
  · subst he
    have HL : Hid (askE s = lnE ls) := Lib.hid (by unfold askE; rw [HHd.out]; rfl)
    go_enter Tryz.func125, Tryz.ntmps125
    go_wp2_with fail
    refine HH.out.mono ?_
    rintro e w1 ⟨v, rfl, hown, hb1⟩
    obtain ⟨av, cv, rfl⟩ := slice_of_own hown
    have HB1 := Lib.hid hb1
    have HE1 := Lib.hid (HE.out.below hb1)
    have HS := Lib.hid (HoldsLt.of (HoldsS.of_own hown))
    clear hb1 hown
    go_wp2_with fail
    have hP1 := PSt.start HE1.out HS.out HB1.out (.cells #[.slice av ls.length cv, .slice none 0 0, .string ⟨#[]⟩, .string ⟨#[]⟩, .int .i64 0, .int .i64 0] 259)
    have hR1 : RdB ((w1.alloc (.cells #[.slice av ls.length cv, .slice none 0 0, .string ⟨#[]⟩, .string ⟨#[]⟩, .int .i64 0, .int .i64 0] 259)).alloc (.cells #[.func (.func 160) #[] #[], .func (.func 161) #[] #[], .func (.func 162) #[] #[], .func (.func 163) #[] #[]] 262)) w1.heap.size (.slice av ls.length cv) (.slice none 0 0) (.string ⟨#[]⟩) (.string ⟨#[]⟩) (.int .i64 0) (.int .i64 0) := RdB.alloc (heap_alloc_new w1 _) _
    generalize (w1.alloc (.cells #[.slice av ls.length cv, .slice none 0 0, .string ⟨#[]⟩, .string ⟨#[]⟩, .int .i64 0, .int .i64 0] 259)).alloc (.cells #[.func (.func 160) #[] #[], .func (.func 161) #[] #[], .func (.func 162) #[] #[], .func (.func 163) #[] #[]] 262) = W1 at hP1 hR1 ⊢
    have HP1 := Lib.hid hP1
    have HR1 := Lib.hid hR1
    obtain ⟨q0, -, -, -⟩ := hP1.cells
    generalize hR : w1.heap.size = R at HP1 HR1 q0 ⊢
    have HS' := Lib.hid HS.out
    clear hP1 hR1 HS HB1 HE1 hR HS' HE HH
    refine wp_loop_rounds 5 ?_
    rw [rounds_succ]
    go_wp2_with fail
    refine (ask_first R _ _ _ _ _ _ _ ls (HR1.out.alloc _) ((HP1.out.alloc _).hold.holds (by have := (HP1.out.alloc (.cells #[.func (.func 160) #[] #[]] 262)).lt; omega)) (fun x hx => by have := HBD.out.1 x hx; omega) (HP1.out.alloc _).anc.env).mono ?_
    rintro e w2 ⟨rfl, hr2, hg2⟩
    have HP2 := Lib.hid ((HP1.out.alloc _).keep hg2)
    obtain ⟨-, q1, -, -⟩ := HP2.out.cells
    have HR2 := Lib.hid hr2
    clear hr2 hg2 q0
    by_cases h1 : firstL ls = 0
    case neg =>
      have HVB := Lib.hid (askV_bad s (firstL ls) (by rw [HL.out]; unfold lnE; rw [if_pos h1]) h1)
      have tz : ((firstL ls : Int) != 0) = true := by rw [bne_iff_ne]; omega
      obtain ⟨⟨d0, d1, d2, d3⟩, ⟨g0, g1, g2, g3⟩⟩ := four_of HP2.out.res
      clear h1 q1
      go_wp2_with fail
      refine ret_cell3 (A := ⟨w.heap.size, 0, none⟩) rfl (load_req _ _ _ _ _ _ _ (four_set HP2.out.res _ _ _ _)) rfl rfl rfl rfl ?_
      exact ⟨by rw [← HV.out, HVB.out]; rfl, four_below HP2.out.bel _ (Nat.le_refl _) _ _ _ _⟩
    have hne : ls ≠ [] := by intro e; rw [e] at h1; exact absurd h1 (by decide)
    have HR2' : Hid (RdB w2 R (.slice av ls.length cv) (.slice none 0 0) (.string (bs (wordL ls))) (.string ⟨#[]⟩) (.int .i64 0) (.int .i64 0)) := Lib.hid (by have := HR2.out; rw [if_pos h1] at this; exact this)
    have H1 := Lib.hid h1
    rw [h1]
    have HN := Lib.hid hne
    clear h1 HR2 hne
    go_wp2_with fail
    rw [rounds_succ]
    go_wp2_with fail
    refine (ask_named R _ _ _ _ _ _ ls (HR2'.out.alloc _) (HP2.out.alloc _).hold HN.out (by have := HBD.out.2; omega) (fun x hx => by have := HBD.out.1 x hx; omega) (HP2.out.alloc _).anc).mono ?_
    rintro e w3 ⟨rfl, ⟨fv, hr3, hf3⟩, hg3⟩
    have HP3 := Lib.hid ((HP2.out.alloc _).keep hg3)
    obtain ⟨-, -, q2, -⟩ := HP3.out.cells
    have HR3 := Lib.hid hr3
    have HF3 := Lib.hid hf3
    clear hr3 hg3 q1 hf3
    by_cases h2 : fldE ls.tail = 0
    case neg =>
      have HVB := Lib.hid (askV_bad s (fldE ls.tail) (by rw [HL.out]; unfold lnE; rw [if_neg (fun h => h H1.out), if_pos h2]) h2)
      have tz : ((fldE ls.tail : Int) != 0) = true := by rw [bne_iff_ne]; omega
      obtain ⟨⟨d0, d1, d2, d3⟩, ⟨g0, g1, g2, g3⟩⟩ := four_of HP3.out.res
      clear h2 q2
      go_wp2_with fail
      refine ret_cell3 (A := ⟨w.heap.size, 0, none⟩) rfl (load_req _ _ _ _ _ _ _ (four_set HP3.out.res _ _ _ _)) rfl rfl rfl rfl ?_
      exact ⟨by rw [← HV.out, HVB.out]; rfl, four_below HP3.out.bel _ (Nat.le_refl _) _ _ _ _⟩
    have HFO := Lib.hid (HF3.out h2)
    have hRb : Hid (R < (w2.alloc (.cells #[.func (.func 161) #[] #[]] 262)).heap.size) := Lib.hid (by have := (HP2.out.alloc (.cells #[.func (.func 161) #[] #[]] 262)).lt; omega)
    have H2 := Lib.hid h2
    rw [h2]
    obtain ⟨fs, hfs⟩ : ∃ fs, fldL ls.tail = fs := ⟨_, rfl⟩
    rw [hfs] at HFO
    have HF : Hid (HoldsF w3 fv fs) := Lib.hid (HoldsF.of_own HFO.out)
    have hfl : fs.length ≤ 17 := by rw [← hfs]; unfold fldL; rw [List.length_map, List.length_tail]; have := HBD.out.2; omega
    have hgl : (getS fs rangeK).length ≤ 256 := by rw [← hfs]; exact getS_len ls.tail rangeK (fun x hx => HBD.out.1 x (List.mem_of_mem_tail hx))
    have HFS := Lib.hid hfs
    have HGL := Lib.hid (And.intro hfl hgl)
    clear h2 HF3 hfs hfl hgl
    go_wp2_with fail
    rw [rounds_succ]
    go_wp2_with fail
    refine (ask_whom R _ _ fv _ _ _ _ fs (HR3.out.alloc _) (HF.out.below ((Below.refl _ _).alloc (Nat.le_refl _) _)) (by have := HGL.out.1; omega)).mono ?_
    rintro e w4 ⟨rfl, hr4, hg4⟩
    have HP4 := Lib.hid ((HP3.out.alloc _).keep hg4)
    obtain ⟨-, -, -, q3⟩ := HP4.out.cells
    have HR4 := Lib.hid hr4
    have HG4 := Lib.hid hg4
    clear hr4 hg4 q2
    by_cases h3 : whoE fs = 0
    case neg =>
      have HVB := Lib.hid (askV_bad s (whoE fs) (by rw [HL.out]; unfold lnE; rw [if_neg (fun h => h H1.out), if_neg (fun h => h H2.out), HFS.out, if_pos h3]) h3)
      have tz : ((whoE fs : Int) != 0) = true := by rw [bne_iff_ne]; omega
      obtain ⟨⟨d0, d1, d2, d3⟩, ⟨g0, g1, g2, g3⟩⟩ := four_of HP4.out.res
      clear h3 q3
      go_wp2_with fail
      refine ret_cell3 (A := ⟨w.heap.size, 0, none⟩) rfl (load_req _ _ _ _ _ _ _ (four_set HP4.out.res _ _ _ _)) rfl rfl rfl rfl ?_
      exact ⟨by rw [← HV.out, HVB.out]; rfl, four_below HP4.out.bel _ (Nat.le_refl _) _ _ _ _⟩
    have H3 := Lib.hid h3
    rw [h3]
    clear h3
    go_wp2_with fail
    rw [rounds_succ]
    go_wp2_with fail
    have HF4 : Hid (HoldsF w4 fv fs) := Lib.hid (HoldsF.of_own (own_grown (own_keep HFO.out ((Below.refl _ _).alloc (Nat.le_refl _) _)) HG4.out hRb.out))
    refine (ask_what R _ _ fv _ _ _ _ fs (HR4.out.alloc _) (HF4.out.below ((Below.refl _ _).alloc (Nat.le_refl _) _)) (by have := HGL.out.1; omega) (by have := HGL.out.2; omega) (HP4.out.alloc _).anc).mono ?_
    rintro e w5 ⟨rfl, ⟨a5, b5, hr5, ha5⟩, hg5⟩
    have HP5 := Lib.hid ((HP4.out.alloc _).keep hg5)
    have HR5 := Lib.hid hr5
    have HA5 := Lib.hid ha5
    clear hr5 hg5 q3 ha5
    by_cases h4 : whatE fs = 0
    case neg =>
      have HVB := Lib.hid (askV_bad s (whatE fs) (by rw [HL.out]; unfold lnE; rw [if_neg (fun h => h H1.out), if_neg (fun h => h H2.out), HFS.out, if_neg (fun h => h H3.out)]) h4)
      have tz : ((whatE fs : Int) != 0) = true := by rw [bne_iff_ne]; omega
      obtain ⟨⟨d0, d1, d2, d3⟩, ⟨g0, g1, g2, g3⟩⟩ := four_of HP5.out.res
      clear h4
      go_wp2_with fail
      refine ret_cell3 (A := ⟨w.heap.size, 0, none⟩) rfl (load_req _ _ _ _ _ _ _ (four_set HP5.out.res _ _ _ _)) rfl rfl rfl rfl ?_
      exact ⟨by rw [← HV.out, HVB.out]; rfl, four_below HP5.out.bel _ (Nat.le_refl _) _ _ _ _⟩
    obtain ⟨rfl, rfl⟩ := HA5.out h4
    have HVG := Lib.hid (askV_good s ls n HHd.out (by unfold lnE; rw [if_neg (fun h => h H1.out), if_neg (fun h => h H2.out), HFS.out, if_neg (fun h => h H3.out)]; exact h4))
    rw [h4]
    obtain ⟨-, -, r2, r3, r4, r5⟩ := HR5.out.cells
    obtain ⟨⟨d0, d1, d2, d3⟩, ⟨g0, g1, g2, g3⟩⟩ := four_of HP5.out.res
    clear h4 HA5
    go_wp2_with fail
    rw [rounds_succ]
    go_wp2_with fail
    refine ret_cell3 (A := ⟨w.heap.size, 0, none⟩) rfl (load_req _ _ _ _ _ _ _ (four_set HP5.out.res _ _ _ _)) rfl rfl rfl rfl ?_
    exact ⟨by rw [← HV.out, HVG.out, HFS.out]; rfl, four_below HP5.out.bel _ (Nat.le_refl _) _ _ _ _⟩
  · have HVB := Lib.hid (askV_bad s e (by unfold askE; rw [HHd.out]; exact if_pos he) he)
    have tz : ((e : Int) != 0) = true := by rw [bne_iff_ne]; omega
    clear he
    go_enter Tryz.func125, Tryz.ntmps125
    go_wp2_with fail
    refine HH.out.mono ?_
    rintro e w1 ⟨v, rfl, -, hb1⟩
    have HB1 := Lib.hid hb1
    have HK := Lib.hid ((hb1.block w.heap.size (by simp)).trans (heap_alloc_new w _))
    obtain ⟨⟨d0, d1, d2, d3⟩, ⟨g0, g1, g2, g3⟩⟩ := four_of HK.out
    clear hb1
    go_wp2_with fail
    refine ret_cell3 (A := ⟨w.heap.size, 0, none⟩) rfl (load_req _ _ _ _ _ _ _ (four_set HK.out _ _ _ _)) rfl rfl rfl rfl ?_
    exact ⟨by rw [← HV.out, HVB.out]; rfl, four_below (bstep (below_agg4 w _ _ _ _ _) HB1.out) _ (Nat.le_refl _) _ _ _ _⟩
end Go.Proofs.YtbdmmgmcbecolaaGreatDoor
namespace Go.Proofs.YtbdmmgmcbecolaaGreatDoor
open Go.RowKit

set_option maxRecDepth 100000 in
set_option maxHeartbeats 2000000 in
theorem ref_first (w : World) (v : Value) (ws : List (List UInt8)) (hv : HoldsS w v ws) (hx : ∀ x ∈ ws, x.length ≤ 1000000) :
    Calls Tryz.prog 167 #[v] w fun e w' => e = .returned (.int .i64 (firstW ws : Nat)) ∧ w' = w := by
  obtain ⟨av, cv, rfl, hc, hh⟩ := hv
  obtain ⟨Z, hZ⟩ : ∃ Z, firstW ws = Z := ⟨_, rfl⟩
  rw [hZ]
  by_cases h3 : ws.length = 3
  · obtain ⟨B', o', rfl, hBl', hcell'⟩ := hh (by intro e; rw [e] at h3; simp at h3)
    have d0 := hcell' 0 (by omega)
    have d1 := hcell' 1 (by omega)
    have d2 := hcell' 2 (by omega)
    rw [Nat.add_zero] at d0
    obtain ⟨y0, y1, y2, rfl⟩ : ∃ y0 y1 y2, ws = [y0, y1, y2] := by
      match ws, h3 with
      | [y0, y1, y2], _ => exact ⟨y0, y1, y2, rfl⟩
    change w.cell? ⟨B', o', none⟩ = some (.string (bs y0)) at d0
    change w.cell? ⟨B', o' + 1, none⟩ = some (.string (bs y1)) at d1
    change w.cell? ⟨B', o' + 2, none⟩ = some (.string (bs y2)) at d2
    have hy1 : y1.length ≤ 1000000 := hx y1 (by simp)
    have HP := Lib.hid (fun w => ref_path (bs y1) w (by rw [bs_size]; omega))
    rw [bs_data] at HP
    have e0 := bs_lit y0 [71, 69, 84]
    have e2 := bs_lit y2 [72, 84, 84, 80, 47, 49, 46, 49]
    clear hcell' hh h3 hx
    by_cases q0 : y0 = [71, 69, 84]
    · rw [decide_eq_true q0] at e0
      by_cases q2 : y2 = [72, 84, 84, 80, 47, 49, 46, 49]
      · rw [decide_eq_true q2] at e2
        cases hp : pathB y1 with
        | false =>
          rw [hp] at HP
          have HFF : Hid (Z = 2) := Lib.hid (by rw [← hZ]; unfold firstW; simp [q0, q2, hp])
          clear hp q0 q2 hZ
          go_enter Tryz.func167, Tryz.ntmps167
          go_wp2_with fail
          refine (HP.out _).mono ?_
          rintro e w' ⟨rfl, rfl⟩
          go_wp2_with fail
          go_ret
          exact ⟨by rw [HFF.out]; rfl, rfl⟩
        | true =>
          rw [hp] at HP
          have HFF : Hid (Z = 0) := Lib.hid (by rw [← hZ]; unfold firstW; simp [q0, q2, hp])
          clear hp q0 q2 hZ
          go_enter Tryz.func167, Tryz.ntmps167
          go_wp2_with fail
          refine (HP.out _).mono ?_
          rintro e w' ⟨rfl, rfl⟩
          go_wp2_with fail
          go_ret
          exact ⟨by rw [HFF.out]; rfl, rfl⟩
      · rw [decide_eq_false q2] at e2
        have HFF : Hid (Z = 13) := Lib.hid (by rw [← hZ]; unfold firstW; simp [q0, q2])
        clear q0 q2 hZ
        go_enter Tryz.func167, Tryz.ntmps167
        go_wp2_with fail
        go_ret
        exact ⟨by rw [HFF.out]; rfl, rfl⟩
    · rw [decide_eq_false q0] at e0
      have HFF : Hid (Z = 14) := Lib.hid (by rw [← hZ]; unfold firstW; simp [q0])
      clear q0 hZ
      go_enter Tryz.func167, Tryz.ntmps167
      go_wp2_with fail
      go_ret
      exact ⟨by rw [HFF.out]; rfl, rfl⟩
  · have HFF : Hid (Z = 4) := Lib.hid (by rw [← hZ]; unfold firstW; rw [if_pos h3])
    have t3 : ((ws.length : Int) != 3) = true := by rw [bne_iff_ne]; omega
    clear hh h3 hx hZ
    go_enter Tryz.func167, Tryz.ntmps167
    go_wp2_with fail
    go_ret
    exact ⟨by rw [HFF.out]; rfl, rfl⟩
theorem info_rfield : (Tryz.prog.info? 139).map (fun i => (i.zero, i.size, i.bytes)) = some (some (.agg #[.string ByteArray.empty, .string ByteArray.empty]), 2, 32) := by kernel_rfl
theorem append_rfield {ops : Array Oper} {rest : List Oper} {o : Oper} {a : Act} {Q : Exit → Act → World → Prop} (w0 : World) (hgd : o.guard = none) (s x : Operand)
    (ho : o.op = .call { callee := .builtin .append, args := #[s, x], argTypes := #[77, 77] })
    (base : Nat) (v : Value) (fs : List (List UInt8 × List UInt8)) (hs : a.eval s = v) (hown : w0.ownsRow base 139 2 v fs.length (fcells fs))
    (p q : ByteArray) (f : List UInt8 × List UInt8) (hp : p = bs f.1) (hq : q = bs f.2) (H : Nat) (hH : w0.heap.size = H) (hx : a.eval x = .slice (some ⟨H, 0, none⟩) 1 1) (hn : fs.length < 2147483648) (hbase : base ≤ w0.heap.size)
    (h : ∀ v' w', w'.ownsRow base 139 2 v' (fs ++ [f]).length (fcells (fs ++ [f])) → w0.grownBy w' v.ownBlock → v' ≠ .slice none 0 0 → wpList Tryz.prog ops Q rest (a.put o.dst v') w') :
    wpList Tryz.prog ops Q (o :: rest) a (w0.alloc (.cells #[.string p, .string q] 139)) := by
  obtain ⟨i0, hi, hz0, hz1, hz2⟩ := info_parts info_rfield
  subst hp hq hH
  refine wpList_append_own _ hgd s x 77 ho base 139 i0 _ 2 32 Tryz.underlying77 hi hz0 hz1 hz2 rfl (by decide) v fs.length (fcells fs) hs (hown.alloc _) ⟨w0.heap.size, 0, none⟩ 1 1 [.string (bs f.1), .string (bs f.2)] hx rfl (cell_two_new w0 _ _ _) (by simp [Value.oneCell']) (by unfold maxLen; omega) (by omega) (by simp; omega) ?_
  intro v' w' h2 h3 h4
  refine h v' w' ?_ ?_ (fun e => by have := (h4.1 e).2; omega)
  · rw [List.length_append, fcells_append]; exact h2
  · exact ⟨h3.os, h3.tape, h3.output, Nat.le_trans (by simp) h3.size, fun k hk hne => (h3.block k (by simp; omega) hne).trans (heap_alloc_old w0 _ hk)⟩
def FieldsPost (ls : List (List UInt8)) (w : World) (e : Ending) (w' : World) : Prop :=
  ∃ v, e = .returned (.tuple #[v, .int .i64 (fldE ls : Nat)]) ∧ (∃ a c n, v = .slice a n c) ∧ (fldE ls = 0 → HoldsF w' v (fldL ls)) ∧ Below w.heap.size w w'
set_option maxRecDepth 100000 in
set_option maxHeartbeats 4000000 in
theorem ref_fields (w : World) (v : Value) (xs : List (List UInt8)) (hv : HoldsS w v xs) (hlen : xs.length ≤ 1000000) (hx : ∀ x ∈ xs, x.length ≤ 1000000) :
    Calls Tryz.prog 55 #[v] w (FieldsPost xs w) := by
  obtain ⟨a, c, rfl, hc, hh⟩ := hv
  have HC := Lib.hid hh
  have HX := Lib.hid hx
  clear hh hx
  go_enter Tryz.func55, Tryz.ntmps55
  go_wp2_with fail
  go_loopw [4, 5] (fun u i wr => ∃ k : Nat, k ≤ xs.length ∧ i = .int .i64 k ∧ wr.ownsRow w.heap.size 139 2 u (fldL (xs.take k)).length (fcells (fldL (xs.take k))) ∧ Below w.heap.size w wr ∧ Hid (∀ j (hj : j < xs.length), j < k → parseE xs[j] = 0)) (fun _ i _ => xs.length - (intOf i).toNat)
  case atStart => exact ⟨0, by omega, rfl, by rw [List.take_zero]; exact World.ownsRow_nil _ _ _ _, Below.refl _ _, Lib.hid (fun j hj h => absurd h (Nat.not_lt_zero _))⟩
  case round =>
    obtain ⟨k, hk, rfl, hown, hb, HK⟩ := hrel
    by_cases hlt : k < xs.length
    · obtain ⟨b, o, rfl, hbl, hcell⟩ := HC.out (fun e => by rw [e] at hlt; exact absurd hlt (Nat.not_lt_zero _))
      have c0 := (hb.cell (p := ⟨b, o + k, none⟩) hbl).trans (hcell k hlt)
      obtain ⟨S, hS⟩ : ∃ S, bs xs[k] = S := ⟨_, rfl⟩
      have hSd : S.data.toList = xs[k] := by rw [← hS, bs_data]
      have hSs : S.size ≤ 1000000 := by rw [← hS, bs_size]; exact HX.out _ (List.getElem_mem hlt)
      rw [hS] at c0
      have HN := Lib.hid (fun w => ref_fparse S w hSs)
      rw [hSd] at HN
      have hkl : (fldL (xs.take k)).length < 2147483648 := by unfold fldL; rw [List.length_map, List.length_take]; omega
      have tl : decide ((k : Int) < (xs.length : Int)) = true := decide_eq_true (by omega)
      clear hcell hS hSd
      by_cases hz : parseE xs[k] = 0
      · rw [hz] at HN
        have HK2 : Hid (∀ j (hj : j < xs.length), j < k + 1 → parseE xs[j] = 0) := Lib.hid (fun j hj h => by
          by_cases e : j = k
          · subst e; exact hz
          · exact HK.out j hj (by omega))
        have hstep : Hid (fldL (xs.take (k + 1)) = fldL (xs.take k) ++ [(parseN xs[k], parseV xs[k])]) := Lib.hid (fldL_snoc xs k hlt)
        clear hz HK
        go_wp2_with fail
        refine (HN.out _).mono ?_
        rintro e w1 ⟨rfl, hb1⟩
        have hown1 : w1.ownsRow w.heap.size 139 2 _ (fldL (xs.take k)).length (fcells (fldL (xs.take k))) := own_keep hown hb1
        have hb2 := bstep hb hb1
        clear hown c0
        have hown2 := own_keep hown1 ((Below.refl w1.heap.size w1).alloc (Nat.le_refl _) (.cells #[.string (bs (parseN xs[k])), .string (bs (parseV xs[k]))] 139))
        have hb3 := bstep hb2 ((Below.refl w1.heap.size w1).alloc (Nat.le_refl _) (.cells #[.string (bs (parseN xs[k])), .string (bs (parseV xs[k]))] 139))
        obtain ⟨j0, j1⟩ := box2 w1 (.string (bs (parseN xs[k]))) (.string (bs (parseV xs[k]))) 139
        go_wp2_with (at_builtin; go_loud (refine append_rfield (w1.alloc (.cells #[.string (bs (parseN xs[k])), .string (bs (parseV xs[k]))] 139)) (by rfl) _ _ (by rfl) w.heap.size _ (fldL (xs.take k)) (by rfl) hown2 (bs (parseN xs[k])) (bs (parseV xs[k])) (parseN xs[k], parseV xs[k]) rfl rfl (w1.heap.size + 1) (by simp) (by rfl) hkl hb3.size ?_); intro v' w2 hown3 hg3 hne3)
        go_roundw
        case rel => exact ⟨k + 1, by omega, by go_num, by rw [hstep.out]; exact hown3, below_ownF hb3 hg3 hown2 (Nat.le_refl _) hb3.size, HK2⟩
        case measure => simp [intOf]; omega
      · have HR : Hid (fldE xs = parseE xs[k]) := Lib.hid (fldE_at xs k hlt HK.out hz)
        have tz : ((parseE xs[k] : Int) != 0) = true := by rw [bne_iff_ne]; omega
        have hz2 : Hid (parseE xs[k] ≠ 0) := Lib.hid hz
        clear hz HK
        go_wp2_with fail
        refine (HN.out _).mono ?_
        rintro e w1 ⟨rfl, hb1⟩
        have hb2 := bstep hb hb1
        clear c0 hown
        go_wp2_with fail
        go_ret2
        exact ⟨_, by rw [HR.out]; rfl, ⟨_, _, _, rfl⟩, fun h => absurd (HR.out ▸ h) hz2.out, hb2.alloc (by have := hb2.size; omega) _⟩
    · have hall : xs.take k = xs := List.take_of_length_le (by omega)
      have HR : Hid (fldE xs = 0) := Lib.hid (fldE_all xs (fun j hj => HK.out j hj (by omega)))
      rw [hall] at hown
      obtain ⟨av, cv, rfl⟩ := slice_of_own hown
      have tl : decide ((k : Int) < (xs.length : Int)) = false := decide_eq_false (by omega)
      clear hall HK
      go_wp2_with fail
      go_ret2
      exact ⟨_, by rw [HR.out]; rfl, ⟨_, _, _, rfl⟩, fun _ => HoldsF.of_own hown, hb⟩
end Go.Proofs.YtbdmmgmcbecolaaGreatDoor
namespace Go.Proofs.YtbdmmgmcbecolaaGreatDoor
open Go.RowKit

theorem res_block {w w1 : World} {x y z u : Value} {t : TypeId} (hb : Below (w.alloc (.cells #[x, y, z, u] t)).heap.size (w.alloc (.cells #[x, y, z, u] t)) w1) : w1.heap[w.heap.size]? = some (.cells #[x, y, z, u] t (0, 0)) :=
  (hb.block _ (by simp)).trans (heap_alloc_new w _)
theorem get_rk (v : Value) (fs : List (List UInt8 × List UInt8)) (n : ByteArray) (k : List UInt8) (hk : n.data.toList = k) (w : World) (hv : HoldsF w v fs) (hlen : fs.length ≤ 1000000) :
    Calls Tryz.prog 30 #[v, .string n] w fun e w' => e = .returned (.tuple #[.string (bs (getS fs k)), .int .i64 (getE fs k)]) ∧ w' = w := by
  subst hk; exact ref_get v fs n w hv hlen
/-- the tail of a slice of texts -/
theorem HoldsS.tail {w : World} {b o c : Nat} {x : List UInt8} {xs : List (List UInt8)} (h : HoldsS w (.slice (some ⟨b, o, none⟩) (x :: xs).length c) (x :: xs)) (hc : 1 < c) : HoldsS w (.slice (some ⟨b, o + 1, none⟩) xs.length (c - 1)) xs := by
  obtain ⟨a, c', hv, hcc, hh⟩ := h
  injection hv with h1 h2 h3
  subst h1 h3
  obtain ⟨b', o', hbo, hbl, hcell⟩ := hh (by simp)
  injection hbo with hbo
  injection hbo with h4 h5
  subst h4 h5
  refine ⟨_, _, rfl, by simp at hcc; omega, fun _ => ⟨b, o + 1, rfl, hbl, fun j hj => ?_⟩⟩
  have := hcell (j + 1) (by simp; omega)
  rw [show o + 1 + j = o + (j + 1) by omega]; exact this
theorem lnE_split (ls : List (List UInt8)) : lnE ls = if firstL ls ≠ 0 then firstL ls else if fldE ls.tail ≠ 0 then fldE ls.tail else if getE (fldL ls.tail) hostK ≠ 0 then getE (fldL ls.tail) hostK else if hostB (getS (fldL ls.tail) hostK) = false then 2 else if getE (fldL ls.tail) rangeK ≠ 0 then getE (fldL ls.tail) rangeK else askedE (getS (fldL ls.tail) rangeK) := by
  unfold lnE whoE whatE
  by_cases h1 : firstL ls ≠ 0
  · rw [if_pos h1, if_pos h1]
  · rw [if_neg h1, if_neg h1]
    by_cases h2 : fldE ls.tail ≠ 0
    · rw [if_pos h2, if_pos h2]
    · rw [if_neg h2, if_neg h2]
      by_cases h3 : getE (fldL ls.tail) hostK ≠ 0
      · rw [if_pos h3, if_pos h3, if_pos h3]
      · rw [if_neg h3, if_neg h3]
        by_cases h4 : hostB (getS (fldL ls.tail) hostK) = false
        · rw [if_pos h4, if_pos h4, if_pos (by decide)]
        · rw [if_neg h4, if_neg h4, if_neg (by decide)]
set_option maxRecDepth 100000 in
set_option maxHeartbeats 3000000 in
theorem ref_aparse (s : ByteArray) (w : World) (hs : s.size ≤ 1000000) :
    Calls Tryz.prog 134 #[.string s] w fun e w' => e = .returned (askV s) ∧ Below w.heap.size w w' := by
  have HH := Lib.hid (ref_head s (w.alloc (.cells #[.string ⟨#[]⟩, .string ⟨#[]⟩, .int .i64 0, .int .i64 0] 102)) (by omega))
  obtain ⟨V, hV⟩ : ∃ V, askV s = V := ⟨_, rfl⟩
  rw [hV]
  have HV := Lib.hid hV
  have hbd := headOf_bound s
  unfold HeadPost at HH
  obtain ⟨⟨ls, n, e⟩, hh⟩ : ∃ T, headOf s = T := ⟨_, rfl⟩
  rw [hh] at HH hbd
  have HHd := Lib.hid hh
  change (∀ x ∈ ls, x.length ≤ 256) ∧ ls.length ≤ 17 at hbd
  change Hid (Calls _ _ _ _ fun r w' => ∃ v, r = .returned (.tuple #[v, .int .i64 n, .int .i64 (e : Nat)]) ∧ w'.ownsRow _ 9 1 v ls.length (strs ls) ∧ _) at HH
  have HBD := Lib.hid hbd
  clear hV hbd hh
  by_cases he : e ≠ 0
  · have HVB := Lib.hid (askV_bad s e (by unfold askE; rw [HHd.out]; exact if_pos he) he)
    have tz : ((e : Int) != 0) = true := by rw [bne_iff_ne]; omega
    clear he
    go_enter Tryz.func134, Tryz.ntmps134
    go_wp2_with fail
    refine HH.out.mono ?_
    rintro e w1 ⟨v, rfl, -, hb1⟩
    have HB1 := Lib.hid hb1
    obtain ⟨⟨d0, d1, d2, d3⟩, ⟨g0, g1, g2, g3⟩⟩ := four_of (res_block hb1)
    clear hb1
    go_wp2_with fail
    refine ret_cell3 (A := ⟨w.heap.size, 0, none⟩) rfl (load_rreq _ _ _ _ _ _ _ (four_set (res_block HB1.out) _ _ _ _)) rfl rfl rfl rfl ?_
    exact ⟨by rw [← HV.out, HVB.out]; rfl, four_below (bstep (below_agg4 w _ _ _ _ _) HB1.out) _ (Nat.le_refl _) _ _ _ _⟩
  have he0 : e = 0 := by omega
  subst he0
  have HL : Hid (askE s = lnE ls) := Lib.hid (by unfold askE; rw [HHd.out]; rfl)
  cases ls with
  | nil =>
    have HVB := Lib.hid (askV_bad s 4 (by rw [HL.out]; rfl) (by decide))
    clear he
    go_enter Tryz.func134, Tryz.ntmps134
    go_wp2_with fail
    refine HH.out.mono ?_
    rintro e w1 ⟨v, rfl, hown, hb1⟩
    obtain ⟨av, cv, rfl⟩ := slice_of_own hown
    have HB1 := Lib.hid hb1
    obtain ⟨⟨d0, d1, d2, d3⟩, ⟨g0, g1, g2, g3⟩⟩ := four_of (res_block hb1)
    clear hb1 hown
    go_wp2_with fail
    refine ret_cell3 (A := ⟨w.heap.size, 0, none⟩) rfl (load_rreq _ _ _ _ _ _ _ (four_set (res_block HB1.out) _ _ _ _)) rfl rfl rfl rfl ?_
    exact ⟨by rw [← HV.out, HVB.out]; rfl, four_below (bstep (below_agg4 w _ _ _ _ _) HB1.out) _ (Nat.le_refl _) _ _ _ _⟩
  | cons x xs =>
    have hxl : x.length ≤ 256 := HBD.out.1 x (List.mem_cons_self ..)
    have HF : Hid (firstL (x :: xs) = firstW (words x) ∧ wordL (x :: xs) = (words x).getD 1 []) := Lib.hid ⟨by unfold firstL; rw [if_neg (by simp)]; rfl, rfl⟩
    have HW := Lib.hid (fun w => ref_words (bs x) w (by rw [bs_size]; omega))
    rw [bs_data] at HW
    have hwl := words_len x
    obtain ⟨ws, hws⟩ : ∃ ws, words x = ws := ⟨_, rfl⟩
    rw [hws] at HF HW hwl
    have HWL := Lib.hid hwl
    have HXS : Hid (∀ y ∈ xs, y.length ≤ 256) := Lib.hid (fun y hy => HBD.out.1 y (List.mem_cons_of_mem _ hy))
    have hxn : xs.length ≤ 16 := by have := HBD.out.2; simp at this; omega
    clear hwl he hws
    go_enter Tryz.func134, Tryz.ntmps134
    go_wp2_with fail
    refine HH.out.mono ?_
    rintro e w1 ⟨v, rfl, hown, hb1⟩
    have hS := HoldsS.of_own hown
    obtain ⟨av, cv, hv, hcv, hhv⟩ := hS
    subst hv
    obtain ⟨B, o, rfl, hBl, hcell⟩ := hhv (by simp)
    have c0 := hcell 0 (by simp)
    rw [Nat.add_zero] at c0
    change w1.cell? ⟨B, o, none⟩ = some (.string (bs x)) at c0
    have HS : Hid (HoldsS w1 (.slice (some ⟨B, o, none⟩) (x :: xs).length cv) (x :: xs)) := Lib.hid (HoldsS.of_own hown)
    have HB1 := Lib.hid hb1
    have hll : ((x :: xs).length : Nat) = xs.length + 1 := rfl
    rw [hll] at hcv ⊢
    clear hb1 hown hcell hhv hll
    go_wp2_with fail
    refine (HW.out _).mono ?_
    rintro e w2 ⟨v2, rfl, hown2, hb2⟩
    obtain ⟨a2, cv2, rfl⟩ := slice_of_own hown2
    have HS2 := Lib.hid (HoldsS.of_own hown2)
    have HST := Lib.hid (HS.out.below hb2)
    have HB2 := Lib.hid (bstep HB1.out hb2)
    clear hb2 hown2 c0
    go_wp2_with fail
    refine (ref_first _ _ ws HS2.out (fun y hy => by have := HWL.out y hy; omega)).mono ?_
    rintro e w2 ⟨rfl, rfl⟩
    by_cases h1 : firstW ws = 0
    case neg =>
      have HVB := Lib.hid (askV_bad s (firstW ws) (by rw [HL.out, lnE_split, HF.out.1, if_pos h1]) h1)
      have tz : ((firstW ws : Int) != 0) = true := by rw [bne_iff_ne]; omega
      obtain ⟨⟨d0, d1, d2, d3⟩, ⟨g0, g1, g2, g3⟩⟩ := four_of (res_block HB2.out)
      clear h1
      go_wp2_with fail
      refine ret_cell3 (A := ⟨w.heap.size, 0, none⟩) rfl (load_rreq _ _ _ _ _ _ _ (four_set (res_block HB2.out) _ _ _ _)) rfl rfl rfl rfl ?_
      exact ⟨by rw [← HV.out, HVB.out]; rfl, four_below (bstep (below_agg4 w _ _ _ _ _) HB2.out) _ (Nat.le_refl _) _ _ _ _⟩
    have H1 : Hid (firstL (x :: xs) = 0) := Lib.hid (HF.out.1.trans h1)
    have hw3 : Hid (ws.length = 3) := Lib.hid (by
      unfold firstW at h1
      split at h1
      · exact absurd h1 (by decide)
      · rename_i hn; exact Classical.not_not.1 hn)
    rw [h1]
    clear h1
    by_cases hx0 : xs = []
    · subst hx0
      have HVB := Lib.hid (askV_bad s 6 (by rw [HL.out, lnE_split, if_neg (fun h => h H1.out)]; rfl) (by decide))
      have HFE : Hid (∀ a c w, Calls Tryz.prog 55 #[.slice a 0 c] w (FieldsPost [] w)) := Lib.hid (fun a c w => ref_fields w (.slice a 0 c) [] (HoldsS.empty w a c) (by decide) (fun x h => by simp at h))
      by_cases hc : cv = 1
      all_goals
        go_wp2_with fail
        refine (HFE.out _ _ _).mono ?_
        rintro e w3 ⟨v3, rfl, ⟨a3, n3, c3, rfl⟩, hf3, hb3⟩
        have HF3 := Lib.hid (hf3 rfl)
        have HB3 := Lib.hid (bstep HB2.out hb3)
        clear hf3 hb3
        go_wp2_with fail
        refine (get_rk _ _ ⟨#[104, 111, 115, 116]⟩ hostK rfl _ HF3.out (by decide)).mono ?_
        rintro e w3 ⟨rfl, rfl⟩
        obtain ⟨⟨d0, d1, d2, d3⟩, ⟨g0, g1, g2, g3⟩⟩ := four_of (res_block HB3.out)
        rw [show getE (fldL []) hostK = 6 from rfl]
        go_wp2_with fail
        refine ret_cell3 (A := ⟨w.heap.size, 0, none⟩) rfl (load_rreq _ _ _ _ _ _ _ (four_set (res_block HB3.out) _ _ _ _)) rfl rfl rfl rfl ?_
        exact ⟨by rw [← HV.out, HVB.out]; rfl, four_below (bstep (below_agg4 w _ _ _ _ _) HB3.out) _ (Nat.le_refl _) _ _ _ _⟩
    · have hyp : 0 < xs.length := List.length_pos_iff.2 hx0
      have hc : 1 < cv := by omega
      have HT : Hid (HoldsS w2 (.slice (some ⟨B, o + 1, none⟩) xs.length (cv - 1)) xs) := Lib.hid (HST.out.tail hc)
      have HFE := Lib.hid (ref_fields w2 _ xs HT.out (by omega) (fun y hy => by have := HXS.out y hy; omega))
      obtain ⟨fs, hfs⟩ : ∃ fs, fldL xs = fs := ⟨_, rfl⟩
      have hfl : fs.length ≤ 17 := by rw [← hfs]; unfold fldL; rw [List.length_map]; omega
      have hgl : (getS fs rangeK).length ≤ 256 := by rw [← hfs]; exact getS_len xs rangeK HXS.out
      have hgh : (getS fs hostK).length ≤ 256 := by rw [← hfs]; exact getS_len xs hostK HXS.out
      have HLN : Hid (lnE (x :: xs) = if fldE xs ≠ 0 then fldE xs else if getE fs hostK ≠ 0 then getE fs hostK else if hostB (getS fs hostK) = false then 2 else if getE fs rangeK ≠ 0 then getE fs rangeK else askedE (getS fs rangeK)) := Lib.hid (by rw [lnE_split, if_neg (fun h => h H1.out), List.tail_cons, hfs])
      have HFS := Lib.hid hfs
      clear hfs hx0
      go_wp2_with fail
      refine HFE.out.mono ?_
      rintro e w3 ⟨v3, rfl, ⟨a3, n3, c3, rfl⟩, hf3, hb3⟩
      have HF3' := Lib.hid hf3
      have HB3 := Lib.hid (bstep HB2.out hb3)
      have HS3 := Lib.hid (HS2.out.below hb3)
      clear hf3 hb3
      by_cases h2 : fldE xs = 0
      case neg =>
        have HVB := Lib.hid (askV_bad s (fldE xs) (by rw [HL.out, HLN.out, if_pos h2]) h2)
        have tz : ((fldE xs : Int) != 0) = true := by rw [bne_iff_ne]; omega
        obtain ⟨⟨d0, d1, d2, d3⟩, ⟨g0, g1, g2, g3⟩⟩ := four_of (res_block HB3.out)
        clear h2
        go_wp2_with fail
        refine ret_cell3 (A := ⟨w.heap.size, 0, none⟩) rfl (load_rreq _ _ _ _ _ _ _ (four_set (res_block HB3.out) _ _ _ _)) rfl rfl rfl rfl ?_
        exact ⟨by rw [← HV.out, HVB.out]; rfl, four_below (bstep (below_agg4 w _ _ _ _ _) HB3.out) _ (Nat.le_refl _) _ _ _ _⟩
      have HF3 : Hid (HoldsF w3 (.slice a3 c3 n3) fs) := Lib.hid (by rw [← HFS.out]; exact HF3'.out h2)
      have H2 := Lib.hid h2
      rw [h2]
      clear h2 HF3'
      go_wp2_with fail
      refine (get_rk _ fs ⟨#[104, 111, 115, 116]⟩ hostK rfl _ HF3.out (by omega)).mono ?_
      rintro e w3 ⟨rfl, rfl⟩
      by_cases h3 : getE fs hostK = 0
      case neg =>
        have HVB := Lib.hid (askV_bad s (getE fs hostK) (by rw [HL.out, HLN.out, if_neg (fun h => h H2.out), if_pos h3]) h3)
        have tz : ((getE fs hostK : Int) != 0) = true := by rw [bne_iff_ne]; omega
        obtain ⟨⟨d0, d1, d2, d3⟩, ⟨g0, g1, g2, g3⟩⟩ := four_of (res_block HB3.out)
        clear h3
        go_wp2_with fail
        refine ret_cell3 (A := ⟨w.heap.size, 0, none⟩) rfl (load_rreq _ _ _ _ _ _ _ (four_set (res_block HB3.out) _ _ _ _)) rfl rfl rfl rfl ?_
        exact ⟨by rw [← HV.out, HVB.out]; rfl, four_below (bstep (below_agg4 w _ _ _ _ _) HB3.out) _ (Nat.le_refl _) _ _ _ _⟩
      have H3 := Lib.hid h3
      rw [h3]
      clear h3
      go_wp2_with fail
      refine (ref_host _ _ (by rw [bs_size]; omega)).mono ?_
      rintro e w3 ⟨rfl, rfl⟩
      rw [bs_data]
      cases h4 : hostB (getS fs hostK) with
      | false =>
        have HVB := Lib.hid (askV_bad s 2 (by rw [HL.out, HLN.out, if_neg (fun h => h H2.out), if_neg (fun h => h H3.out), if_pos h4]) (by decide))
        obtain ⟨⟨d0, d1, d2, d3⟩, ⟨g0, g1, g2, g3⟩⟩ := four_of (res_block HB3.out)
        clear h4
        go_wp2_with fail
        refine ret_cell3 (A := ⟨w.heap.size, 0, none⟩) rfl (load_rreq _ _ _ _ _ _ _ (four_set (res_block HB3.out) _ _ _ _)) rfl rfl rfl rfl ?_
        exact ⟨by rw [← HV.out, HVB.out]; rfl, four_below (bstep (below_agg4 w _ _ _ _ _) HB3.out) _ (Nat.le_refl _) _ _ _ _⟩
      | true =>
        have H4 := Lib.hid h4
        clear h4
        go_wp2_with fail
        refine (get_rk _ fs ⟨#[114, 97, 110, 103, 101]⟩ rangeK rfl _ HF3.out (by omega)).mono ?_
        rintro e w3 ⟨rfl, rfl⟩
        by_cases h5 : getE fs rangeK = 0
        case neg =>
          have HVB := Lib.hid (askV_bad s (getE fs rangeK) (by rw [HL.out, HLN.out, if_neg (fun h => h H2.out), if_neg (fun h => h H3.out), if_neg (by rw [H4.out]; decide), if_pos h5]) h5)
          have tz : ((getE fs rangeK : Int) != 0) = true := by rw [bne_iff_ne]; omega
          obtain ⟨⟨d0, d1, d2, d3⟩, ⟨g0, g1, g2, g3⟩⟩ := four_of (res_block HB3.out)
          clear h5
          go_wp2_with fail
          refine ret_cell3 (A := ⟨w.heap.size, 0, none⟩) rfl (load_rreq _ _ _ _ _ _ _ (four_set (res_block HB3.out) _ _ _ _)) rfl rfl rfl rfl ?_
          exact ⟨by rw [← HV.out, HVB.out]; rfl, four_below (bstep (below_agg4 w _ _ _ _ _) HB3.out) _ (Nat.le_refl _) _ _ _ _⟩
        have H5 := Lib.hid h5
        rw [h5]
        clear h5
        go_wp2_with fail
        refine (ref_asked (bs (getS fs rangeK)) _ (by rw [bs_size]; omega)).mono ?_
        rintro e w4 ⟨rfl, hb4⟩
        rw [bs_data]
        have HB4 := Lib.hid (bstep HB3.out hb4)
        have HS4 := Lib.hid (HS3.out.below hb4)
        obtain ⟨⟨d0, d1, d2, d3⟩, ⟨g0, g1, g2, g3⟩⟩ := four_of (res_block HB4.out)
        clear hb4
        have HLL : Hid (lnE (x :: xs) = askedE (getS fs rangeK)) := Lib.hid (by rw [HLN.out, if_neg (fun h => h H2.out), if_neg (fun h => h H3.out), if_neg (by rw [H4.out]; decide), if_neg (fun h => h H5.out)])
        by_cases h6 : askedE (getS fs rangeK) = 0
        case neg =>
          have HVB := Lib.hid (askV_bad s (askedE (getS fs rangeK)) (by rw [HL.out, HLL.out]) h6)
          have tz : ((askedE (getS fs rangeK) : Int) != 0) = true := by rw [bne_iff_ne]; omega
          have HB5 := Lib.hid (bstep HB4.out (below_agg2 w4 (.int .i64 (askedA (getS fs rangeK))) (.int .i64 (askedB (getS fs rangeK))) 23))
          obtain ⟨⟨d0, d1, d2, d3⟩, ⟨g0, g1, g2, g3⟩⟩ := four_of (res_block HB5.out)
          clear h6
          go_wp2_with fail
          refine ret_cell3 (A := ⟨w.heap.size, 0, none⟩) rfl (load_rreq _ _ _ _ _ _ _ (four_set (res_block HB5.out) _ _ _ _)) rfl rfl rfl rfl ?_
          exact ⟨by rw [← HV.out, HVB.out]; rfl, four_below (bstep (below_agg4 w _ _ _ _ _) HB5.out) _ (Nat.le_refl _) _ _ _ _⟩
        have HVG := Lib.hid (askV_good s (x :: xs) n HHd.out (HLL.out.trans h6))
        rw [h6]
        clear h6
        obtain ⟨a6, c6, hv6, hc6, hh6⟩ := HS4.out
        injection hv6 with i1 i2 i3
        subst i1 i3
        obtain ⟨B6, o6, i4, hB6, hcell6⟩ := hh6 (by intro e; have := hw3.out; rw [e] at this; simp at this)
        subst i4
        have j1 := hcell6 1 (by rw [hw3.out]; decide)
        have hl3 : ws.length = 3 := hw3.out
        obtain ⟨Y, hY⟩ : ∃ Y, ws[1]'(by omega) = Y := ⟨_, rfl⟩
        rw [hY] at j1
        have HY : Hid (wordL (x :: xs) = Y) := Lib.hid (by rw [HF.out.2, List.getD_eq_getElem?_getD, List.getElem?_eq_getElem (by omega), hY]; rfl)
        clear hcell6 hh6 hY
        go_wp2_with fail
        have HB5 := Lib.hid (bstep HB4.out (below_agg2 w4 (.int .i64 (askedA (getS fs rangeK))) (.int .i64 (askedB (getS fs rangeK))) 23))
        obtain ⟨n0, n1⟩ := box2 w4 (.int .i64 (askedA (getS fs rangeK))) (.int .i64 (askedB (getS fs rangeK))) 23
        have j5 := ((below_agg2 w4 (.int .i64 (askedA (getS fs rangeK))) (.int .i64 (askedB (getS fs rangeK))) 23).cell (p := ⟨B6, o6 + 1, none⟩) hB6).trans j1
        generalize w4.alloc (.cells #[.int .i64 (askedA (getS fs rangeK)), .int .i64 (askedB (getS fs rangeK))] 23) = w5 at HB5 n0 n1 j5 ⊢
        obtain ⟨⟨d0, d1, d2, d3⟩, ⟨g0, g1, g2, g3⟩⟩ := four_of (res_block HB5.out)
        have hrb0 := res_block HB5.out
        have HRB : Hid (w5.drew.heap[w.heap.size]? = some (.cells #[.string ⟨#[]⟩, .string ⟨#[]⟩, .int .i64 0, .int .i64 0] 102 (0, 0))) := Lib.hid (by exact hrb0)
        clear j1 hrb0
        go_region
        all_goals go_wp2_with fail
        all_goals
          refine ret_cell3 (A := ⟨w.heap.size, 0, none⟩) rfl (load_rreq _ _ _ _ _ _ _ (four_set (w := w5.drew) HRB.out _ _ _ _)) rfl rfl rfl rfl ?_
          exact ⟨by rw [← HV.out, HVG.out, HY.out, List.tail_cons, HFS.out]; rfl, four_below ((bstep (below_agg4 w _ _ _ _ _) HB5.out).drew) _ (Nat.le_refl _) _ _ _ _⟩
end Go.Proofs.YtbdmmgmcbecolaaGreatDoor
namespace Go.Proofs.YtbdmmgmcbecolaaGreatDoor
open Go.RowKit

def Four (w : World) (b : Nat) (x y z u : Value) : Prop := b < w.heap.size ∧ w.cell? ⟨b, 0, none⟩ = some x ∧ w.cell? ⟨b, 1, none⟩ = some y ∧ w.cell? ⟨b, 2, none⟩ = some z ∧ w.cell? ⟨b, 3, none⟩ = some u
theorem Four.below {w w' : World} {b : Nat} {x y z u : Value} (h : Four w b x y z u) (hb : Below w.heap.size w w') : Four w' b x y z u :=
  ⟨Nat.lt_of_lt_of_le h.1 hb.size, (hb.cell (p := ⟨b, 0, none⟩) h.1).trans h.2.1, (hb.cell (p := ⟨b, 1, none⟩) h.1).trans h.2.2.1, (hb.cell (p := ⟨b, 2, none⟩) h.1).trans h.2.2.2.1, (hb.cell (p := ⟨b, 3, none⟩) h.1).trans h.2.2.2.2⟩
theorem Four.alloc {w : World} {b : Nat} {x y z u : Value} (h : Four w b x y z u) (o : Obj) : Four (w.alloc o) b x y z u := h.below ((Below.refl _ _).alloc (Nat.le_refl _) o)
theorem Four.new (w : World) (x y z u : Value) (t : TypeId) : Four (w.alloc (.cells #[x, y, z, u] t)) w.heap.size x y z u := ⟨by simp, box4 w x y z u t⟩
end Go.Proofs.YtbdmmgmcbecolaaGreatDoor
namespace Go.Proofs.YtbdmmgmcbecolaaGreatDoor
open Go.RowKit

/-- the end of a head lies behind its beginning, within the text -/
theorem take_next_bd (s : ByteArray) (a : Int) (h : takeErr s a = 0) (h0 : 0 ≤ a) : a + 2 ≤ takeNext s a ∧ takeNext s a ≤ (s.size : Int) := by
  have hin : ¬ (a < 0 ∨ (s.size : Int) < a) := by
    intro hh
    rw [takeErr_out s a hh] at h
    exact absurd h (by decide)
  obtain ⟨i, rfl⟩ : ∃ i : Nat, a = (i : Int) := ⟨a.toNat, by omega⟩
  have hi : i ≤ s.size := by omega
  have hz := h
  rw [takeErr_in s i hi] at hz
  unfold takeNext
  rw [if_pos h, Int.toNat_natCast]
  have := scan_zero (s.data.toList.drop i) 0 hz
  unfold scanAt
  have hl : (s.data.toList.drop i).length = s.size - i := by rw [List.length_drop, size_len]
  omega
theorem headR_bd (s : ByteArray) : ∀ (f : Nat) (a : Int) (xs : List (List UInt8)), 0 ≤ a → (headR f s a xs).2.2 = 0 → 0 < f → a + 2 ≤ (headR f s a xs).2.1 ∧ (headR f s a xs).2.1 ≤ (s.size : Int) := by
  intro f
  induction f with
  | zero => intro a xs _ _ hf; omega
  | succ f ih =>
    intro a xs h0 he _
    by_cases h : takeErr s a = 0
    · obtain ⟨b1, b2⟩ := take_next_bd s a h h0
      by_cases h2 : (takeLine s a).toList.isEmpty = true
      · rw [headR_end f s a xs h h2]
        exact ⟨b1, b2⟩
      · rw [Bool.not_eq_true] at h2
        by_cases h3 : xs.length = 17
        · rw [headR_many f s a xs h h2 h3] at he
          exact absurd he (by decide)
        · rw [headR_more f s a xs h h2 h3] at he ⊢
          rcases f with _ | f
          · simp [headR] at he
          · obtain ⟨c1, c2⟩ := ih (takeNext s a) _ (by omega) he (by omega)
            exact ⟨by omega, c2⟩
    · rw [headR_err f s a xs h] at he
      exact absurd he h
theorem headOf_bd (s : ByteArray) (h : (headOf s).2.2 = 0) : 0 < (headOf s).2.1 ∧ (headOf s).2.1 ≤ (s.size : Int) := by
  have := headR_bd s 18 0 [] (by omega) h (by omega)
  unfold headOf
  exact ⟨by omega, this.2⟩

theorem dig_no (n : Nat) : ∀ c ∈ Go.Lib.decDigits n, gapB c = false ∧ c ≠ 45 ∧ c ≠ 47 := by
  intro c hc
  have := digN_bd _ (List.all_eq_true.1 (decDigits_all n) c hc)
  have h9 : c ≠ 9 := by rintro rfl; exact absurd this (by decide)
  have h32 : c ≠ 32 := by rintro rfl; exact absurd this (by decide)
  refine ⟨?_, by rintro rfl; exact absurd this (by decide), by rintro rfl; exact absurd this (by decide)⟩
  rw [← gapL_contains]
  unfold gapL
  simp [h9, h32]
theorem dig_last (n : Nat) (x : List UInt8) : headGap (x ++ Go.Lib.decDigits n).reverse = false := by
  rw [List.reverse_append]
  cases e : (Go.Lib.decDigits n).reverse with
  | nil => exact absurd (List.reverse_eq_nil_iff.1 e) (decDigits_ne n)
  | cons c t => exact (dig_no n c (by rw [← List.mem_reverse, e]; exact List.mem_cons_self ..)).1
theorem lines_good (p h : List UInt8) (a b : Int) (he : aErr p h a b = 0) (ha : a ≤ 9223372036854775807) (hb : b ≤ 9223372036854775807) : ∀ x ∈ [line1 p, line2 h, line3 a b], goodLine x := by
  obtain ⟨hp, hh, hr⟩ := aErr_zero p h a b he
  intro x hx
  simp only [List.mem_cons, List.not_mem_nil, or_false] at hx
  rcases hx with rfl | rfl | rfl
  · have := putErr_good _ (line1_put p hp); exact ⟨by simp [line1], this.1, this.2⟩
  · have := putErr_good _ (line2_put h hh); exact ⟨by simp [line2], this.1, this.2⟩
  · have := putErr_good _ (line3_put a b ha hb); exact ⟨by simp [line3], this.1, this.2⟩
/-- what is taken may be printed, and what is printed of it is taken for the same -/
theorem ask_again (s : ByteArray) (h0 : askE s = 0) : aErr (askPath s) (askHost s) (askA s) (askB s) = 0 ∧ 0 < askN s ∧ askN s ≤ (s.size : Int) ∧ 0 ≤ askA s ∧ askA s ≤ 9007199254740990 ∧ 0 ≤ askB s ∧ askB s ≤ 9007199254740990 := by
  have hh : (headOf s).2.2 = 0 := by
    by_cases h : (headOf s).2.2 = 0
    · exact h
    · unfold askE at h0; rw [if_pos h] at h0; exact h0
  have hl : lnE (headOf s).1 = 0 := by unfold askE at h0; rw [if_neg (by simp [hh])] at h0; exact h0
  have h1 : firstL (headOf s).1 = 0 := by
    by_cases h : firstL (headOf s).1 = 0
    · exact h
    · unfold lnE at hl; rw [if_pos h] at hl; exact hl
  unfold lnE at hl
  rw [if_neg (by simp [h1])] at hl
  have h2 : fldE (headOf s).1.tail = 0 := by
    by_cases h : fldE (headOf s).1.tail = 0
    · exact h
    · rw [if_pos h] at hl; exact hl
  rw [if_neg (by simp [h2])] at hl
  have h3 : whoE (fldL (headOf s).1.tail) = 0 := by
    by_cases h : whoE (fldL (headOf s).1.tail) = 0
    · exact h
    · rw [if_pos h] at hl; exact hl
  rw [if_neg (by simp [h3])] at hl
  have hp : pathB (wordL (headOf s).1) = true := by
    unfold firstL firstW at h1
    unfold wordL
    split at h1
    · exact absurd h1 (by decide)
    split at h1
    · exact absurd h1 (by decide)
    split at h1
    · exact absurd h1 (by decide)
    split at h1
    · exact absurd h1 (by decide)
    split at h1
    · exact absurd h1 (by decide)
    · rename_i hx
      simpa using hx
  have hH : hostB (getS (fldL (headOf s).1.tail) hostK) = true := by
    unfold whoE at h3
    split at h3
    · rename_i hx; exact absurd h3 hx
    split at h3
    · exact absurd h3 (by decide)
    · rename_i hx
      simpa using hx
  have hA : askedE (getS (fldL (headOf s).1.tail) rangeK) = 0 := by
    unfold whatE at hl
    split at hl
    · rename_i hx; exact absurd hl hx
    · exact hl
  have hr : rErr (askedF (getS (fldL (headOf s).1.tail) rangeK)) (askedT (getS (fldL (headOf s).1.tail) rangeK)) = 0 := by
    have hA' := hA
    unfold askedE at hA'
    split at hA'
    · exact absurd hA' (by decide)
    split at hA'
    · rename_i hx; exact absurd hA' hx
    · exact hA'
  obtain ⟨n1, n2⟩ := headOf_bd s hh
  obtain ⟨r1, r2, r3⟩ := rErr_ok _ _ hr
  unfold askPath askHost askA askB askN
  rw [if_pos h0, if_pos h0, if_pos h0, if_pos h0, if_pos h0]
  unfold askedA askedB
  rw [if_pos hA, if_pos hA]
  refine ⟨?_, n1, n2, r1, by omega, by omega, r3⟩
  unfold aErr
  rw [if_neg (by simp [hp, hH])]
  exact hr
theorem ask_bad (s : ByteArray) (h0 : askE s ≠ 0) : askPath s = [] ∧ askHost s = [] ∧ askA s = 0 ∧ askB s = 0 ∧ askN s = 0 := by
  unfold askPath askHost askA askB askN
  rw [if_neg h0, if_neg h0, if_neg h0, if_neg h0, if_neg h0]
  exact ⟨rfl, rfl, rfl, rfl, rfl⟩
end Go.Proofs.YtbdmmgmcbecolaaGreatDoor
namespace Go.Proofs.YtbdmmgmcbecolaaGreatDoor
open Go.RowKit

def clen : List UInt8 := [99, 111, 110, 116, 101, 110, 116, 45, 108, 101, 110, 103, 116, 104]
def ownE : List (List UInt8 × List UInt8) → Nat
  | [] => 0
  | f :: t => if f.1 = clen then 22 else if fieldE f.1 f.2 ≠ 0 then fieldE f.1 f.2 else ownE t
/-- what is wrong with a reply that is to be printed -/
def repE (c : Int) (fs : List (List UInt8 × List UInt8)) : Nat := if printErr c ≠ 0 then printErr c else if 15 < fs.length then 21 else ownE fs
def repLines (c : Int) (fs : List (List UInt8 × List UInt8)) (n : Nat) : List (List UInt8) := (printOf c).data.toList :: printL clen (digL n) :: fs.map (fun f => printL f.1 f.2)
def repL (c : Int) (fs : List (List UInt8 × List UInt8)) (b : List UInt8) : List UInt8 := body (repLines c fs b.length) ++ 13 :: 10 :: b
def repS (c : Int) (fs : List (List UInt8 × List UInt8)) (b : List UInt8) : List UInt8 := if repE c fs = 0 then repL c fs b else []
theorem ownE_at (xs : List (List UInt8 × List UInt8)) : ∀ k, (∀ j (hj : j < xs.length), j < k → xs[j].1 ≠ clen ∧ fieldE xs[j].1 xs[j].2 = 0) → ownE xs = ownE (xs.drop k) := by
  induction xs with
  | nil => intro k _; simp
  | cons x t ih =>
    intro k h
    cases k with
    | zero => rfl
    | succ k =>
      have h0 : x.1 ≠ clen ∧ fieldE x.1 x.2 = 0 := h 0 (by simp) (by omega)
      show (if x.1 = clen then 22 else if fieldE x.1 x.2 ≠ 0 then fieldE x.1 x.2 else ownE t) = ownE (t.drop k)
      rw [if_neg h0.1, if_neg (fun hh => hh h0.2)]
      exact ih k (fun j hj hk => h (j + 1) (by simp; omega) (by omega))
theorem ownE_zero (fs : List (List UInt8 × List UInt8)) (h : ownE fs = 0) : ∀ f ∈ fs, f.1 ≠ clen ∧ fieldE f.1 f.2 = 0 := by
  induction fs with
  | nil => intro f hf; simp at hf
  | cons x t ih =>
    unfold ownE at h
    split at h
    · exact absurd h (by decide)
    · rename_i h1
      split at h
      · rename_i h2; exact absurd h h2
      · rename_i h2
        intro f hf
        rcases List.mem_cons.1 hf with rfl | hf
        · exact ⟨h1, Decidable.not_not.1 h2⟩
        · exact ih h f hf
theorem repE_zero (c : Int) (fs : List (List UInt8 × List UInt8)) (h : repE c fs = 0) : 100 ≤ c ∧ c ≤ 599 ∧ fs.length ≤ 15 ∧ ∀ f ∈ fs, f.1 ≠ clen ∧ fieldE f.1 f.2 = 0 := by
  unfold repE at h
  split at h
  · rename_i hx; exact absurd h hx
  · rename_i hx
    split at h
    · exact absurd h (by decide)
    · have hc : classOf c ≠ 0 := fun e => hx (by unfold printErr; rw [if_pos e]; decide)
      rw [Ne, class_iff] at hc
      exact ⟨by omega, by omega, by omega, ownE_zero fs h⟩
theorem clen_named : nameL clen = true := by decide
theorem dig_gapless (n : Nat) : noGap (Go.Lib.decDigits n) = true := by
  have e1 : headGap (Go.Lib.decDigits n) = false := by
    cases e : Go.Lib.decDigits n with
    | nil => rfl
    | cons c t => exact (dig_no n c (by rw [e]; exact List.mem_cons_self ..)).1
  unfold noGap
  rw [e1]
  have := dig_last n []
  rw [List.nil_append] at this
  rw [this]; rfl
theorem digL_nat (n : Nat) : digL (n : Int) = Go.Lib.decDigits n := by unfold digL; rw [if_neg (by omega), Int.toNat_natCast]
theorem clen_ok (n : Nat) (hn : n ≤ 1000000) : fieldE clen (digL n) = 0 := by
  have hp : printOk clen (digL n) = true := by
    unfold printOk
    rw [clen_named, Bool.true_and, Bool.and_eq_true]
    refine ⟨List.all_eq_true.2 fun c hc => digL_plain n c hc, ?_⟩
    rw [digL_nat]; exact dig_gapless n
  unfold fieldE
  rw [if_pos hp, if_neg]
  have := decDigits_len n (by omega)
  unfold printL tailV
  rw [digL_nat]
  split
  · simp [titL_len, clen]
  · simp only [List.length_append, List.length_cons, titL_len]
    rw [show clen.length = 14 from rfl]; omega
theorem printL_ne (n v : List UInt8) : printL n v ≠ [] := by unfold printL; simp
theorem good_print (n v : List UInt8) (h : fieldE n v = 0) : goodLine (printL n v) := by
  have := putErr_good _ (print_put n v h)
  exact ⟨printL_ne n v, this.1, this.2⟩
theorem printOf_line (c : Int) (h1 : 100 ≤ c) (h2 : c ≤ 599) : printOf c = statusLine c := by
  unfold printOf; rw [if_neg (by rw [class_iff]; omega)]
theorem good_status (c : Int) (h1 : 100 ≤ c) (h2 : c ≤ 599) : goodLine (printOf c).data.toList ∧ statusOf (printOf c).data.toList = (c, 0) := by
  obtain ⟨n, rfl⟩ : ∃ n : Nat, c = n := ⟨c.toNat, by omega⟩
  rw [printOf_line _ h1 h2]
  have := putErr_good _ (status_print_put n (by omega) (by omega))
  refine ⟨⟨?_, this.1, this.2⟩, status_print_parse n (by omega) (by omega)⟩
  rw [statusLine_data n (by omega) (by omega)]; simp [versionL]
theorem good_lines (c : Int) (fs : List (List UInt8 × List UInt8)) (n : Nat) (h : repE c fs = 0) (hn : n ≤ 1000000) : (∀ x ∈ repLines c fs n, goodLine x) ∧ (repLines c fs n).length ≤ 17 := by
  obtain ⟨h1, h2, h3, h4⟩ := repE_zero c fs h
  refine ⟨?_, by unfold repLines; simp; omega⟩
  intro x hx
  unfold repLines at hx
  rcases List.mem_cons.1 hx with rfl | hx
  · exact (good_status c h1 h2).1
  rcases List.mem_cons.1 hx with rfl | hx
  · exact good_print _ _ (clen_ok n hn)
  · obtain ⟨f, hf, rfl⟩ := List.mem_map.1 hx
    exact good_print _ _ (h4 f hf).2
/-- what is wrong with a head's lines; its code, its body's length, its other fields -/
def hdE (ls : List (List UInt8)) : Nat := if ls = [] then 4 else if (statusOf (ls.getD 0 [])).2 ≠ 0 then (statusOf (ls.getD 0 [])).2 else if fldE ls.tail ≠ 0 then fldE ls.tail else if getE (fldL ls.tail) clen ≠ 0 then getE (fldL ls.tail) clen else numE (getS (fldL ls.tail) clen)
def hdC (ls : List (List UInt8)) : Int := (statusOf (ls.getD 0 [])).1
def hdN (ls : List (List UInt8)) : Nat := numV (getS (fldL ls.tail) clen)
def restF (fs : List (List UInt8 × List UInt8)) : List (List UInt8 × List UInt8) := fs.filter (fun f => f.1 != clen)
def takE (s : ByteArray) (most : Int) : Nat := if (headOf s).2.2 ≠ 0 then (headOf s).2.2 else if hdE (headOf s).1 ≠ 0 then hdE (headOf s).1 else if most < (hdN (headOf s).1 : Int) then 5 else if (s.size : Int) - (headOf s).2.1 < (hdN (headOf s).1 : Int) then 3 else 0
def takC (s : ByteArray) (most : Int) : Int := if takE s most = 0 then hdC (headOf s).1 else 0
def takF (s : ByteArray) (most : Int) : List (List UInt8 × List UInt8) := if takE s most = 0 then restF (fldL (headOf s).1.tail) else []
def takB (s : ByteArray) (most : Int) : List UInt8 := if takE s most = 0 then (s.data.toList.take ((headOf s).2.1.toNat + hdN (headOf s).1)).drop (headOf s).2.1.toNat else []
def takN (s : ByteArray) (most : Int) : Int := if takE s most = 0 then (headOf s).2.1 + (hdN (headOf s).1 : Int) else 0
theorem tak_bad (s : ByteArray) (most : Int) (h : takE s most ≠ 0) : takC s most = 0 ∧ takF s most = [] ∧ takB s most = [] ∧ takN s most = 0 := by
  unfold takC takF takB takN
  rw [if_neg h, if_neg h, if_neg h, if_neg h]
  exact ⟨rfl, rfl, rfl, rfl⟩
theorem rest_none (fs : List (List UInt8 × List UInt8)) (h : ∀ f ∈ fs, f.1 ≠ clen) : restF fs = fs ∧ hits fs clen = [] := by
  refine ⟨List.filter_eq_self.2 (fun f hf => bne_iff_ne.2 (h f hf)), ?_⟩
  unfold hits
  rw [List.filter_eq_nil_iff.2 (fun f hf => by simpa using h f hf)]; rfl
theorem split_one (fs : List (List UInt8 × List UInt8)) (h : getE fs clen = 0) : ∃ a x b, fs = a ++ x :: b ∧ x.1 = clen ∧ (∀ y ∈ a, y.1 ≠ clen) ∧ (∀ y ∈ b, y.1 ≠ clen) ∧ restF fs = a ++ b := by
  have hl : (fs.filter (fun f => f.1 == clen)).length = 1 := by
    unfold getE hits at h
    cases e : (fs.filter (fun f => f.1 == clen)) with
    | nil => rw [e] at h; exact absurd h (by decide)
    | cons x t =>
      cases t with
      | nil => rfl
      | cons y u => rw [e] at h; exact absurd h (by simp)
  clear h
  induction fs with
  | nil => simp at hl
  | cons f t ih =>
    by_cases hf : f.1 = clen
    · rw [List.filter_cons_of_pos (by simp [hf]), List.length_cons] at hl
      have hn : t.filter (fun f => f.1 == clen) = [] := List.length_eq_zero_iff.1 (by omega)
      have ht : ∀ y ∈ t, y.1 ≠ clen := fun y hy e => by
        have := List.filter_eq_nil_iff.1 hn y hy
        simp [e] at this
      refine ⟨[], f, t, rfl, hf, fun y hy => by simp at hy, ht, ?_⟩
      unfold restF
      rw [List.filter_cons_of_neg (by simp [hf])]
      exact (rest_none t ht).1
    · rw [List.filter_cons_of_neg (by simp [hf])] at hl
      obtain ⟨a, x, b, e1, e2, e3, e4, e5⟩ := ih hl
      refine ⟨f :: a, x, b, by rw [e1]; rfl, e2, ?_, e4, ?_⟩
      · intro y hy
        rcases List.mem_cons.1 hy with rfl | hy
        · exact hf
        · exact e3 y hy
      · unfold restF at e5 ⊢
        rw [List.filter_cons_of_pos (by simp [hf]), e5]; rfl
end Go.Proofs.YtbdmmgmcbecolaaGreatDoor
namespace Go.Proofs
open Go.Shelf
def layCloneF_ren : Go.Shelf.Ren := ⟨fun | 41 => 123 | n => n, fun | 22 => 111 | 23 => 161 | 4 => 4 | n => n, fun | n => n⟩
theorem layCloneF : Go.Proofs.SlLaysE0.n41 Tryz.prog layCloneF_ren := {
  mixed := by kernel_rfl
  f41 := ⟨Tryz.f123.name, by decide, Tryz.func123.trans (congrArg some (by kernel_rfl))⟩
  t4 := Tryz.underlying4
  a4 := Tryz.isAgg4
  z4 := Tryz.sizeOf4
  v4 := Tryz.zeroValue4
  t22 := Tryz.underlying111
  a22 := Tryz.isAgg111
  z22 := Tryz.sizeOf111
  v22 := Tryz.zeroValue111 }
def layIndexF_ren : Go.Shelf.Ren := ⟨fun | 6 => 150 | n => n, fun | 22 => 111 | 23 => 161 | 25 => 223 | 3 => 3 | 0 => 0 | 4 => 4 | n => n, fun | n => n⟩
theorem layIndexF : Go.Proofs.SlLaysH0.n6 Tryz.prog layIndexF_ren := {
  mixed := by kernel_rfl
  f6 := ⟨Tryz.f150.name, by decide, Tryz.func150.trans (congrArg some (by kernel_rfl))⟩
  t0 := Tryz.underlying0
  a0 := Tryz.isAgg0
  z0 := Tryz.sizeOf0
  v0 := Tryz.zeroValue0
  t3 := Tryz.underlying3
  a3 := Tryz.isAgg3
  z3 := Tryz.sizeOf3
  v3 := Tryz.zeroValue3
  t4 := Tryz.underlying4
  a4 := Tryz.isAgg4
  z4 := Tryz.sizeOf4
  v4 := Tryz.zeroValue4
  t22 := Tryz.underlying111
  a22 := Tryz.isAgg111
  z22 := Tryz.sizeOf111
  v22 := Tryz.zeroValue111
  t25 := Tryz.underlying223
  a25 := Tryz.isAgg223
  z25 := Tryz.sizeOf223
  v25 := Tryz.zeroValue223 }
end Go.Proofs
