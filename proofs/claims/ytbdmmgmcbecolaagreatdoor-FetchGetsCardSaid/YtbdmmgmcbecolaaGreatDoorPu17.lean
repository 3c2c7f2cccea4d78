/- What the document's Get fetches. What the document's Get fetches: its rounds. The client's Get beside the document's. The law FetchRight. The law FetchGets. The law function FetchGets, as the row's proof takes it. -/
import Derived.Test.YtbdmmgmcbecolaaGreatDoorPu16
import Derived.ChangeSame
import Derived.ChangeArms
import Derived.WideShapes
set_option linter.unusedVariables false
set_option linter.unusedSimpArgs false
namespace Go.Proofs.YtbdmmgmcbecolaaGreatDoor
open Go.RowKit
/-- the blocks of the document's Get -/
def rgW (w : World) (C : Array Value) (a b : Int) : World :=
  ((w.alloc (.cells C 52)).alloc (.cells #[.int .i64 a, .int .i64 b] 23)).alloc (.cells (cliC ⟨#[]⟩ ⟨#[]⟩ ⟨#[]⟩ (.slice none 0 0) (.slice none 0 0) 0 ⟨#[]⟩ ⟨#[]⟩ 0 0 0 0) 52)
structure RG (w W : World) (C : Array Value) (a b : Int) : Prop where
  c : W.heap[w.heap.size]? = some (.cells C 52 (0, 0))
  x : W.heap[w.heap.size + 1]? = some (.cells #[.int .i64 a, .int .i64 b] 23 (0, 0))
  z : W.heap[w.heap.size + 1 + 1]? = some (.cells (cliC ⟨#[]⟩ ⟨#[]⟩ ⟨#[]⟩ (.slice none 0 0) (.slice none 0 0) 0 ⟨#[]⟩ ⟨#[]⟩ 0 0 0 0) 52 (0, 0))
  b : Below w.heap.size w W
  s : w.heap.size + 3 ≤ W.heap.size
theorem RG.start (w : World) (C : Array Value) (a b : Int) : RG w (rgW w C a b) C a b := by
  unfold rgW
  have hb : Below w.heap.size w (w.alloc (.cells C 52)) := below_c8 _ _ _
  have e1 : (w.alloc (.cells C 52)).heap.size = w.heap.size + 1 := by simp
  have x1 := heap_alloc_new w (.cells C 52)
  generalize w.alloc (.cells C 52) = W1 at hb e1 x1
  have hb2 : Below W1.heap.size W1 (W1.alloc (.cells #[.int .i64 a, .int .i64 b] 23)) := below_c8 _ _ _
  have z1 := heap_alloc_new W1 (.cells #[.int .i64 a, .int .i64 b] 23)
  have e2 : (W1.alloc (.cells #[.int .i64 a, .int .i64 b] 23)).heap.size = W1.heap.size + 1 := by simp
  generalize W1.alloc (.cells #[.int .i64 a, .int .i64 b] 23) = W2 at hb2 z1 e2
  have hb3 : Below W2.heap.size W2 (W2.alloc (.cells (cliC ⟨#[]⟩ ⟨#[]⟩ ⟨#[]⟩ (.slice none 0 0) (.slice none 0 0) 0 ⟨#[]⟩ ⟨#[]⟩ 0 0 0 0) 52)) := below_c8 _ _ _
  have d1 := heap_alloc_new W2 (.cells (cliC ⟨#[]⟩ ⟨#[]⟩ ⟨#[]⟩ (.slice none 0 0) (.slice none 0 0) 0 ⟨#[]⟩ ⟨#[]⟩ 0 0 0 0) 52)
  have e3 : (W2.alloc (.cells (cliC ⟨#[]⟩ ⟨#[]⟩ ⟨#[]⟩ (.slice none 0 0) (.slice none 0 0) 0 ⟨#[]⟩ ⟨#[]⟩ 0 0 0 0) 52)).heap.size = W2.heap.size + 1 := by simp
  have hb23 := bstep hb2 hb3
  refine ⟨(hb23.block _ (by omega)).trans x1, ?_, ?_, bstep hb hb23, by omega⟩
  · rw [← e1]; exact (hb3.block _ (by omega)).trans z1
  · rw [← e1, ← e2]; exact d1
theorem RG.below {w W W' : World} {C : Array Value} {a b : Int} (k : RG w W C a b) (hb : Below W.heap.size W W') : RG w W' C a b :=
  have := k.s
  ⟨(hb.block _ (by omega)).trans k.c, (hb.block _ (by omega)).trans k.x, (hb.block _ (by omega)).trans k.z, bstep k.b hb, Nat.le_trans k.s hb.size⟩
theorem RG.xs {w W : World} {C : Array Value} {a b : Int} (k : RG w W C a b) : W.cell? ⟨w.heap.size + 1, 0, none⟩ = some (.int .i64 a) ∧ W.cell? ⟨w.heap.size + 1, 1, none⟩ = some (.int .i64 b) :=
  ⟨by unfold World.cell?; rw [k.x]; rfl, by unfold World.cell?; rw [k.x]; rfl⟩
set_option maxRecDepth 100000 in
set_option maxHeartbeats 4000000 in
theorem ref_get_bad (h p f : ByteArray) (xa : Option Addr) (xn xc : Nat) (ya : Option Addr) (yn yc : Nat) (n : Int) (hh hp : ByteArray) (t r m k a b : Int) (w : World) (hb : getErr a b t ≠ 0) :
    Calls Tryz.prog 19 #[cliV h p f (.slice xa xn xc) (.slice ya yn yc) n hh hp t r m k, .agg #[.int .i64 a, .int .i64 b]] w fun e w' => e = .returned (.tuple #[cliV h p f (.slice xa xn xc) (.slice ya yn yc) n hh hp t r m k, .string ⟨#[]⟩, .int .i64 (getErr a b t : Nat)]) ∧ Below w.heap.size w w' := by
  have HC := Lib.hid (fun w => ref_rcheck a b w)
  have HL := Lib.hid (fun w => ref_rlength a b w)
  have HG := Lib.hid (RG.start w (cliC h p f (.slice xa xn xc) (.slice ya yn yc) n hh hp t r m k) a b)
  by_cases hr : rErr a b = 0
  · rw [hr] at HC
    by_cases hq : t ≤ b
    · have hA : getErr a b t = 8 := by unfold getErr; rw [if_pos (.inr hq)]
      have HA := Lib.hid hA
      have t1 : decide (b ≥ t) = true := decide_eq_true hq
      clear hb hr hA
      go_enter Tryz.func19, Tryz.ntmps19
      go_wp2_with fail
      refine (HC.out _).mono ?_
      rintro e w1 ⟨rfl, hb1⟩
      have HG1 := Lib.hid (HG.out.below hb1)
      clear hb1
      obtain ⟨x0, x1⟩ := HG1.out.xs
      obtain ⟨⟨c0, c1, c2, c3, c4, c5⟩, c6, c7, c8, c9, ca, cb⟩ := twelve_facts HG1.out.c
      obtain ⟨⟨f0, f1, f2, f3, f4, f5⟩, f6, f7, f8, f9, fa, fb⟩ := twelve_free HG1.out.z
      obtain ⟨⟨z0, z1, z2, z3, z4, z5⟩, z6, z7, z8, z9, za, zb⟩ := twelve_facts HG1.out.z
      go_wp2_with fail
      refine ret_cell3 (A := ⟨w.heap.size + 1 + 1, 0, none⟩) rfl (load_rcli _ _ _ _ _ _ _ _ _ _ _ _ _ _ _ (twelve_all HG1.out.z _ _ _ _ _ _ _ _ _ _ _ _)) rfl rfl rfl rfl ?_
      exact ⟨by rw [HA.out] <;> rfl, twelve_below HG1.out.b _ (by omega) _ _ _ _ _ _ _ _ _ _ _ _⟩
    · have t1 : decide (b ≥ t) = false := decide_eq_false hq
      have hl : 65536 < rLen a b := by
        unfold getErr at hb
        rw [if_neg (by rintro (h | h); exact h hr; exact hq h)] at hb
        by_cases hl : 65536 < rLen a b
        · exact hl
        · rw [if_neg hl] at hb; exact absurd rfl hb
      have hA : getErr a b t = 5 := by unfold getErr; rw [if_neg (by rintro (h | h); exact h hr; exact hq h), if_pos hl]
      have HA := Lib.hid hA
      have t2 : decide (rLen a b > 65536) = true := decide_eq_true hl
      clear hb hr hA hl
      generalize rLen a b = M at HL t2
      go_enter Tryz.func19, Tryz.ntmps19
      go_wp2_with fail
      refine (HC.out _).mono ?_
      rintro e w1 ⟨rfl, hb1⟩
      have HG1 := Lib.hid (HG.out.below hb1)
      clear hb1
      obtain ⟨x0, x1⟩ := HG1.out.xs
      obtain ⟨-, c6, c7, c8, c9, ca, cb⟩ := twelve_facts HG1.out.c
      go_wp2_with fail
      refine (HL.out _).mono ?_
      rintro e w2 ⟨rfl, hb2⟩
      have HG2 := Lib.hid (HG1.out.below hb2)
      clear hb2 x0 x1 c6 c7 c8 c9 ca cb
      obtain ⟨⟨c0, c1, c2, c3, c4, c5⟩, c6, c7, c8, c9, ca, cb⟩ := twelve_facts HG2.out.c
      obtain ⟨⟨f0, f1, f2, f3, f4, f5⟩, f6, f7, f8, f9, fa, fb⟩ := twelve_free HG2.out.z
      obtain ⟨⟨z0, z1, z2, z3, z4, z5⟩, z6, z7, z8, z9, za, zb⟩ := twelve_facts HG2.out.z
      go_wp2_with fail
      refine ret_cell3 (A := ⟨w.heap.size + 1 + 1, 0, none⟩) rfl (load_rcli _ _ _ _ _ _ _ _ _ _ _ _ _ _ _ (twelve_all HG2.out.z _ _ _ _ _ _ _ _ _ _ _ _)) rfl rfl rfl rfl ?_
      exact ⟨by rw [HA.out] <;> rfl, twelve_below HG2.out.b _ (by omega) _ _ _ _ _ _ _ _ _ _ _ _⟩
  · have hA : getErr a b t = 8 := by unfold getErr; rw [if_pos (.inl hr)]
    have HA := Lib.hid hA
    rw [(rErr_no a b hr).1] at HC
    clear hb hr hA
    go_enter Tryz.func19, Tryz.ntmps19
    go_wp2_with fail
    refine (HC.out _).mono ?_
    rintro e w1 ⟨rfl, hb1⟩
    have HG1 := Lib.hid (HG.out.below hb1)
    clear hb1
    obtain ⟨x0, x1⟩ := HG1.out.xs
    obtain ⟨⟨c0, c1, c2, c3, c4, c5⟩, c6, c7, c8, c9, ca, cb⟩ := twelve_facts HG1.out.c
    obtain ⟨⟨f0, f1, f2, f3, f4, f5⟩, f6, f7, f8, f9, fa, fb⟩ := twelve_free HG1.out.z
    obtain ⟨⟨z0, z1, z2, z3, z4, z5⟩, z6, z7, z8, z9, za, zb⟩ := twelve_facts HG1.out.z
    go_wp2_with fail
    refine ret_cell3 (A := ⟨w.heap.size + 1 + 1, 0, none⟩) rfl (load_rcli _ _ _ _ _ _ _ _ _ _ _ _ _ _ _ (twelve_all HG1.out.z _ _ _ _ _ _ _ _ _ _ _ _)) rfl rfl rfl rfl ?_
    exact ⟨by rw [HA.out] <;> rfl, twelve_below HG1.out.b _ (by omega) _ _ _ _ _ _ _ _ _ _ _ _⟩
end Go.Proofs.YtbdmmgmcbecolaaGreatDoor
namespace Go.Proofs.YtbdmmgmcbecolaaGreatDoor
open Go.RowKit
abbrev chain8 (w : World) (b : Nat) (y0 y1 y2 y3 y4 y5 ya yb : Value) : World := (((((((w.setCell ⟨b, 0, none⟩ y0).setCell ⟨b, 1, none⟩ y1).setCell ⟨b, 2, none⟩ y2).setCell ⟨b, 3, none⟩ y3).setCell ⟨b, 4, none⟩ y4).setCell ⟨b, 5, none⟩ y5).setCell ⟨b, 10, none⟩ ya).setCell ⟨b, 11, none⟩ yb
theorem chain8_all {w : World} {b : Nat} {x0 x1 x2 x3 x4 x5 x6 x7 x8 x9 xa xb : Value} {t : TypeId} (k : w.heap[b]? = some (.cells #[x0, x1, x2, x3, x4, x5, x6, x7, x8, x9, xa, xb] t (0, 0))) (y0 y1 y2 y3 y4 y5 ya yb : Value) :
    (chain8 w b y0 y1 y2 y3 y4 y5 ya yb).heap[b]? = some (.cells #[y0, y1, y2, y3, y4, y5, x6, x7, x8, x9, ya, yb] t (0, 0)) := by
  simp [World.setCell, Array.getElem?_modify, k]
theorem chain8_touch (w : World) (b : Nat) (y0 y1 y2 y3 y4 y5 ya yb : Value) : Touch (fun g => g = b) w (chain8 w b y0 y1 y2 y3 y4 y5 ya yb) :=
  touch_set _ (touch_set _ (touch_set _ (touch_set _ (touch_set _ (touch_set _ (touch_set _ (touch_set _ (Touch.refl _ _) (.inl rfl)) (.inl rfl)) (.inl rfl)) (.inl rfl)) (.inl rfl)) (.inl rfl)) (.inl rfl)) (.inl rfl)
theorem chain8_below {B : Nat} {w0 w : World} (h : Below B w0 w) (b : Nat) (hB : B ≤ b) (y0 y1 y2 y3 y4 y5 ya yb : Value) : Below B w0 (chain8 w b y0 y1 y2 y3 y4 y5 ya yb) :=
  (((((((h.setCell (p := ⟨b, 0, none⟩) hB _).setCell (p := ⟨b, 1, none⟩) hB _).setCell (p := ⟨b, 2, none⟩) hB _).setCell (p := ⟨b, 3, none⟩) hB _).setCell (p := ⟨b, 4, none⟩) hB _).setCell (p := ⟨b, 5, none⟩) hB _).setCell (p := ⟨b, 10, none⟩) hB _).setCell (p := ⟨b, 11, none⟩) hB _
theorem RG.set {w W : World} {h p f : ByteArray} {x3 x4 : Value} {n : Int} {hh hp : ByteArray} {t r m k a b : Int} (g : RG w W (cliC h p f x3 x4 n hh hp t r m k) a b) (y3 y4 : Value) (n' m' k' : Int) :
    RG w (chain8 W w.heap.size (.string h) (.string p) (.string f) y3 y4 (.int .i64 n') (.int .i64 m') (.int .i64 k')) (cliC h p f y3 y4 n' hh hp t r m' k') a b := by
  have ht := chain8_touch W w.heap.size (.string h) (.string p) (.string f) y3 y4 (.int .i64 n') (.int .i64 m') (.int .i64 k')
  have hs := g.s
  exact ⟨chain8_all g.c _ _ _ _ _ _ _ _, (ht.block _ (by omega) (show ¬ w.heap.size + 1 = w.heap.size by omega)).trans g.x, (ht.block _ (by omega) (show ¬ w.heap.size + 1 + 1 = w.heap.size by omega)).trans g.z, chain8_below g.b _ (Nat.le_refl _) _ _ _ _ _ _ _ _, Nat.le_trans hs ht.size⟩
theorem chain8_own {w : World} {b0 n : Nat} {L : Value} {xs : List Value} {X : Nat} {C : Array Value} (ho : w.ownsRow b0 106 3 L n xs) (hX : w.heap[X]? = some (.cells C 52 (0, 0))) (y0 y1 y2 y3 y4 y5 ya yb : Value) : (chain8 w X y0 y1 y2 y3 y4 y5 ya yb).ownsRow b0 106 3 L n xs :=
  own_kept ho (chain8_touch w X y0 y1 y2 y3 y4 y5 ya yb) (fun g hg e => own_not_row ho hX (by decide) (by rw [hg]; exact congrArg some e))
theorem set12_own {w : World} {b0 n : Nat} {L : Value} {xs : List Value} {X : Nat} {C : Array Value} (ho : w.ownsRow b0 106 3 L n xs) (hX : w.heap[X]? = some (.cells C 52 (0, 0))) (y0 y1 y2 y3 y4 y5 y6 y7 y8 y9 ya yb : Value) : (set12 w X y0 y1 y2 y3 y4 y5 y6 y7 y8 y9 ya yb).ownsRow b0 106 3 L n xs :=
  own_kept ho (twelve_touch w X y0 y1 y2 y3 y4 y5 y6 y7 y8 y9 ya yb) (fun g hg e => own_not_row ho hX (by decide) (by rw [hg]; exact congrArg some e))
/-- the document's client behind k rounds of one request -/
structure RL (w0 w wr : World) (hh hp : ByteArray) (t r a b : Int) (h p f : ByteArray) (l : List Flt) (qs : List ByteArray) (S : ByteArray) (k last : Nat) (x3 x4 : Value) : Prop where
  g : RG w wr (cliC h p f x3 x4 (harmsK (lgN h p f l qs S k) : Nat) hh hp t r ((qs.length + k : Nat) : Int) (last : Int)) a b
  hold : HoldsC w0 x3 (l.drop (qs.length + k))
  own : ∃ B, wr.ownsRow B 106 3 x4 (lgN h p f l qs S k).length (evs (lgN h p f l qs S k)) ∧ (k = 0 ∨ w.heap.size ≤ B)
def RGetPost (w0 w : World) (hh hp : ByteArray) (t : Int) (R : Nat) (h p f : ByteArray) (l : List Flt) (qs : List ByteArray) (S : ByteArray) (a b : Int) (e : Ending) (w' : World) : Prop :=
  ∃ x3 x4, e = .returned (.tuple #[cliV h p f x3 x4 (harmsK (lgN h p f l qs S (runA (errN h p f l S qs.length a b t) R)) : Nat) hh hp t (R : Int) ((qs.length + runA (errN h p f l S qs.length a b t) R : Nat) : Int) ((runL (errN h p f l S qs.length a b t) R : Nat) : Int), .string (bs (runB (errN h p f l S qs.length a b t) R (bodN h p f l S qs.length a b t))), .int .i64 (runE (errN h p f l S qs.length a b t) R : Nat)]) ∧
  HoldsC w0 x3 (l.drop (qs.length + runA (errN h p f l S qs.length a b t) R)) ∧
  w'.ownsRow w.heap.size 106 3 x4 (lgN h p f l qs S (runA (errN h p f l S qs.length a b t) R)).length (evs (lgN h p f l qs S (runA (errN h p f l S qs.length a b t) R))) ∧ Below w.heap.size w w'
theorem RL.own' {w0 w wr : World} {hh hp : ByteArray} {t r a b : Int} {h p f : ByteArray} {l : List Flt} {qs : List ByteArray} {S : ByteArray} {k last : Nat} {x3 x4 : Value} (g : RL w0 w wr hh hp t r a b h p f l qs S k last x3 x4) (hk : k ≠ 0) : wr.ownsRow w.heap.size 106 3 x4 (lgN h p f l qs S k).length (evs (lgN h p f l qs S k)) := by
  obtain ⟨B, h1, h2⟩ := g.own
  rcases h2 with h2 | h2
  · exact absurd h2 hk
  · exact own_lowerF h1 h2
set_option maxRecDepth 100000 in
set_option maxHeartbeats 8000000 in
theorem ref_get_good (w0 w : World) (hh hp : ByteArray) (t : Int) (R : Nat) (h p f : ByteArray) (l : List Flt) (qs : List ByteArray) (S : ByteArray) (a b : Int) (last : Nat) (x3 x4 : Value) (b0 : Nat)
    (hv : HoldsC w0 x3 (l.drop qs.length)) (hw : Below w0.heap.size w0 w) (ho : w.ownsRow b0 106 3 x4 (logK h p f l qs).length (evs (logK h p f l qs)))
    (hR : R ≤ 8) (hf : f.size ≤ 2000) (hx : ∀ x ∈ l, FltOk x) (hl : l.length ≤ 1000) (hq : qs.length ≤ 1000) (hhs : h.size ≤ 1000000) (hps : p.size ≤ 1000000) (hhh : hh.size ≤ 1000000) (hhp : hp.size ≤ 1000000) (hb : getErr a b t = 0) (hO : orgE hh.data.toList hp.data.toList = 0) (hS : bs (aPrint hp.data.toList hh.data.toList a b) = S) :
    Calls Tryz.prog 19 #[cliV h p f x3 x4 (harmsK (logK h p f l qs) : Nat) hh hp t (R : Int) (qs.length : Int) (last : Int), .agg #[.int .i64 a, .int .i64 b]] w (RGetPost w0 w hh hp t R h p f l qs S a b) := by
  obtain ⟨g1, g2, g3⟩ := getErr_ok a b t hb
  obtain ⟨r1, r2, r3⟩ := rErr_ok a b g1
  have haE : aErr hp.data.toList hh.data.toList a b = 0 := by
    unfold orgE at hO
    unfold aErr
    split at hO
    · exact absurd hO (by decide)
    · rename_i hq; rw [if_neg hq]; exact g1
  have hSz : S.size ≤ 1000 := by
    rw [← hS, bs_size]
    unfold aPrint
    rw [if_pos haE]
    exact freq_len _ _ a b haE (by omega) (by omega)
  obtain ⟨va, vc, hvv, -⟩ := hv.len
  subst hvv
  obtain ⟨ya, yc, hyy⟩ := slice_of_own ho
  subst hyy
  obtain ⟨vn, hvn⟩ : ∃ n, (l.drop qs.length).length = n := ⟨_, rfl⟩
  obtain ⟨yn, hyn⟩ : ∃ n, (logK h p f l qs).length = n := ⟨_, rfl⟩
  rw [hvn] at hv ⊢
  rw [hyn] at ho ⊢
  have HC := Lib.hid (fun w => ref_rcheck a b w)
  have HL := Lib.hid (fun w => ref_rlength a b w)
  have HP := Lib.hid (fun w => ref_aprint hp hh a b w (by omega) (by omega) (by omega) (by omega))
  rw [hS, haE] at HP
  rw [g1] at HC
  have HG := Lib.hid (RG.start w (cliC h p f (.slice va vn vc) (.slice ya yn yc) (harmsK (logK h p f l qs) : Nat) hh hp t (R : Int) (qs.length : Int) (last : Int)) a b)
  have HHo := Lib.hid (And.intro hv (And.intro hw ho))
  have HFx := Lib.hid hx
  have HN := Lib.hid (And.intro hf (And.intro hl (And.intro hq (And.intro hSz (And.intro hhs hps)))))
  have t1 : decide (b ≥ t) = false := decide_eq_false (by omega)
  have t2 : decide (rLen a b > 65536) = false := decide_eq_false (by omega)
  generalize rLen a b = M at HL t2
  clear hv hw ho hx hf hl hq hb hO hS g1 g2 g3 r1 r2 r3 haE hSz hhs hps hhh hhp
  go_enter Tryz.func19, Tryz.ntmps19
  go_wp2_with fail
  refine (HC.out _).mono ?_
  rintro e w1 ⟨rfl, hb1⟩
  have HG1 := Lib.hid (HG.out.below hb1)
  clear hb1 HG
  obtain ⟨x0, x1⟩ := HG1.out.xs
  obtain ⟨-, c6, c7, c8, c9, ca, cb⟩ := twelve_facts HG1.out.c
  go_wp2_with fail
  refine (HL.out _).mono ?_
  rintro e w2 ⟨rfl, hb2⟩
  have HG2 := Lib.hid (HG1.out.below hb2)
  clear hb2 x0 x1 c6 c7 c8 c9 ca cb HG1
  obtain ⟨x0, x1⟩ := HG2.out.xs
  obtain ⟨-, c6, c7, c8, c9, ca, cb⟩ := twelve_facts HG2.out.c
  go_wp2_with fail
  refine (HP.out _).mono ?_
  rintro e w3 ⟨rfl, hb3⟩
  have HG3 := Lib.hid (HG2.out.below hb3)
  clear hb3 x0 x1 c6 c7 c8 c9 ca cb HG2
  go_wp2_with fail
  have HRL : Hid (RL w0 w w3 hh hp t (R : Int) a b h p f l qs S 0 last (.slice va vn vc) (.slice ya yn yc)) := Lib.hid ⟨by rw [lgN_zero]; exact HG3.out, HHo.out.1, b0, by
    rw [lgN_zero, hyn]
    exact own_kept HHo.out.2.2 (Touch.of_below HG3.out.b) (fun g _ e => e), .inl rfl⟩
  clear HC HL HP HG3
  go_loopw [9] (fun i wr => ∃ k : Nat, k ≤ R + 1 ∧ i = .int .i64 k ∧ (∀ j, j < k → errN h p f l S qs.length a b t j ≠ 0) ∧ ∃ last' x3 x4, Hid (RL w0 w wr hh hp t (R : Int) a b h p f l qs S k last' x3 x4) ∧ (∀ j, k = j + 1 → last' = errN h p f l S qs.length a b t j)) (fun i _ => R + 1 - (intOf i).toNat)
  case atStart => exact ⟨0, by omega, rfl, fun j hj => absurd hj (by omega), last, _, _, HRL, fun j hj => by omega⟩
  case round =>
    obtain ⟨k, hk, rfl, hej, last', x3, x4, HRr, hlast⟩ := hrel
    clear HRL
    have HEj := Lib.hid (And.intro hej hlast)
    clear hej hlast
    obtain ⟨xa, xc, hxx, -⟩ := HRr.out.hold.len
    obtain ⟨xn, hxn⟩ : ∃ n, (l.drop (qs.length + k)).length = n := ⟨_, rfl⟩
    rw [hxn] at hxx
    subst hxx
    obtain ⟨B1, HB1, hB1⟩ := HRr.out.own
    obtain ⟨za, zc, hxx⟩ := slice_of_own HB1
    obtain ⟨zn, hzn⟩ : ∃ n, (lgN h p f l qs S k).length = n := ⟨_, rfl⟩
    rw [hzn] at hxx
    subst hxx
    have HO := Lib.hid HB1
    clear HB1 hB1
    by_cases hlt : k ≤ R
    · have tk : decide ((k : Int) ≤ (R : Int)) = true := decide_eq_true (by omega)
      obtain ⟨N, hN⟩ : ∃ N, qs.length + k = N := ⟨_, rfl⟩
      have hg := HRr.out.g
      have hhold := HRr.out.hold
      have hst := lgN_step h p f l qs S k
      have hhm := hmN_step h p f l qs S k
      have hml := hmN_le h p f l qs S k
      have hgo : gotK h p f ((l.drop N).headD noF) S = gotN h p f l S qs.length k := by unfold gotN; rw [hN]
      rw [hN] at hst hhm hg hhold
      have hln := lgN_len h p f l qs S k
      obtain ⟨b1, b2, b3, b4, b5, b6⟩ := HN.out
      have HNk := Lib.hid hN
      obtain ⟨E, hE⟩ : ∃ E, errN h p f l S qs.length a b t k = E := ⟨_, rfl⟩
      obtain ⟨Bd, hB⟩ : ∃ B, bs (bodN h p f l S qs.length a b t k) = B := ⟨_, rfl⟩
      have hgs : (gotN h p f l S qs.length k).size ≤ 1000000 := by
        rw [← hgo]
        have h1 := got_size h p f ((l.drop N).headD noF) S (by omega)
        have h2 := (flt_ok HFx.out N).t
        omega
      have HJd : Hid (∀ W, Calls Tryz.prog 9 #[.string (gotN h p f l S qs.length k), .agg #[.int .i64 a, .int .i64 b], .int .i64 t] W fun e w' => e = .returned (.tuple #[.string Bd, .int .i64 (E : Int)]) ∧ Below W.heap.size W w') := Lib.hid (fun W => by
        have := ref_judge (gotN h p f l S qs.length k) a b t W hgs
        unfold JdgV at this
        unfold errN at hE
        unfold bodN at hB
        rw [hE, hB] at this
        exact this)
      have hNb : N ≤ 2000 := by omega
      have hask := ref_lask h p f (l.drop N) (lgN h p f l qs S k) (harmsK (lgN h p f l qs S k)) S _ _ B1 w0 wr hhold (bstep HHo.out.2.1 hg.b) HO.out (flt_ok HFx.out N) (by omega) b5 b6 (by omega) (by omega) (by omega)
      unfold RAsk at hask
      rw [drop_tail, ← hst, ← hhm, hgo] at hask
      have hwr := hg.b
      have tw : IntKind.i64.wrap ((N : Int) + 1) = (N : Int) + 1 := by rw [IntKind.wrap_i64]; omega
      obtain ⟨M', hM⟩ : ∃ M, harmsK (lgN h p f l qs S (k + 1)) = M := ⟨_, rfl⟩
      rw [hM] at hask
      have HM := Lib.hid hM
      have HEB := Lib.hid (And.intro hE hB)
      have HAk := Lib.hid hask
      have HGr := Lib.hid hg
      have HWr := Lib.hid hwr
      generalize gotN h p f l S qs.length k = G at HJd HAk
      generalize harmsK (lgN h p f l qs S k) = M at HGr HAk
      clear hask hgs hE hB hN hg hhold hst hhm hml hgo hln b1 b2 b3 b4 b5 b6 hM hwr HRr
      obtain ⟨⟨c0, c1, c2, c3, c4, c5⟩, c6, c7, c8, c9, ca, cb⟩ := twelve_facts HGr.out.c
      go_wp2_with fail
      refine HAk.out.mono ?_
      rintro e wc ⟨x5, x6, rfl, hho, how, hbc⟩
      obtain ⟨ua, uc, hxx, -⟩ := hho.len
      obtain ⟨un, hun⟩ : ∃ n, (l.drop (N + 1)).length = n := ⟨_, rfl⟩
      rw [hun] at hxx
      subst hxx
      obtain ⟨oa, oc, hxx⟩ := slice_of_own how
      obtain ⟨on, hon⟩ : ∃ n, (lgN h p f l qs S (k + 1)).length = n := ⟨_, rfl⟩
      rw [hon] at hxx
      subst hxx
      have hal : Below wc.heap.size wc (wc.alloc (.cells #[.string h, .string p, .string f, .slice ua un uc, .slice oa on oc, .int .i64 (M' : Int)] 50)) := (Below.refl _ _).alloc (Nat.le_refl _) _
      have HGa := Lib.hid ((HGr.out.below hbc).below hal)
      have HHO := Lib.hid hho
      have HOW := Lib.hid (own_keep how hal)
      have HQ := Lib.hid (heap_alloc_new wc (.cells #[.string h, .string p, .string f, .slice ua un uc, .slice oa on oc, .int .i64 (M' : Int)] 50))
      have HQl : Hid (wc.heap.size < (wc.alloc (.cells #[.string h, .string p, .string f, .slice ua un uc, .slice oa on oc, .int .i64 (M' : Int)] 50)).heap.size) := Lib.hid (by simp)
      have HWc := Lib.hid (Nat.le_trans HWr.out.size hbc.size)
      clear hal hbc hho how c0 c1 c2 c3 c4 c5 c6 c7 c8 c9 ca cb HAk HO
      obtain ⟨x0, x1⟩ := HGa.out.xs
      obtain ⟨-, c6, c7, c8, c9, ca, cb⟩ := twelve_facts HGa.out.c
      go_wp2_with fail
      refine (HJd.out _).mono ?_
      rintro e wj ⟨rfl, hbj⟩
      have HGj := Lib.hid (HGa.out.below hbj)
      have HOj := Lib.hid (own_keep HOW.out hbj)
      have HQj := Lib.hid ((hbj.block _ HQl.out).trans HQ.out)
      clear hbj x0 x1 c6 c7 c8 c9 ca cb HGa HOW HQ HQl
      obtain ⟨⟨c0, c1, c2, c3, c4, c5⟩, c6, c7, c8, c9, ca, cb⟩ := twelve_facts HGj.out.c
      obtain ⟨⟨f0, f1, f2, f3, f4, f5⟩, f6, f7, f8, f9, fa, fb⟩ := twelve_free HGj.out.c
      obtain ⟨⟨q0, q1, q2, q3, q4, q5⟩, -⟩ := six_facts HQj.out
      have HRn : Hid (RL w0 w (chain8 wj w.heap.size (.string h) (.string p) (.string f) (.slice ua un uc) (.slice oa on oc) (.int .i64 (M' : Int)) (.int .i64 ((N : Int) + 1)) (.int .i64 (E : Int))) hh hp t (R : Int) a b h p f l qs S (k + 1) E (.slice ua un uc) (.slice oa on oc)) := Lib.hid ⟨by
        have := HGj.out.set (.slice ua un uc) (.slice oa on oc) (M' : Int) ((N : Int) + 1) (E : Int)
        rw [HM.out, show ((qs.length + (k + 1) : Nat) : Int) = (N : Int) + 1 by have := HNk.out; omega]
        exact this, by rw [show qs.length + (k + 1) = N + 1 by have := HNk.out; omega]; exact HHO.out, _, chain8_own HOj.out HGj.out.c _ _ _ _ _ _ _ _, .inr HWr.out.size⟩
      by_cases hE0 : E = 0
      · have te : ((E : Int) == 0) = true := by rw [hE0]; rfl
        have HE0 := Lib.hid hE0
        clear hE0
        obtain ⟨⟨d0, d1, d2, d3, d4, d5⟩, d6, d7, d8, d9, da, db⟩ := twelve_free HGj.out.z
        obtain ⟨⟨e0, e1, e2, e3, e4, e5⟩, e6, e7, e8, e9, ea, eb⟩ := twelve_facts HGj.out.z
        go_wp2_with fail
        refine ret_cell3 (A := ⟨w.heap.size + 1 + 1, 0, none⟩) rfl (load_rcli _ _ _ _ _ _ _ _ _ _ _ _ _ _ _ (twelve_all HRn.out.g.z _ _ _ _ _ _ _ _ _ _ _ _)) rfl rfl rfl rfl ?_
        unfold RGetPost
        obtain ⟨r1, r2, r3, r4⟩ := run_some (errN h p f l S qs.length a b t) R k (bodN h p f l S qs.length a b t) hlt HEj.out.1 (by rw [HEB.out.1]; exact HE0.out)
        rw [r1, r2.trans HE0.out.symm, r3, r4, HEB.out.2]
        refine ⟨_, _, ?_, HRn.out.hold, set12_own (HRn.out.own' (by omega)) HRn.out.g.z _ _ _ _ _ _ _ _ _ _ _ _, twelve_below HRn.out.g.b _ (by omega) _ _ _ _ _ _ _ _ _ _ _ _⟩
        rw [HM.out, show ((qs.length + (k + 1) : Nat) : Int) = (N : Int) + 1 by have := HNk.out; omega]
        rfl
      · have tz : ((E : Int) == 0) = false := by rw [beq_eq_false_iff_ne]; omega
        have tw2 : IntKind.i64.wrap ((k : Int) + 1) = (k : Int) + 1 := by rw [IntKind.wrap_i64]; omega
        have HE0 := Lib.hid hE0
        clear hE0
        go_wp2_with fail
        go_roundw
        case rel =>
          refine ⟨k + 1, by omega, by go_num, fun j hj => ?_, E, _, _, HRn, fun j hj => ?_⟩
          · rcases Nat.lt_or_eq_of_le (Nat.le_of_lt_succ hj) with h1 | h1
            · exact HEj.out.1 j h1
            · subst h1; rw [HEB.out.1]; exact HE0.out
          · obtain rfl : k = j := by omega
            exact HEB.out.1.symm
        case measure => simp [intOf]; omega
    · obtain rfl : k = R + 1 := by omega
      have tk : decide (((R + 1 : Nat) : Int) ≤ (R : Int)) = false := decide_eq_false (by omega)
      have tk2 : decide ((R : Int) + 1 ≤ (R : Int)) = false := decide_eq_false (by omega)
      obtain ⟨⟨c0, c1, c2, c3, c4, c5⟩, c6, c7, c8, c9, ca, cb⟩ := twelve_facts HRr.out.g.c
      obtain ⟨⟨f0, f1, f2, f3, f4, f5⟩, f6, f7, f8, f9, fa, fb⟩ := twelve_free HRr.out.g.z
      obtain ⟨⟨z0, z1, z2, z3, z4, z5⟩, z6, z7, z8, z9, z10, z11⟩ := twelve_facts HRr.out.g.z
      go_wp2_with fail
      refine ret_cell3 (A := ⟨w.heap.size + 1 + 1, 0, none⟩) rfl (load_rcli _ _ _ _ _ _ _ _ _ _ _ _ _ _ _ (twelve_all HRr.out.g.z _ _ _ _ _ _ _ _ _ _ _ _)) rfl rfl rfl rfl ?_
      unfold RGetPost
      obtain ⟨r1, r2, r3, r4⟩ := run_none (errN h p f l S qs.length a b t) R (bodN h p f l S qs.length a b t) (fun j hj => HEj.out.1 j (by omega))
      rw [r1, r2, r3, r4, ← HEj.out.2 R rfl]
      exact ⟨_, _, rfl, HRr.out.hold, set12_own (HRr.out.own' (by omega)) HRr.out.g.z _ _ _ _ _ _ _ _ _ _ _ _, twelve_below HRr.out.g.b _ (by omega) _ _ _ _ _ _ _ _ _ _ _ _⟩
end Go.Proofs.YtbdmmgmcbecolaaGreatDoor
namespace Go.Proofs.YtbdmmgmcbecolaaGreatDoor
open Go.RowKit
/-- what the client's Get leaves -/
def CGet (w1 wr : World) (Cb P : Nat) (hh hp : ByteArray) (t : Int) (R : Nat) (h p f : ByteArray) (l : List Flt) (qs : List ByteArray) (last : Nat) (lv : Value) (B : ByteArray) (E : Nat) (e : Ending) (w' : World) : Prop :=
  e = .returned (.tuple #[.string B, .int .i64 (E : Int)]) ∧ ∃ rv2 lv2, FC w1 w' Cb P hh hp t (R : Int) h p f (l.drop qs.length) (logK h p f l qs) (harmsK (logK h p f l qs)) qs.length last rv2 lv2 ∧ Touch (FS P Cb lv) wr w'
/-- what the document's Get leaves -/
def DGet (w1 W : World) (hh hp : ByteArray) (t : Int) (R : Nat) (h p f : ByteArray) (l : List Flt) (qs : List ByteArray) (last : Nat) (B : ByteArray) (E : Nat) (e : Ending) (w' : World) : Prop :=
  ∃ x3 x4, e = .returned (.tuple #[cliV h p f x3 x4 (harmsK (logK h p f l qs) : Nat) hh hp t (R : Int) (qs.length : Int) (last : Int), .string B, .int .i64 (E : Int)]) ∧ HoldsC w1 x3 (l.drop qs.length) ∧ w'.ownsRow w1.heap.size 106 3 x4 (logK h p f l qs).length (evs (logK h p f l qs)) ∧ Below W.heap.size W w'
theorem get_both (w1 wr : World) (Cb P : Nat) (hh hp : ByteArray) (t : Int) (R : Nat) (h p f : ByteArray) (l : List Flt) (qs : List ByteArray) (last : Nat) (rv lv xr xl : Value) (a b : Int) (hE : EnvT w1)
    (hF : FC w1 wr Cb P hh hp t (R : Int) h p f (l.drop qs.length) (logK h p f l qs) (harmsK (logK h p f l qs)) qs.length last rv lv)
    (hR : R ≤ 8) (hf : f.size ≤ 2000) (hx : ∀ x ∈ l, FltOk x) (hl : l.length ≤ 1000) (hq : qs.length ≤ 900) (hhs : h.size ≤ 1000000) (hps : p.size ≤ 1000000) (hhh : hh.size ≤ 1000000) (hhp : hp.size ≤ 1000000) (hO : orgE hh.data.toList hp.data.toList = 0) (hold : HoldsC w1 xr (l.drop qs.length)) :
    ∃ (B : ByteArray) (E : Nat) (qs' : List ByteArray) (last' : Nat), qs'.length ≤ qs.length + 9 ∧
      Calls Tryz.prog 10 #[.pointer (some ⟨Cb, 0, none⟩), .agg #[.int .i64 a, .int .i64 b]] wr (CGet w1 wr Cb P hh hp t R h p f l qs' last' lv B E) ∧
      ∀ W, Below w1.heap.size w1 W → W.ownsRow w1.heap.size 106 3 xl (logK h p f l qs).length (evs (logK h p f l qs)) →
        Calls Tryz.prog 19 #[cliV h p f xr xl (harmsK (logK h p f l qs) : Nat) hh hp t (R : Int) (qs.length : Int) (last : Int), .agg #[.int .i64 a, .int .i64 b]] W (DGet w1 W hh hp t R h p f l qs' last' B E) := by
  by_cases hg : getErr a b t = 0
  · have hA := runA_le (errN h p f l (bs (aPrint hp.data.toList hh.data.toList a b)) qs.length a b t) R
    have hlen : (qs ++ List.replicate (runA (errN h p f l (bs (aPrint hp.data.toList hh.data.toList a b)) qs.length a b t) R) (bs (aPrint hp.data.toList hh.data.toList a b))).length = qs.length + runA (errN h p f l (bs (aPrint hp.data.toList hh.data.toList a b)) qs.length a b t) R := by rw [List.length_append, List.length_replicate]
    refine ⟨bs (runB (errN h p f l (bs (aPrint hp.data.toList hh.data.toList a b)) qs.length a b t) R (bodN h p f l (bs (aPrint hp.data.toList hh.data.toList a b)) qs.length a b t)), runE (errN h p f l (bs (aPrint hp.data.toList hh.data.toList a b)) qs.length a b t) R, qs ++ List.replicate (runA (errN h p f l (bs (aPrint hp.data.toList hh.data.toList a b)) qs.length a b t) R) (bs (aPrint hp.data.toList hh.data.toList a b)), runL (errN h p f l (bs (aPrint hp.data.toList hh.data.toList a b)) qs.length a b t) R, by rw [hlen]; omega, ?_, ?_⟩
    · refine (get_good w1 wr Cb P hh hp t R h p f l qs _ a b last rv lv hE hF hR hf hx hl (by omega) hg hO rfl).mono ?_
      rintro e w' ⟨rfl, rv2, lv2, h1, h2, -⟩
      refine ⟨rfl, rv2, lv2, ?_, h2⟩
      rw [hlen]
      exact h1
    · intro W hW ho
      refine (ref_get_good w1 W hh hp t R h p f l qs _ a b last xr xl w1.heap.size hold hW ho hR hf hx hl (by omega) hhs hps hhh hhp hg hO rfl).mono ?_
      rintro e w' ⟨x3, x4, rfl, h1, h2, h3⟩
      refine ⟨x3, x4, ?_, ?_, own_lowerF h2 hW.size, h3⟩
      · rw [hlen]; rfl
      · rw [hlen]; exact h1
  · refine ⟨⟨#[]⟩, getErr a b t, qs, last, by omega, ?_, ?_⟩
    · refine (get_bad hF a b hg).mono ?_
      rintro e w' ⟨rfl, h1⟩
      exact ⟨rfl, rv, lv, hF.step h1, Touch.of_below h1⟩
    · intro W hW ho
      obtain ⟨va, vc, hvv, -⟩ := hold.len
      obtain ⟨ya, yc, hyy⟩ := slice_of_own ho
      rw [hvv, hyy]
      refine (ref_get_bad h p f va _ vc ya _ yc _ hh hp t _ _ _ a b W hg).mono ?_
      rintro e w' ⟨rfl, h1⟩
      exact ⟨_, _, rfl, by rw [← hvv]; exact hold, by rw [← hyy]; exact own_keep ho h1, h1⟩
end Go.Proofs.YtbdmmgmcbecolaaGreatDoor
namespace Go.Proofs.YtbdmmgmcbecolaaGreatDoor
open Go.RowKit
/-- a client's retries, as a number -/
theorem cli_nat {hh hp : List UInt8} {t r : Int} (h : cliE hh hp t r = 0) : ∃ R : Nat, r = (R : Int) ∧ R ≤ 8 := by
  obtain ⟨-, -, -, h1, h2⟩ := cli_ok _ _ _ _ h
  exact ⟨r.toNat, by omega, by omega⟩
end Go.Proofs.YtbdmmgmcbecolaaGreatDoor
namespace Go.Proofs.YtbdmmgmcbecolaaGreatDoor
open Go.RowKit
section
variable {w0 w w' : World} {Cb P : Nat} {hh hp h p f : ByteArray} {t r : Int} {rest : List Flt} {log : List Evt} {n asks last : Nat} {rv lv : Value}
/-- a store into a block of another type does nothing to a client -/
theorem FC.far (k : FC w0 w Cb P hh hp t r h p f rest log n asks last rv lv) {X : Nat} {C : Array Value} {ty : TypeId} (hX : w.heap[X]? = some (.cells C ty (0, 0))) (h1 : ty ≠ 97) (h2 : ty ≠ 107) (h3 : ty ≠ 65) (h4 : ty ≠ 87) (hlo : w0.heap.size ≤ X) (ht : Touch (fun g => g = X) w w') : FC w0 w' Cb P hh hp t r h p f rest log n asks last rv lv :=
  ⟨k.k.far hX h1 h2 h3 hlo ht, (ht.block Cb (Array.getElem?_eq_some_iff.1 k.c).1 (fun e => by
    have e2 := k.c
    rw [show Cb = X from e, hX] at e2
    simp only [Option.some.injEq, Obj.cells.injEq] at e2
    exact h4 e2.2.1)).trans k.c, k.lo⟩
/-- a block of another type stands beside a client's request -/
theorem FC.beside (k : FC w0 w Cb P hh hp t r h p f rest log n asks last rv lv) {X : Nat} {C : Array Value} {ty : TypeId} (hX : w.heap[X]? = some (.cells C ty (0, 0))) (h1 : ty ≠ 97) (h2 : ty ≠ 107) (h4 : ty ≠ 87) (ht : Touch (FS P Cb lv) w w') : w'.heap[X]? = some (.cells C ty (0, 0)) := by
  refine (ht.block X (Array.getElem?_eq_some_iff.1 hX).1 ?_).trans hX
  rintro ((e | e) | e)
  · have e2 := k.k.a.blk
    rw [← e, hX] at e2
    simp only [Option.some.injEq, Obj.cells.injEq] at e2
    exact h1 e2.2.1
  · exact own_not_row k.k.a.own hX h2.symm e
  · have e2 := k.c
    rw [← e, hX] at e2
    simp only [Option.some.injEq, Obj.cells.injEq] at e2
    exact h4 e2.2.1
/-- a row of the document's events stands beside a client's request -/
theorem FC.row (k : FC w0 w Cb P hh hp t r h p f rest log n asks last rv lv) {b0 m : Nat} {L : Value} {xs : List Value} (ho : w.ownsRow b0 106 3 L m xs) (ht : Touch (FS P Cb lv) w w') : w'.ownsRow b0 106 3 L m xs :=
  own_kept ho ht (fun g hg e => by
    obtain ⟨C, hC⟩ := own_tag ho g hg
    rcases e with (e | e) | e
    · have e2 := k.k.a.blk
      rw [← show g = P from e, hC] at e2
      simp only [Option.some.injEq, Obj.cells.injEq] at e2
      exact absurd e2.2.1 (by decide)
    · exact own_not_row k.k.a.own hC (by decide) e
    · have e2 := k.c
      rw [← show g = Cb from e, hC] at e2
      simp only [Option.some.injEq, Obj.cells.injEq] at e2
      exact absurd e2.2.1 (by decide))
/-- the client's requests touch nothing below -/
theorem FC.low (k : FC w0 w Cb P hh hp t r h p f rest log n asks last rv lv) : ∀ g, FS P Cb lv g → w0.heap.size ≤ g := fun g hg => by
  rcases hg with hg | rfl
  · exact k.k.low g hg
  · exact k.lo
end
/-- the state of FetchGets' loop -/
structure SC (w1 wr : World) (Cb P D : Nat) (hh hp : ByteArray) (t : Int) (R : Nat) (h p f : ByteArray) (rest : List Flt) (log : List Evt) (n asks last : Nat) (rv lv x3 x4 : Value) : Prop where
  c : FC w1 wr Cb P hh hp t (R : Int) h p f rest log n asks last rv lv
  x : wr.heap[D]? = some (.cells (cliC h p f x3 x4 (n : Int) hh hp t (R : Int) (asks : Int) (last : Int)) 52 (0, 0))
  hold : HoldsC w1 x3 rest
  own : wr.ownsRow w1.heap.size 106 3 x4 log.length (evs log)
  lo : w1.heap.size ≤ D
theorem SC.start {w1 w3 : World} {Cb P : Nat} {hh hp : ByteArray} {t : Int} {R : Nat} {h p f : ByteArray} {l : List Flt} {rv v : Value} (k : FC w1 w3 Cb P hh hp t (R : Int) h p f l [] 0 0 0 rv (.slice none 0 0)) (hv : HoldsC w1 v l) :
    SC w1 (w3.alloc (.cells (cliC h p f v (.slice none 0 0) 0 hh hp t (R : Int) 0 0) 52)) Cb P w3.heap.size hh hp t R h p f l [] 0 0 0 rv (.slice none 0 0) v (.slice none 0 0) :=
  ⟨k.step (below_c8 _ _ _), heap_alloc_new w3 _, hv, World.ownsRow_nil _ _ _ _, k.k.bel.size⟩
theorem SC.below {w1 wr W : World} {Cb P D : Nat} {hh hp : ByteArray} {t : Int} {R : Nat} {h p f : ByteArray} {rest : List Flt} {log : List Evt} {n asks last : Nat} {rv lv x3 x4 : Value} (k : SC w1 wr Cb P D hh hp t R h p f rest log n asks last rv lv x3 x4) (hb : Below wr.heap.size wr W) : SC w1 W Cb P D hh hp t R h p f rest log n asks last rv lv x3 x4 :=
  ⟨k.c.step hb, (hb.block D (Array.getElem?_eq_some_iff.1 k.x).1).trans k.x, k.hold, own_keep k.own hb, k.lo⟩
/-- what the document's Get hands over lies in block q -/
structure TookC (w1 w2 W : World) (q : Nat) (C : Array Value) (x4 : Value) (log : List Evt) : Prop where
  blk : W.heap[q]? = some (.cells C 52 (0, 0))
  bel : Below w2.heap.size w2 W
  own : W.ownsRow w1.heap.size 106 3 x4 log.length (evs log)
theorem tookC_one {w1 w2 wc : World} {C : Array Value} {x4 : Value} {log : List Evt} (hb : Below w2.heap.size w2 wc) (ho : wc.ownsRow w1.heap.size 106 3 x4 log.length (evs log)) : TookC w1 w2 (wc.alloc (.cells C 52)) wc.heap.size C x4 log :=
  ⟨heap_alloc_new wc _, hb.alloc hb.size _, own_keep ho ((Below.refl _ _).alloc (Nat.le_refl _) _)⟩
theorem tookC_two {w1 w2 wc : World} {x4 : Value} {log : List Evt} {x0 x1 x2 x3 x4' x5 x6 x7 x8 x9 xa xb : Value} (hb : Below w2.heap.size w2 wc) (ho : wc.ownsRow w1.heap.size 106 3 x4 log.length (evs log)) (hz : wc.heap[w2.heap.size]? = some (.cells #[x0, x1, x2, x3, x4', x5, x6, x7, x8, x9, xa, xb] 52 (0, 0))) (y0 y1 y2 y3 y4 y5 y6 y7 y8 y9 ya yb : Value) :
    TookC w1 w2 (set12 wc w2.heap.size y0 y1 y2 y3 y4 y5 y6 y7 y8 y9 ya yb) w2.heap.size #[y0, y1, y2, y3, y4, y5, y6, y7, y8, y9, ya, yb] x4 log :=
  ⟨twelve_all hz _ _ _ _ _ _ _ _ _ _ _ _, twelve_below hb _ (Nat.le_refl _) _ _ _ _ _ _ _ _ _ _ _ _, set12_own ho hz _ _ _ _ _ _ _ _ _ _ _ _⟩
set_option maxRecDepth 100000 in
set_option maxHeartbeats 8000000 in
theorem fetchGets_walk (h p f : ByteArray) (v : Value) (hh hp : ByteArray) (t r : Int) (u : Value) (l : List Flt) (rs : List (Int × Int)) (w : World) (hE : EnvT w) (hv : CaseOk w h p f v l hh hp t r) (hu : RangesArg w u rs) :
    Calls Tryz.prog 6 #[.agg #[.string h, .string p, .string f, v, .string hh, .string hp, .int .i64 t, .int .i64 r], u] w fun e w' => e = .returned (.bool true) ∧ Below w.heap.size w w' := by
  have hb0 : Below w.heap.size w (w.alloc (.cells #[.string h, .string p, .string f, v, .string hh, .string hp, .int .i64 t, .int .i64 r] 41)) := below_c8 _ _ _
  have hx0 := heap_alloc_new w (.cells #[.string h, .string p, .string f, v, .string hh, .string hp, .int .i64 t, .int .i64 r] 41)
  have HX0 := Lib.hid hx0
  have HB0 := Lib.hid hb0
  have HXl : Hid (w.heap.size < (w.alloc (.cells #[.string h, .string p, .string f, v, .string hh, .string hp, .int .i64 t, .int .i64 r] 41)).heap.size) := Lib.hid (by simp)
  have HEw := Lib.hid hE
  obtain ⟨⟨hv1, hv2, hv3⟩, ⟨hm1, hm2, hm3, -, -⟩, -, -⟩ := hv
  have HOv := Lib.hid (fun W (hW : Below w.heap.size w W) => case_over h p f v l hh hp t r 500 30 W (by decide) (hv1.below hW) hv3)
  have HV1 := Lib.hid (fun W (hW : Below w.heap.size w W) => hv1.below hW)
  have HWF := Lib.hid hv2
  obtain ⟨va, vc, hvv, -⟩ := hv1.len
  subst hvv
  obtain ⟨⟨ua, uc, hvv, huc, hux⟩, hwu, hull⟩ := hu
  subst hvv
  unfold maxLen at hull
  have HCell : Hid (rs ≠ [] → ∃ b o, ua = some ⟨b, o, none⟩ ∧ ∀ k (hk : k < rs.length) W, Below w.heap.size w W → W.cell? ⟨b, o + k * 2, none⟩ = some (.int .i64 rs[k].1) ∧ W.cell? ⟨b, o + k * 2 + 1, none⟩ = some (.int .i64 rs[k].2)) := Lib.hid (fun hn => by
    obtain ⟨b, o, e1, e2, e3⟩ := hux hn
    exact ⟨b, o, e1, fun k hk W hW => ⟨(hW.cell (p := ⟨b, o + k * 2, none⟩) e2).trans (e3 k hk).1, (hW.cell (p := ⟨b, o + k * 2 + 1, none⟩) e2).trans (e3 k hk).2⟩⟩)
  clear hE hux hv1 hv2 hv3 hm1 hm2 hm3 hb0 hx0 hwu
  go_enter Tryz.func6, Tryz.ntmps6
  go_wp2_with fail
  refine (HOv.out _ HB0.out).mono ?_
  rintro e w1 ⟨rfl, hb1⟩
  have HB1 := Lib.hid (bstep HB0.out hb1)
  have HE1 := Lib.hid (HEw.out.below HB1.out)
  have HX1 := Lib.hid ((hb1.block _ HXl.out).trans HX0.out)
  clear hb1 HX0 HB0 HEw HXl HOv
  cases h1 : overX h p f l hh hp 500 30 with
  | true =>
    clear h1
    go_wp2_with fail
    refine (awake30 _ HE1.out).mono ?_
    rintro e w2 ⟨rfl, hb2⟩
    go_wp2_with fail
    go_ret
    exact ⟨rfl, bstep HB1.out hb2⟩
  | false =>
  by_cases h2 : (12 : Int) < (rs.length : Int)
  · have t1 : decide ((rs.length : Int) > 12) = true := decide_eq_true h2
    clear h1 h2
    go_wp2_with fail
    refine (awake30 _ HE1.out).mono ?_
    rintro e w2 ⟨rfl, hb2⟩
    go_wp2_with fail
    go_ret
    exact ⟨rfl, bstep HB1.out hb2⟩
  have t1 : decide ((rs.length : Int) > 12) = false := decide_eq_false h2
  obtain ⟨o1, o2, o3, o4⟩ := overX_ok h1
  obtain ⟨b1, b2, b3⟩ := overO_false h p f 500 o1
  obtain ⟨n0, m0⟩ := overC_ok o2
  have HFO := Lib.hid (flts_ok HWF.out m0)
  have HN : Hid (f.size ≤ 500 ∧ l.length ≤ 30 ∧ rs.length ≤ 12 ∧ h.size ≤ 300 ∧ p.size ≤ 300 ∧ hh.size ≤ 300 ∧ hp.size ≤ 300) := Lib.hid (by omega)
  have HXc : Hid (∀ W, Below w1.heap.size w1 W → W.heap[w.heap.size]? = some (.cells #[.string h, .string p, .string f, .slice va l.length vc, .string hh, .string hp, .int .i64 t, .int .i64 r] 41 (0, 0))) := Lib.hid (fun W hW => (hW.block _ (Array.getElem?_eq_some_iff.1 HX1.out).1).trans HX1.out)
  obtain ⟨⟨q0, q1, q2, q3, q4, q5, q6, q7⟩, -⟩ := eight_facts HX1.out
  have HVw := Lib.hid (HV1.out _ HB1.out)
  clear h1 h2 o1 o2 o3 o4 b1 b2 b3 n0 m0 HWF HV1
  by_cases hO1 : orgE h.data.toList p.data.toList ≠ 0
  · have HOw := Lib.hid (case_own_no h p f (.slice va l.length vc) l hh hp t r w1 HVw.out (by have := HN.out; omega) hO1)
    have HGv := Lib.hid (fun W (hW : Below w1.heap.size w1 W) => case_given_no h p f (.slice va l.length vc) l hh hp t r W (HVw.out.below hW) hO1 (by have := HN.out; omega) (by have := HN.out; omega))
    clear hO1
    go_wp2_with fail
    refine HOw.out.mono ?_
    rintro e w2 ⟨rfl, hb2⟩
    have HB2 := Lib.hid hb2
    clear hb2 q0 q1 q2 q3 q4 q5 q6 q7
    obtain ⟨⟨q0, q1, q2, q3, q4, q5, q6, q7⟩, -⟩ := eight_facts (HXc.out _ HB2.out)
    go_wp2_with fail
    refine (HGv.out _ HB2.out).mono ?_
    rintro e w3 ⟨rfl, hb3⟩
    have hb4 : Below w3.heap.size w3 (w3.alloc (.cells (cliC h p f (.slice va l.length vc) (.slice none 0 0) 0 hh hp t r 0 0) 52)) := below_c8 _ _ _
    have HB3 := Lib.hid (bstep (bstep HB2.out hb3) hb4)
    clear hb3 hb4
    go_wp2_with fail
    refine (awake30 _ (HE1.out.below HB3.out)).mono ?_
    rintro e w4 ⟨rfl, hb4⟩
    go_wp2_with fail
    go_ret
    exact ⟨rfl, bstep HB1.out (bstep HB3.out hb4)⟩
  have hO := Decidable.not_not.1 hO1
  clear hO1
  have hgv := fun W (hW : Below w1.heap.size w1 W) => case_given h p f (.slice va l.length vc) l hh hp t r W (HVw.out.below hW) hO (by have := HN.out; omega) (by have := HN.out; omega) (by have := HN.out; omega) (by have := HN.out; omega)
  by_cases hc1 : cliE hh.data.toList hp.data.toList t r ≠ 0
  · have HOw := Lib.hid (case_own_bad h p f (.slice va l.length vc) l hh hp t r w1 HVw.out (by have := HN.out; omega) hO hc1)
    have hz : (((cliE hh.data.toList hp.data.toList t r : Nat) : Int) == 0) = false := by rw [beq_eq_false_iff_ne]; omega
    rw [hz] at hgv
    have HGv := Lib.hid hgv
    clear hO hc1 hgv hz
    go_wp2_with fail
    refine HOw.out.mono ?_
    rintro e w2 ⟨⟨P, rfl⟩, hb2⟩
    have HB2 := Lib.hid hb2
    clear hb2 q0 q1 q2 q3 q4 q5 q6 q7
    obtain ⟨⟨q0, q1, q2, q3, q4, q5, q6, q7⟩, -⟩ := eight_facts (HXc.out _ HB2.out)
    go_wp2_with fail
    refine (HGv.out _ HB2.out).mono ?_
    rintro e w3 ⟨rfl, hb3⟩
    have hb4 : Below w3.heap.size w3 (w3.alloc (.cells (cliC h p f (.slice va l.length vc) (.slice none 0 0) 0 hh hp t r 0 0) 52)) := below_c8 _ _ _
    have HB3 := Lib.hid (bstep (bstep HB2.out hb3) hb4)
    clear hb3 hb4
    go_wp2_with fail
    refine (awake30 _ (HE1.out.below HB3.out)).mono ?_
    rintro e w4 ⟨rfl, hb4⟩
    go_wp2_with fail
    go_ret
    exact ⟨rfl, bstep HB1.out (bstep HB3.out hb4)⟩
  have hc := Decidable.not_not.1 hc1
  clear hc1
  have HOw := Lib.hid (case_own h p f (.slice va l.length vc) l hh hp t r w1 w1 (Below.refl _ _) HVw.out (by have := HN.out; omega) hO hc)
  have hz : (((cliE hh.data.toList hp.data.toList t r : Nat) : Int) == 0) = true := by rw [hc]; rfl
  rw [hz] at hgv
  have HGv := Lib.hid hgv
  obtain ⟨R, rfl, hR⟩ := cli_nat hc
  have HRO := Lib.hid (And.intro hR (cli_ok _ _ _ _ hc).1)
  clear hO hc hR hgv hz
  go_wp2_with fail
  refine HOw.out.mono ?_
  rintro e w2 ⟨Cb, P, rv0, rfl, hf2, hb2⟩
  have HF0 := Lib.hid hf2
  have HB2 := Lib.hid hb2
  clear hf2 hb2 HOw q0 q1 q2 q3 q4 q5 q6 q7
  obtain ⟨⟨q0, q1, q2, q3, q4, q5, q6, q7⟩, -⟩ := eight_facts (HXc.out _ HB2.out)
  go_wp2_with fail
  refine (HGv.out _ HB2.out).mono ?_
  rintro e w3 ⟨rfl, hb3⟩
  have HF3 := Lib.hid (HF0.out.step hb3)
  clear hb3 HF0 HB2 HGv q0 q1 q2 q3 q4 q5 q6 q7
  go_wp2_with fail
  have HSC := Lib.hid (SC.start HF3.out HVw.out)
  have HX6 : Hid (∀ W, Below w1.heap.size w1 W → W.cell? ⟨w.heap.size, 6, none⟩ = some (.int .i64 t)) := Lib.hid (fun W hW => (eight_facts (HXc.out W hW)).1.2.2.2.2.2.2.1)
  generalize w3.alloc (.cells (cliC h p f (.slice va l.length vc) (.slice none 0 0) 0 hh hp t (R : Int) 0 0) 52) = W0 at HSC ⊢
  generalize w3.heap.size = D at HSC ⊢
  clear HF3
  have HSd := Lib.hid (HSC.out.below (Below.refl _ W0).drew)
  clear HSC
  go_region_held3 (fun w' => w'.cell? ⟨w.heap.size, 6, none⟩ = some (.int .i64 t)) (exact HX6.out _ HSd.out.c.k.bel)
    (first
      | (go_at_call 13; refine HSd.out.c.total.mono ?_; rintro e w' ⟨rfl, hww⟩; obtain rfl := hww.symm; clear hww))
  all_goals
    go_wp2_with fail
    go_loopw [10] (fun i wr => ∃ k : Nat, k ≤ rs.length ∧ i = .int .i64 k ∧ ∃ (qs : List ByteArray) (last : Nat) (rv lv x3 x4 : Value), qs.length ≤ 9 * k ∧ Hid (SC w1 wr Cb P D hh hp t R h p f (l.drop qs.length) (logK h p f l qs) (harmsK (logK h p f l qs)) qs.length last rv lv x3 x4)) (fun i _ => rs.length - (intOf i).toNat)
    case atStart => exact ⟨0, Nat.zero_le _, rfl, [], 0, rv0, _, _, _, Nat.zero_le _, HSd⟩
    case round =>
      obtain ⟨k, hk, rfl, qs, last, rv, lv, x3, x4, hq9, HSr⟩ := hrel
      clear HSd
      obtain ⟨n1, n2, n3, n4, n5, n6, n7⟩ := HN.out
      by_cases hlt : k < rs.length
      · obtain ⟨cb, co, rfl, hcell⟩ := HCell.out (fun e => by rw [e] at hlt; exact absurd hlt (Nat.not_lt_zero _))
        obtain ⟨a, ha⟩ : ∃ a, rs[k].1 = a := ⟨_, rfl⟩
        obtain ⟨b, hb⟩ : ∃ b, rs[k].2 = b := ⟨_, rfl⟩
        have HCk : Hid (∀ W, Below w1.heap.size w1 W → W.cell? ⟨cb, co + k * 2, none⟩ = some (.int .i64 a) ∧ W.cell? ⟨cb, co + k * 2 + 1, none⟩ = some (.int .i64 b)) := Lib.hid (fun W hW => by
          have h1 := hcell k hlt W (bstep HB1.out hW)
          rw [ha, hb] at h1
          exact h1)
        clear hcell ha hb
        obtain ⟨B, E, qs2, last2, hq2, hcg, hdg⟩ := get_both w1 wr Cb P hh hp t R h p f l qs last rv lv x3 x4 a b HE1.out HSr.out.c HRO.out.1 (by omega) HFO.out (by omega) (by omega) (by omega) (by omega) (by omega) (by omega) HRO.out.2 HSr.out.hold
        unfold CGet at hcg
        unfold DGet at hdg
        have hsr := HSr.out
        clear HSr
        obtain ⟨M, hM⟩ : ∃ M, harmsK (logK h p f l qs) = M := ⟨_, rfl⟩
        obtain ⟨Lg, hL⟩ : ∃ L, logK h p f l qs = L := ⟨_, rfl⟩
        obtain ⟨Rl, hRl⟩ : ∃ R, l.drop qs.length = R := ⟨_, rfl⟩
        obtain ⟨N, hN⟩ : ∃ N, qs.length = N := ⟨_, rfl⟩
        obtain ⟨M2, hM2⟩ : ∃ M, harmsK (logK h p f l qs2) = M := ⟨_, rfl⟩
        obtain ⟨L2, hL2⟩ : ∃ L, logK h p f l qs2 = L := ⟨_, rfl⟩
        obtain ⟨R2, hR2⟩ : ∃ R, l.drop qs2.length = R := ⟨_, rfl⟩
        obtain ⟨N2, hN2⟩ : ∃ N, qs2.length = N := ⟨_, rfl⟩
        rw [hM, hL, hRl, hN] at hsr
        rw [hM, hL, hN, hM2, hL2, hR2, hN2] at hdg
        rw [hM2, hL2, hR2, hN2] at hcg
        have HQ := Lib.hid (And.intro hR2 (And.intro hL2 (And.intro hM2 (And.intro hN2 (show qs2.length ≤ 9 * (k + 1) by omega)))))
        have hl2 : L2.length ≤ 1000 := by rw [← hL2, logK_len]; omega
        have HL2l := Lib.hid hl2
        clear hM hL hRl hN hM2 hL2 hR2 hN2 hq2 hq9 hl2
        obtain ⟨xa, xc, hxx, -⟩ := hsr.hold.len
        subst hxx
        obtain ⟨ya, yc, hxx⟩ := slice_of_own hsr.own
        subst hxx
        have HSr := Lib.hid hsr
        have HCg := Lib.hid hcg
        have HDg := Lib.hid hdg
        clear hsr hcg hdg n1 n2 n4 n5 n6 n7
        obtain ⟨q0, q1⟩ := HCk.out _ HSr.out.c.k.bel
        have tw2 : IntKind.i64.wrap ((k : Int) + 1) = (k : Int) + 1 := by rw [IntKind.wrap_i64]; omega
        go_wp2_with fail
        refine HCg.out.mono ?_
        rintro e wg ⟨rfl, rv2, lv2, hf9, ht9⟩
        have HXg := Lib.hid (HSr.out.c.beside HSr.out.x (by decide) (by decide) (by decide) ht9)
        have HOg := Lib.hid (HSr.out.c.row HSr.out.own ht9)
        have HFg := Lib.hid hf9
        have HHo := Lib.hid HSr.out.hold
        have HLo := Lib.hid HSr.out.lo
        clear hf9 ht9 q0 q1 HCg HSr
        have HSk : Hid (∀ W, Below wg.heap.size wg W → (W.cell? ⟨D, 0, none⟩ = some (.string h) ∧ W.cell? ⟨D, 1, none⟩ = some (.string p) ∧ W.cell? ⟨D, 2, none⟩ = some (.string f) ∧ W.cell? ⟨D, 3, none⟩ = some (.slice xa Rl.length xc) ∧ W.cell? ⟨D, 4, none⟩ = some (.slice ya Lg.length yc) ∧ W.cell? ⟨D, 5, none⟩ = some (.int .i64 (M : Int))) ∧ W.cell? ⟨D, 6, none⟩ = some (.string hh) ∧ W.cell? ⟨D, 7, none⟩ = some (.string hp) ∧ W.cell? ⟨D, 8, none⟩ = some (.int .i64 t) ∧ W.cell? ⟨D, 9, none⟩ = some (.int .i64 (R : Int)) ∧ W.cell? ⟨D, 10, none⟩ = some (.int .i64 (N : Int)) ∧ W.cell? ⟨D, 11, none⟩ = some (.int .i64 (last : Int)) ∧ W.cell? ⟨cb, co + k * 2, none⟩ = some (.int .i64 a) ∧ W.cell? ⟨cb, co + k * 2 + 1, none⟩ = some (.int .i64 b)) := Lib.hid (fun W hW => by
          obtain ⟨y0, y6, y7, y8, y9, ya, yb⟩ := twelve_facts ((hW.block D (Array.getElem?_eq_some_iff.1 HXg.out).1).trans HXg.out)
          obtain ⟨q0, q1⟩ := HCk.out W (bstep HFg.out.k.bel hW)
          exact ⟨y0, y6, y7, y8, y9, ya, yb, q0, q1⟩)
        have HD0 : Hid (Below wg.heap.size wg wg.drew) := Lib.hid (Below.refl _ _).drew
        have HA0 : Hid (Below wg.heap.size wg (wg.alloc (.cells (cliC ⟨#[]⟩ ⟨#[]⟩ ⟨#[]⟩ (.slice none 0 0) (.slice none 0 0) 0 ⟨#[]⟩ ⟨#[]⟩ 0 0 0 0) 52)).drew) := Lib.hid (below_c8 _ _ _).drew
        have HRP1 := Lib.hid (HDg.out wg.drew (bstep HFg.out.k.bel HD0.out) (own_keep HOg.out HD0.out))
        have HRP2 := Lib.hid (HDg.out _ (bstep HFg.out.k.bel HA0.out) (own_keep HOg.out HA0.out))
        clear HDg
        go_wp2_with fail
        go_region_held3 (fun w' => (w'.cell? ⟨D, 0, none⟩ = some (.string h) ∧ w'.cell? ⟨D, 1, none⟩ = some (.string p) ∧ w'.cell? ⟨D, 2, none⟩ = some (.string f) ∧ w'.cell? ⟨D, 3, none⟩ = some (.slice xa Rl.length xc) ∧ w'.cell? ⟨D, 4, none⟩ = some (.slice ya Lg.length yc) ∧ w'.cell? ⟨D, 5, none⟩ = some (.int .i64 (M : Int))) ∧ w'.cell? ⟨D, 6, none⟩ = some (.string hh) ∧ w'.cell? ⟨D, 7, none⟩ = some (.string hp) ∧ w'.cell? ⟨D, 8, none⟩ = some (.int .i64 t) ∧ w'.cell? ⟨D, 9, none⟩ = some (.int .i64 (R : Int)) ∧ w'.cell? ⟨D, 10, none⟩ = some (.int .i64 (N : Int)) ∧ w'.cell? ⟨D, 11, none⟩ = some (.int .i64 (last : Int)) ∧ w'.cell? ⟨cb, co + k * 2, none⟩ = some (.int .i64 a) ∧ w'.cell? ⟨cb, co + k * 2 + 1, none⟩ = some (.int .i64 b)) (first | with_reducible exact HSk.out _ HD0.out | with_reducible exact HSk.out _ HA0.out | with_reducible exact HSk.out _ HA1.out | with_reducible exact HSk.out _ (HA1.out.alloc HA1.out.size _) | with_reducible exact HSk.out _ (twelve_below HA1.out _ (Nat.le_refl _) _ _ _ _ _ _ _ _ _ _ _ _) | with_reducible exact HSk.out _ (twelve_below (HA1.out.alloc HA1.out.size _) _ HA1.out.size _ _ _ _ _ _ _ _ _ _ _ _))
          (first
            | (go_at_call 19; (first | (with_reducible refine HRP1.out.mono ?_) | (with_reducible refine HRP2.out.mono ?_)); rintro e wc ⟨x5, x6, rfl, hho, how, hbc⟩; obtain ⟨ua2, uc2, hxx, -⟩ := hho.len; subst hxx; obtain ⟨oa2, oc2, hxx⟩ := slice_of_own how; subst hxx; have HHO := Lib.hid hho; have HOW := Lib.hid how; (first | (have HA1 : Hid (Below wg.heap.size wg wc) := Lib.hid (bstep HD0.out hbc)) | (have HA1 : Hid (Below wg.heap.size wg wc) := Lib.hid (bstep HA0.out hbc); have HZ := Lib.hid ((hbc.block wg.heap.size (by simp)).trans (heap_alloc_new wg _)); obtain ⟨⟨z0, z1, z2, z3, z4, z5⟩, z6, z7, z8, z9, z10, z11⟩ := twelve_facts HZ.out; obtain ⟨⟨d0, d1, d2, d3, d4, d5⟩, d6, d7, d8, d9, d10, d11⟩ := twelve_free HZ.out)); clear hbc hho how))
        all_goals
          first
            | (have H7 : Hid (TookC w1 wg ((((((((((((wc.setCell ⟨wg.heap.size, 0, none⟩ (.string h)).setCell ⟨wg.heap.size, 1, none⟩ (.string p)).setCell ⟨wg.heap.size, 2, none⟩ (.string f)).setCell ⟨wg.heap.size, 3, none⟩ (.slice ua2 R2.length uc2)).setCell ⟨wg.heap.size, 4, none⟩ (.slice oa2 L2.length oc2)).setCell ⟨wg.heap.size, 5, none⟩ (.int .i64 (M2 : Int))).setCell ⟨wg.heap.size, 6, none⟩ (.string hh)).setCell ⟨wg.heap.size, 7, none⟩ (.string hp)).setCell ⟨wg.heap.size, 8, none⟩ (.int .i64 t)).setCell ⟨wg.heap.size, 9, none⟩ (.int .i64 (R : Int))).setCell ⟨wg.heap.size, 10, none⟩ (.int .i64 (N2 : Int))).setCell ⟨wg.heap.size, 11, none⟩ (.int .i64 (last2 : Int))) wg.heap.size (cliC h p f (.slice ua2 R2.length uc2) (.slice oa2 L2.length oc2) (M2 : Int) hh hp t (R : Int) (N2 : Int) (last2 : Int)) (.slice oa2 L2.length oc2) L2) := Lib.hid (tookC_two HA1.out HOW.out HZ.out _ _ _ _ _ _ _ _ _ _ _ _)
               clear HZ z0 z1 z2 z3 z4 z5 z6 z7 z8 z9 z10 z11 d0 d1 d2 d3 d4 d5 d6 d7 d8 d9 d10 d11
               generalize ((((((((((((wc.setCell ⟨wg.heap.size, 0, none⟩ (.string h)).setCell ⟨wg.heap.size, 1, none⟩ (.string p)).setCell ⟨wg.heap.size, 2, none⟩ (.string f)).setCell ⟨wg.heap.size, 3, none⟩ (.slice ua2 R2.length uc2)).setCell ⟨wg.heap.size, 4, none⟩ (.slice oa2 L2.length oc2)).setCell ⟨wg.heap.size, 5, none⟩ (.int .i64 (M2 : Int))).setCell ⟨wg.heap.size, 6, none⟩ (.string hh)).setCell ⟨wg.heap.size, 7, none⟩ (.string hp)).setCell ⟨wg.heap.size, 8, none⟩ (.int .i64 t)).setCell ⟨wg.heap.size, 9, none⟩ (.int .i64 (R : Int))).setCell ⟨wg.heap.size, 10, none⟩ (.int .i64 (N2 : Int))).setCell ⟨wg.heap.size, 11, none⟩ (.int .i64 (last2 : Int))) = W7 at H7 ⊢
               generalize wg.heap.size = q at H7 ⊢)
            | (have H7 : Hid (TookC w1 wg (wc.alloc (.cells (cliC h p f (.slice ua2 R2.length uc2) (.slice oa2 L2.length oc2) (M2 : Int) hh hp t (R : Int) (N2 : Int) (last2 : Int)) 52)) wc.heap.size (cliC h p f (.slice ua2 R2.length uc2) (.slice oa2 L2.length oc2) (M2 : Int) hh hp t (R : Int) (N2 : Int) (last2 : Int)) (.slice oa2 L2.length oc2) L2) := Lib.hid (tookC_one HA1.out HOW.out)
               generalize wc.alloc (.cells (cliC h p f (.slice ua2 R2.length uc2) (.slice oa2 L2.length oc2) (M2 : Int) hh hp t (R : Int) (N2 : Int) (last2 : Int)) 52) = W7 at H7 ⊢
               generalize wc.heap.size = q at H7 ⊢)
          clear HA1 HRP1 HRP2 HSk HD0 HA0 HOW HOg HHo
          have hX7 := (H7.out.bel.block D (Array.getElem?_eq_some_iff.1 HXg.out).1).trans HXg.out
          obtain ⟨⟨z0, z1, z2, z3, z4, z5⟩, z6, z7, z8, z9, z10, z11⟩ := twelve_facts H7.out.blk
          obtain ⟨⟨x0, x1, x2, x3, x4, x5⟩, x6, x7, x8, x9, x10, x11⟩ := twelve_facts hX7
          obtain ⟨⟨d0, d1, d2, d3, d4, d5⟩, d6, d7, d8, d9, d10, d11⟩ := twelve_free hX7
          have HS9 : Hid (SC w1 ((((((((((((W7.setCell ⟨D, 0, none⟩ (.string h)).setCell ⟨D, 1, none⟩ (.string p)).setCell ⟨D, 2, none⟩ (.string f)).setCell ⟨D, 3, none⟩ (.slice ua2 R2.length uc2)).setCell ⟨D, 4, none⟩ (.slice oa2 L2.length oc2)).setCell ⟨D, 5, none⟩ (.int .i64 (M2 : Int))).setCell ⟨D, 6, none⟩ (.string hh)).setCell ⟨D, 7, none⟩ (.string hp)).setCell ⟨D, 8, none⟩ (.int .i64 t)).setCell ⟨D, 9, none⟩ (.int .i64 (R : Int))).setCell ⟨D, 10, none⟩ (.int .i64 (N2 : Int))).setCell ⟨D, 11, none⟩ (.int .i64 (last2 : Int))) Cb P D hh hp t R h p f R2 L2 M2 N2 last2 rv2 lv2 (.slice ua2 R2.length uc2) (.slice oa2 L2.length oc2)) := Lib.hid ⟨(HFg.out.step H7.out.bel).far hX7 (by decide) (by decide) (by decide) (by decide) HLo.out (twelve_touch W7 D _ _ _ _ _ _ _ _ _ _ _ _), twelve_all hX7 _ _ _ _ _ _ _ _ _ _ _ _, HHO.out, set12_own H7.out.own hX7 _ _ _ _ _ _ _ _ _ _ _ _, HLo.out⟩
          clear hX7
          go_wp2_with fail
          clear z0 z1 z2 z3 z4 z5 z6 z7 z8 z9 z10 z11 x0 x1 x2 x3 x4 x5 x6 x7 x8 x9 x10 x11 d0 d1 d2 d3 d4 d5 d6 d7 d8 d9 d10 d11 H7 HXg HFg
          generalize ((((((((((((W7.setCell ⟨D, 0, none⟩ (.string h)).setCell ⟨D, 1, none⟩ (.string p)).setCell ⟨D, 2, none⟩ (.string f)).setCell ⟨D, 3, none⟩ (.slice ua2 R2.length uc2)).setCell ⟨D, 4, none⟩ (.slice oa2 L2.length oc2)).setCell ⟨D, 5, none⟩ (.int .i64 (M2 : Int))).setCell ⟨D, 6, none⟩ (.string hh)).setCell ⟨D, 7, none⟩ (.string hp)).setCell ⟨D, 8, none⟩ (.int .i64 t)).setCell ⟨D, 9, none⟩ (.int .i64 (R : Int))).setCell ⟨D, 10, none⟩ (.int .i64 (N2 : Int))).setCell ⟨D, 11, none⟩ (.int .i64 (last2 : Int))) = W9 at HS9 ⊢
          have HSn := Lib.hid (HS9.out.below (Below.refl _ W9).drew)
          have HS3 : Hid (W9.drew.cell? ⟨D, 3, none⟩ = some (.slice ua2 R2.length uc2) ∧ W9.drew.cell? ⟨D, 10, none⟩ = some (.int .i64 (N2 : Int)) ∧ W9.drew.cell? ⟨D, 11, none⟩ = some (.int .i64 (last2 : Int))) := Lib.hid (by
            obtain ⟨⟨-, -, -, y3, -, -⟩, -, -, -, -, ya, yb⟩ := twelve_facts HSn.out.x
            exact ⟨y3, ya, yb⟩)
          go_region_held3 (fun w' => w'.cell? ⟨D, 3, none⟩ = some (.slice ua2 R2.length uc2) ∧ w'.cell? ⟨D, 10, none⟩ = some (.int .i64 (N2 : Int)) ∧ w'.cell? ⟨D, 11, none⟩ = some (.int .i64 (last2 : Int))) (with_reducible exact HS3.out)
            (first
              | (go_at_call 12; refine HSn.out.c.asked.mono ?_; rintro e w' ⟨rfl, hww⟩; obtain rfl := hww.symm; clear hww)
              | (go_at_call 14; refine HSn.out.c.lasts.mono ?_; rintro e w' ⟨rfl, hww⟩; obtain rfl := hww.symm; clear hww)
              | (go_at_call 20; refine (link_left HSn.out.c.k.a).mono ?_; rintro e w' ⟨rfl, hww⟩; obtain rfl := hww.symm; clear hww))
          all_goals
            clear HS9 HS3
            go_wp2_with fail
            go_roundw
            case rel =>
              refine ⟨k + 1, by omega, by go_num, qs2, last2, rv2, lv2, .slice ua2 R2.length uc2, .slice oa2 L2.length oc2, HQ.out.2.2.2.2, ?_⟩
              rw [HQ.out.2.2.1, HQ.out.2.1, HQ.out.1, HQ.out.2.2.2.1]
              exact HSn
            case measure => simp [intOf]; omega
      · obtain rfl : k = rs.length := by omega
        have hl2 : (logK h p f l qs).length ≤ 1000 := by rw [logK_len]; omega
        have hsr := HSr.out
        clear HSr
        obtain ⟨M, hM⟩ : ∃ M, harmsK (logK h p f l qs) = M := ⟨_, rfl⟩
        obtain ⟨Lg, hL⟩ : ∃ L, logK h p f l qs = L := ⟨_, rfl⟩
        obtain ⟨Rl, hRl⟩ : ∃ R, l.drop qs.length = R := ⟨_, rfl⟩
        obtain ⟨N, hN⟩ : ∃ N, qs.length = N := ⟨_, rfl⟩
        rw [hM, hL, hRl, hN] at hsr
        rw [hL] at hl2
        clear hM hL hRl hN hq9 n1 n2 n4 n5 n6 n7
        obtain ⟨ya, yc, hxx⟩ := slice_of_own hsr.own
        subst hxx
        have HSr := Lib.hid hsr
        have HLl := Lib.hid hl2
        have HD0 : Hid (Below wr.heap.size wr wr.drew) := Lib.hid (Below.refl _ _).drew
        have HSd := Lib.hid (HSr.out.below HD0.out)
        have HS4 : Hid (∀ W, Below wr.heap.size wr W → W.cell? ⟨D, 4, none⟩ = some (.slice ya Lg.length yc)) := Lib.hid (fun W hW => (twelve_facts ((hW.block D (Array.getElem?_eq_some_iff.1 HSr.out.x).1).trans HSr.out.x)).1.2.2.2.2.1)
        clear hsr hl2
        go_wp2_with fail
        go_region_held3 (fun w' => w'.cell? ⟨D, 4, none⟩ = some (.slice ya Lg.length yc)) (first | with_reducible exact HS4.out _ HD0.out | with_reducible exact HS4.out _ HL3.out | with_reducible exact HS4.out _ HL4.out | with_reducible exact HS4.out _ HL5.out | with_reducible exact HS4.out _ HL6.out)
          (first
            | (go_at_call 23; refine (link_log HSd.out.c.k.a (by have := HLl.out; omega)).mono ?_; rintro e wk ⟨a7, c7, rfl, ho7, hb7⟩; have HL3 : Hid (Below wr.heap.size wr wk) := Lib.hid (bstep HD0.out hb7); have HO7 := Lib.hid ho7; clear ho7 hb7)
            | (go_at_call 22; refine (law29_back _ _ _ _ HO7.out (by have := HLl.out; omega)).mono ?_; rintro e wl ⟨a8, c8, rfl, ho8, hb8⟩; have HL4 : Hid (Below wr.heap.size wr wl) := Lib.hid (bstep HL3.out hb8); have HO8 := Lib.hid ho8; clear ho8 hb8)
            | (go_at_call 21; refine (same29 _ _ _ _ _ _ HO8.out (own_keep HSr.out.own HL4.out) (by have := HLl.out; omega)).mono ?_; rintro e wm ⟨rfl, hb9⟩; have HL5 : Hid (Below wr.heap.size wr wm) := Lib.hid (bstep HL4.out hb9); clear hb9)
            | (go_at_call 7; refine (awake30 _ (HE1.out.below (bstep HSr.out.c.k.bel HL5.out))).mono ?_; rintro e wn ⟨rfl, hb9⟩; have HL6 : Hid (Below wr.heap.size wr wn) := Lib.hid (bstep HL5.out hb9); clear hb9))
        all_goals
          go_wp2_with fail
          go_ret
          exact ⟨rfl, bstep HB1.out (bstep HSr.out.c.k.bel HL6.out)⟩
end Go.Proofs.YtbdmmgmcbecolaaGreatDoor
namespace Go.Proofs.YtbdmmgmcbecolaaGreatDoor
open Go.RowKit
theorem fetchGets_go (h p f : ByteArray) (v : Value) (hh hp : ByteArray) (t r : Int) (u : Value) (rs : List (Int × Int)) (W : World) (hc : ∃ l, CaseOk W h p f v l hh hp t r) (hu : RangesArg W u rs) (hL : laidMetH Tryz.prog Rows.fetchGetsRow.laid W) (hsh : W.ShapedOpen Tryz.prog) :
    Calls Tryz.prog 6 #[.agg #[.string h, .string p, .string f, v, .string hh, .string hp, .int .i64 t, .int .i64 r], u] W fun e W' => e = .returned (.bool true) ∧ Below W.heap.size W W' := by
  obtain ⟨l, hc⟩ := hc
  exact fetchGets_walk h p f v hh hp t r u l rs W (env30 hL hsh) hc hu
end Go.Proofs.YtbdmmgmcbecolaaGreatDoor
