/- What Get of a client fetches: its rounds. The small example of the laws of layer 30. The small example of the laws of layer 30: the walk. What Judge of the document returns. (Printed by wip/genfetchref.py out of the text on judge of package fetch.) What the listed variables give. What the listed variables of the rows of layer 30 give, the type of errors among them; a world that meets them. What an argument that is an array of two slices of the document's faults reads as. An argument that is a case of a client and its link, opened. Cases of a client and its link: Over, Own. The document's client: Check; a case's client that may be; one that may not. The document's client of a case: Given. -/
import Derived.Test.YtbdmmgmcbecolaaGreatDoorPu15
import Derived.Test.YtbdmmgmcbecolaaGreatDoorRows
import Derived.OpenShut
import Derived.MakeChecks
import Derived.Stop.LaidErr
import Derived.PinnedBridge
import Derived.Lib.LaidU8T
import Derived.Lib.SmallJoins
import Derived.LaidHandle
import Derived.Lay
import Derived.WideShapes
set_option linter.unusedVariables false
set_option linter.unusedSimpArgs false
namespace Go.Proofs.YtbdmmgmcbecolaaGreatDoor
open Go.RowKit
theorem freq_len (p h : List UInt8) (a b : Int) (he : aErr p h a b = 0) (ha : a ≤ 9223372036854775807) (hb : b ≤ 9223372036854775807) : (reqL p h a b).length ≤ 1000 := by
  have hg := lines_good p h a b he ha hb
  have h1 := (hg (line1 p) (by simp)).2.2
  have h2 := (hg (line2 h) (by simp)).2.2
  have h3 := (hg (line3 a b) (by simp)).2.2
  unfold reqL body body body body
  simp only [List.length_append, List.length_cons, List.length_nil]
  omega
/-- a client behind k rounds of one request -/
structure GL (w0 w wr : World) (Cb P X : Nat) (hh hp : ByteArray) (t r a b : Int) (h p f : ByteArray) (l : List Flt) (qs : List ByteArray) (S : ByteArray) (lv : Value) (k last : Nat) (rv' lv' : Value) : Prop where
  f : FC w0 wr Cb P hh hp t r h p f (l.drop (qs.length + k)) (lgN h p f l qs S k) (harmsK (lgN h p f l qs S k)) (qs.length + k) last rv' lv'
  x : wr.heap[X]? = some (.cells #[.int .i64 a, .int .i64 b] 28 (0, 0))
  t : Touch (FS P Cb lv) w wr
  o : ∀ g, lv'.ownBlock = some g → lv.ownBlock = some g ∨ w.heap.size ≤ g
def GetPost (w0 w : World) (Cb P : Nat) (hh hp : ByteArray) (t : Int) (R : Nat) (h p f : ByteArray) (l : List Flt) (qs : List ByteArray) (S : ByteArray) (a b : Int) (lv : Value) (e : Ending) (w' : World) : Prop :=
  e = .returned (.tuple #[.string (bs (runB (errN h p f l S qs.length a b t) R (bodN h p f l S qs.length a b t))), .int .i64 (runE (errN h p f l S qs.length a b t) R : Nat)]) ∧
  ∃ rv' lv', FC w0 w' Cb P hh hp t (R : Int) h p f (l.drop (qs.length + runA (errN h p f l S qs.length a b t) R)) (lgN h p f l qs S (runA (errN h p f l S qs.length a b t) R)) (harmsK (lgN h p f l qs S (runA (errN h p f l S qs.length a b t) R))) (qs.length + runA (errN h p f l S qs.length a b t) R) (runL (errN h p f l S qs.length a b t) R) rv' lv' ∧ Touch (FS P Cb lv) w w' ∧ ∀ g, lv'.ownBlock = some g → lv.ownBlock = some g ∨ w.heap.size ≤ g
theorem getErr_ok (a b t : Int) (h : getErr a b t = 0) : rErr a b = 0 ∧ b < t ∧ rLen a b ≤ 65536 := by
  unfold getErr at h
  split at h
  · exact absurd h (by decide)
  · rename_i hq
    split at h
    · exact absurd h (by decide)
    · rename_i hl
      exact ⟨Classical.byContradiction fun e => hq (.inl e), Int.not_le.1 fun e => hq (.inr e), Int.not_lt.1 hl⟩
theorem GL.back {w0 w wr W : World} {Cb P X : Nat} {hh hp : ByteArray} {t r a b : Int} {h p f : ByteArray} {l : List Flt} {qs : List ByteArray} {S : ByteArray} {lv : Value} {k last : Nat} {rv' lv' : Value} (g : GL w0 w wr Cb P X hh hp t r a b h p f l qs S lv k last rv' lv') (hW : Touch (FS P Cb lv') wr W) : Touch (FS P Cb lv) w W :=
  g.t.trans hW (fun q hq => by
    rcases hq with (rfl | hq) | rfl
    · exact .inl (.inl (.inl rfl))
    · rcases g.o q hq with h1 | h1
      · exact .inl (.inl (.inr h1))
      · exact .inr h1
    · exact .inl (.inr rfl))
theorem gsx_of {w : World} {X Cb P : Nat} {hh hp : ByteArray} {t r a b : Int} {x5 x6 : Value} (hX : w.heap[X]? = some (.cells #[.int .i64 a, .int .i64 b] 28 (0, 0))) (hC : w.heap[Cb]? = some (.cells #[.pointer (some ⟨P, 0, none⟩), .string hh, .string hp, .int .i64 t, .int .i64 r, x5, x6] 87 (0, 0))) : w.cell? ⟨X, 0, none⟩ = some (.int .i64 a) ∧ w.cell? ⟨X, 1, none⟩ = some (.int .i64 b) ∧ w.cell? ⟨Cb, 0, none⟩ = some (.pointer (some ⟨P, 0, none⟩)) ∧ w.cell? ⟨Cb, 3, none⟩ = some (.int .i64 t) := by
  obtain ⟨⟨x0, x1⟩, c0, -, -, c3, -⟩ := gs_of hX hC
  exact ⟨x0, x1, c0, c3⟩
theorem x_ne {w : World} {X Cb : Nat} {A B : Array Value} (hX : w.heap[X]? = some (.cells A 28 (0, 0))) (hC : w.heap[Cb]? = some (.cells B 87 (0, 0))) : X ≠ Cb := fun e => by
  rw [e, hC] at hX
  simp only [Option.some.injEq, Obj.cells.injEq] at hX
  exact absurd hX.2.1 (by decide)
theorem touch_cb {w w' : World} {P Cb : Nat} {lv : Value} {o : Nat} (y : Value) (h : Touch (FS P Cb lv) w w') : Touch (FS P Cb lv) w (w'.setCell ⟨Cb, o, none⟩ y) := touch_set _ h (.inl (.inr rfl))
set_option maxRecDepth 100000 in
set_option maxHeartbeats 8000000 in
theorem get_good (w0 w : World) (Cb P : Nat) (hh hp : ByteArray) (t : Int) (R : Nat) (h p f : ByteArray) (l : List Flt) (qs : List ByteArray) (S : ByteArray) (a b : Int) (last : Nat) (rv lv : Value) (hE : EnvT w0)
    (k : FC w0 w Cb P hh hp t (R : Int) h p f (l.drop qs.length) (logK h p f l qs) (harmsK (logK h p f l qs)) qs.length last rv lv)
    (hR : R ≤ 8) (hf : f.size ≤ 2000) (hx : ∀ x ∈ l, FltOk x) (hl : l.length ≤ 1000) (hq : qs.length ≤ 1000) (hb : getErr a b t = 0) (hO : orgE hh.data.toList hp.data.toList = 0) (hS : bs (aPrint hp.data.toList hh.data.toList a b) = S) :
    Calls Tryz.prog 10 #[.pointer (some ⟨Cb, 0, none⟩), .agg #[.int .i64 a, .int .i64 b]] w (GetPost w0 w Cb P hh hp t R h p f l qs S a b lv) := by
  obtain ⟨g1, g2, g3⟩ := getErr_ok a b t hb
  obtain ⟨r1, r2, r3⟩ := rErr_ok a b g1
  have haE : aErr hp.data.toList hh.data.toList a b = 0 := by
    unfold orgE at hO
    unfold aErr
    split at hO
    · exact absurd hO (by decide)
    · rename_i hq; rw [if_neg hq]; exact g1
  have hSz : S.size ≤ 1000 := by
    rw [← hS, bs_size]
    unfold aPrint
    rw [if_pos haE]
    exact freq_len _ _ a b haE (by omega) (by omega)
  have HC := Lib.hid (fun w => ranges_check a b w)
  have HL := Lib.hid (fun w => ranges_length a b w)
  have HP := Lib.hid (fun w hE => asking_print hp hh a b w hE (by omega) (by omega) (by omega) (by omega))
  rw [hS, haE] at HP
  rw [g1] at HC
  have HG := Lib.hid (k.range a b)
  have HB0 := Lib.hid (below_agg2 w (.int .i64 a) (.int .i64 b) 28)
  have HK0 := Lib.hid (k.step HB0.out)
  have HX0 := Lib.hid (heap_alloc_new w (.cells #[.int .i64 a, .int .i64 b] 28))
  have HEn := Lib.hid hE
  have HFx := Lib.hid hx
  have HN := Lib.hid (And.intro hf (And.intro hl (And.intro hq hSz)))
  have t1 : decide (b ≥ t) = false := decide_eq_false (by omega)
  have t2 : decide (rLen a b > 65536) = false := decide_eq_false (by omega)
  generalize rLen a b = M at HL t2
  clear k hE hx hf hl hq hb hO hS g1 g2 g3 r1 r2 r3 haE hSz
  have HD : Hid (Below (w.alloc (.cells #[.int .i64 a, .int .i64 b] 28)).heap.size (w.alloc (.cells #[.int .i64 a, .int .i64 b] 28)) (w.alloc (.cells #[.int .i64 a, .int .i64 b] 28)).drew) := Lib.hid (Below.refl _ _).drew
  obtain ⟨⟨x0, x1⟩, c0, c1, c2, c3, c4⟩ := HG.out _ (Below.refl _ _)
  go_enter Tryz.func10, Tryz.ntmps10
  go_wp2_with fail
  generalize w.alloc (.cells #[.int .i64 a, .int .i64 b] 28) = W0 at HG HB0 HK0 HX0 HD x0 x1 c0 c1 c2 c3 c4 ⊢
  generalize w.heap.size = X at HG HX0 x0 x1 ⊢
  go_region_held3 (fun w' => w'.cell? ⟨X, 0, none⟩ = some (.int .i64 a) ∧ w'.cell? ⟨X, 1, none⟩ = some (.int .i64 b) ∧ w'.cell? ⟨Cb, 3, none⟩ = some (.int .i64 t)) (first | exact ⟨(HG.out _ HD.out).1.1, (HG.out _ HD.out).1.2, (HG.out _ HD.out).2.2.2.2.1⟩ | exact ⟨(HG.out _ HX1.out).1.1, (HG.out _ HX1.out).1.2, (HG.out _ HX1.out).2.2.2.2.1⟩)
    (first
      | (go_at_call 32; refine (HC.out _).mono ?_; rintro e wa ⟨rfl, hba⟩; have HX1 : Hid (Below W0.heap.size W0 wa) := Lib.hid (bstep HD.out hba); clear hba))
  all_goals
    clear x0 x1 c0 c1 c2 c3 c4
    obtain ⟨⟨x0, x1⟩, -⟩ := HG.out _ HX1.out
    go_wp2_with fail
    refine (HL.out _).mono ?_
    rintro e wb ⟨rfl, hbb⟩
    have HX2 := Lib.hid (bstep HX1.out hbb)
    clear hbb x0 x1
    obtain ⟨⟨x0, x1⟩, c0, c1, c2, c3, c4⟩ := HG.out _ HX2.out
    have HD2 : Hid (Below W0.heap.size W0 wb.drew) := Lib.hid HX2.out.drew
    go_wp2_with fail
    go_region_held3 (fun w' => w'.cell? ⟨X, 0, none⟩ = some (.int .i64 a) ∧ w'.cell? ⟨X, 1, none⟩ = some (.int .i64 b) ∧ w'.cell? ⟨Cb, 1, none⟩ = some (.string hh) ∧ w'.cell? ⟨Cb, 2, none⟩ = some (.string hp)) (first | exact ⟨(HG.out _ HD2.out).1.1, (HG.out _ HD2.out).1.2, (HG.out _ HD2.out).2.2.1, (HG.out _ HD2.out).2.2.2.1⟩ | exact ⟨(HG.out _ HX3.out).1.1, (HG.out _ HX3.out).1.2, (HG.out _ HX3.out).2.2.1, (HG.out _ HX3.out).2.2.2.1⟩)
      (first
        | (go_at_call 33; refine (HP.out _ (HEn.out.below ((HK0.out.step HD2.out).k.bel)).f).mono ?_; rintro e wc ⟨rfl, hbc⟩; have HX3 : Hid (Below W0.heap.size W0 wc) := Lib.hid (bstep HD2.out hbc); clear hbc))
    all_goals
      clear x0 x1 c0 c1 c2 c3 c4
      obtain ⟨-, -, -, -, -, c4⟩ := HG.out _ HX3.out
      have hR1 : IntKind.i64.wrap ((R : Int) + 1) = (R : Int) + 1 := by rw [IntKind.wrap_i64]; omega
      have HGL : Hid (GL w0 w wc Cb P X hh hp t (R : Int) a b h p f l qs S lv 0 last rv lv) := Lib.hid ⟨by rw [lgN_zero]; exact HK0.out.step HX3.out, (HX3.out.block X (Array.getElem?_eq_some_iff.1 HX0.out).1).trans HX0.out, Touch.of_below (bstep HB0.out HX3.out), fun g hg => .inl hg⟩
      go_wp2_with fail
      clear HX1 HX2 HX3 HD HD2 HC HL HP HG
      go_loopw [58] (fun i wr => ∃ k : Nat, k ≤ R + 1 ∧ i = .int .i64 k ∧ (∀ j, j < k → errN h p f l S qs.length a b t j ≠ 0) ∧ ∃ last' rv' lv', Hid (GL w0 w wr Cb P X hh hp t (R : Int) a b h p f l qs S lv k last' rv' lv') ∧ (∀ j, k = j + 1 → last' = errN h p f l S qs.length a b t j)) (fun i _ => R + 1 - (intOf i).toNat)
      case atStart => exact ⟨0, by omega, rfl, fun j hj => absurd hj (by omega), last, rv, lv, HGL, fun j hj => by omega⟩
      case round =>
        obtain ⟨k, hk, rfl, hej, last', rv', lv', HGr, hlast⟩ := hrel
        clear HGL c4
        have HEj := Lib.hid (And.intro hej hlast)
        clear hej hlast
        by_cases hlt : k ≤ R
        · obtain ⟨N, hN⟩ : ∃ N, qs.length + k = N := ⟨_, rfl⟩
          have hf := HGr.out.f
          rw [hN] at hf
          have hst := lgN_step h p f l qs S k
          have hhm := hmN_step h p f l qs S k
          have hml := hmN_le h p f l qs S k
          have hgo : gotK h p f ((l.drop N).headD noF) S = gotN h p f l S qs.length k := by unfold gotN; rw [hN]
          rw [hN] at hst hhm
          have hln := lgN_len h p f l qs S k
          obtain ⟨b1, b2, b3, b4⟩ := HN.out
          have hNb : N ≤ 2000 := by omega
          have HF := Lib.hid hf
          have HNk := Lib.hid hN
          obtain ⟨E, hE⟩ : ∃ E, errN h p f l S qs.length a b t k = E := ⟨_, rfl⟩
          obtain ⟨B, hB⟩ : ∃ B, bs (bodN h p f l S qs.length a b t k) = B := ⟨_, rfl⟩
          have hgs : (gotN h p f l S qs.length k).size ≤ 1000000 := by
            rw [← hgo]
            have h1 := got_size h p f ((l.drop N).headD noF) S (by omega)
            have h2 := (flt_ok HFx.out N).t
            omega
          have HJd : Hid (∀ W, EnvT W → Calls Tryz.prog 8 #[.string (gotN h p f l S qs.length k), .agg #[.int .i64 a, .int .i64 b], .int .i64 t] W fun e w' => e = .returned (.tuple #[.string B, .int .i64 (E : Int)]) ∧ Below W.heap.size W w') := Lib.hid (fun W hW => by
            have := fetch_Judge (gotN h p f l S qs.length k) a b t W hgs hW
            unfold JdgV at this
            unfold errN at hE
            unfold bodN at hB
            rw [hE, hB] at this
            exact this)
          have hask := fun (W : World) (rv2 lv2 : Value) (hk : KL w0 W P h p f (l.drop N) (lgN h p f l qs S k) (harmsK (lgN h p f l qs S k)) rv2 lv2) => hk.ask HEn.out.f S (by omega) (by omega) (flt_ok HFx.out N) (by rw [List.length_drop]; omega) (by omega) (by omega)
          unfold KAsk at hask
          rw [drop_tail, ← hst, ← hhm, hgo] at hask
          have HAk := Lib.hid hask
          generalize gotN h p f l S qs.length k = G at HJd HAk
          have HEB := Lib.hid (And.intro hE hB)
          obtain ⟨⟨c0, c1, c2, c3, c4, c5, c6⟩, f5, f6⟩ := seven_facts HF.out.c
          have tw : IntKind.i64.wrap ((N : Int) + 1) = (N : Int) + 1 := by rw [IntKind.wrap_i64]; omega
          have tk : decide ((k : Int) < (R : Int) + 1) = true := decide_eq_true (by omega)
          have HF1 : Hid (FC w0 (wr.setCell ⟨Cb, 5, none⟩ (.int .i64 ((N : Int) + 1))) Cb P hh hp t (R : Int) h p f (l.drop N) (lgN h p f l qs S k) (harmsK (lgN h p f l qs S k)) (N + 1) last' rv' lv') := Lib.hid (by
            have := HF.out.set5 (N + 1)
            rwa [show ((N + 1 : Nat) : Int) = (N : Int) + 1 by omega] at this)
          have HX1 : Hid ((wr.setCell ⟨Cb, 5, none⟩ (.int .i64 ((N : Int) + 1))).heap[X]? = some (.cells #[.int .i64 a, .int .i64 b] 28 (0, 0))) := Lib.hid ((Below.heap_setCell _ _ _ _ (x_ne HGr.out.x HF.out.c)).trans HGr.out.x)
          have HT1 : Hid (Touch (FS P Cb lv) w (wr.setCell ⟨Cb, 5, none⟩ (.int .i64 ((N : Int) + 1)))) := Lib.hid (touch_cb _ HGr.out.t)
          have HO1 := Lib.hid HGr.out.o
          clear hN hf hst hhm hml hgo hln b1 b2 b3 b4 hE hB hgs hask HGr HF
          go_wp2_with fail
          generalize wr.setCell ⟨Cb, 5, none⟩ (.int .i64 ((N : Int) + 1)) = W1 at HF1 HX1 HT1 ⊢
          clear c0 c1 c2 c3 c4 c5 c6 f5 f6
          have HFd := Lib.hid (HF1.out.step (Below.refl _ W1).drew)
          have HXd : Hid (W1.drew.heap[X]? = some (.cells #[.int .i64 a, .int .i64 b] 28 (0, 0))) := Lib.hid HX1.out
          have HSd := Lib.hid (gsx_of HXd.out HFd.out.c)
          have HAd := Lib.hid (HAk.out _ _ _ HFd.out.k)
          go_region_held3 (fun w' => w'.cell? ⟨X, 0, none⟩ = some (.int .i64 a) ∧ w'.cell? ⟨X, 1, none⟩ = some (.int .i64 b) ∧ w'.cell? ⟨Cb, 0, none⟩ = some (.pointer (some ⟨P, 0, none⟩)) ∧ w'.cell? ⟨Cb, 3, none⟩ = some (.int .i64 t)) (first | with_reducible exact HSd.out | with_reducible exact HSa.out | with_reducible exact HSj.out | with_reducible exact HSs.out)
            (first
              | (go_at_call 34; refine HAd.out.mono ?_; rintro e wa' ⟨rfl, rv2, lv2, hk2, ht2, ho2⟩; have HFa := Lib.hid (HFd.out.link hk2 ht2); have HXa := Lib.hid (blk_beside HFd.out.k HXd.out (by decide) (by decide) ht2); have HSa := Lib.hid (gsx_of HXa.out HFa.out.c); have HTa := Lib.hid (And.intro ht2 ho2); clear hk2 ht2 ho2)
              | (go_at_call 8; refine (HJd.out _ (HEn.out.below HFa.out.k.bel)).mono ?_; rintro e wj ⟨rfl, hbj⟩; have HFj := Lib.hid (HFa.out.step hbj); have HXj := Lib.hid ((hbj.block X (Array.getElem?_eq_some_iff.1 HXa.out).1).trans HXa.out); have HSj := Lib.hid (gsx_of HXj.out HFj.out.c); obtain ⟨⟨-, -, -, -, -, -, c6⟩, -, f6⟩ := seven_facts HFj.out.c; have HFs := Lib.hid (HFj.out.set6 E); have HXs := Lib.hid ((Below.heap_setCell wj ⟨Cb, 6, none⟩ (.int .i64 (E : Int)) X (x_ne HXj.out HFj.out.c)).trans HXj.out); have HSs := Lib.hid (gsx_of HXs.out HFs.out.c); have HBj := Lib.hid hbj; clear hbj))
          have HT2 : Hid (Touch (FS P Cb lv) w (wj.setCell ⟨Cb, 6, none⟩ (.int .i64 (E : Int)))) := Lib.hid (touch_cb _ (HT1.out.trans (((Touch.of_below (S := LS P lv') (Below.refl W1.heap.size W1).drew).trans HTa.out.1 (fun g h => .inl h)).trans (Touch.of_below (S := LS P lv') HBj.out) (fun g h => .inl h)) (fun q hq => by
            rcases hq with rfl | hq
            · exact .inl (.inl (.inl rfl))
            · rcases HO1.out q hq with h1 | h1
              · exact .inl (.inl (.inr h1))
              · exact .inr h1)))
          have HO2 : Hid (∀ g, lv2.ownBlock = some g → lv.ownBlock = some g ∨ w.heap.size ≤ g) := Lib.hid (fun g hg => by
            rcases HTa.out.2 g hg with h1 | h1
            · exact HO1.out g h1
            · exact .inr (Nat.le_trans HT1.out.size h1))
          have HGn : Hid (GL w0 w (wj.setCell ⟨Cb, 6, none⟩ (.int .i64 (E : Int))) Cb P X hh hp t (R : Int) a b h p f l qs S lv (k + 1) E rv2 lv2) := Lib.hid ⟨by have := HFs.out; rw [← HNk.out] at this; exact this, HXs.out, HT2.out, HO2.out⟩
          obtain ⟨⟨-, -, -, -, -, -, c6'⟩, -, -⟩ := seven_facts HFs.out.c
          clear HSd HSa HSj HSs HTa HFj HXj c6 f6 HFs HXs HBj HT1 HO1 HT2 HO2 HFd HXd HAd HFa HXa HF1 HX1 HAk HJd
          generalize wj.setCell ⟨Cb, 6, none⟩ (.int .i64 (E : Int)) = W2 at HGn c6' ⊢
          by_cases hE0 : E = 0
          · rw [hE0] at c6'
            have HE0 := Lib.hid hE0
            clear hE0
            go_wp2_with fail
            go_ret2
            unfold GetPost
            obtain ⟨r1, r2, r3, r4⟩ := run_some (errN h p f l S qs.length a b t) R k (bodN h p f l S qs.length a b t) hlt HEj.out.1 (by rw [HEB.out.1]; exact HE0.out)
            rw [r1, r2, r3, r4, HEB.out.2]
            have hg := HGn.out.f
            rw [HE0.out] at hg
            exact ⟨rfl, rv2, lv2, hg, HGn.out.t, HGn.out.o⟩
          · have tz : ((E : Int) == 0) = false := by rw [beq_eq_false_iff_ne]; omega
            have tw2 : IntKind.i64.wrap ((k : Int) + 1) = (k : Int) + 1 := by rw [IntKind.wrap_i64]; omega
            have HE0 := Lib.hid hE0
            clear hE0
            go_wp2_with fail
            go_roundw
            case rel =>
              refine ⟨k + 1, by omega, by go_num, fun j hj => ?_, E, rv2, lv2, HGn, fun j hj => ?_⟩
              · rcases Nat.lt_or_eq_of_le (Nat.le_of_lt_succ hj) with h1 | h1
                · exact HEj.out.1 j h1
                · subst h1; rw [HEB.out.1]; exact HE0.out
              · obtain rfl : k = j := by omega
                exact HEB.out.1.symm
            case measure => simp [intOf]; omega
        · obtain rfl : k = R + 1 := by omega
          have tk : decide (((R + 1 : Nat) : Int) < (R : Int) + 1) = false := decide_eq_false (by omega)
          have tk2 : decide ((R : Int) + 1 < (R : Int) + 1) = false := decide_eq_false (by omega)
          go_wp2_with fail
          go_ret2
          unfold GetPost
          obtain ⟨r1, r2, r3, r4⟩ := run_none (errN h p f l S qs.length a b t) R (bodN h p f l S qs.length a b t) (fun j hj => HEj.out.1 j (by omega))
          rw [r1, r2, r3, r4]
          have hl := HEj.out.2 R rfl
          rw [← hl]
          exact ⟨rfl, rv', lv', HGr.out.f, HGr.out.t, HGr.out.o⟩
end Go.Proofs.YtbdmmgmcbecolaaGreatDoor
namespace Go.Proofs.YtbdmmgmcbecolaaGreatDoor
open Go.RowKit
def l30 : List Flt := [(1, 0, ⟨#[]⟩), (1, 0, ⟨#[]⟩), (2, 5, ⟨#[]⟩)]
theorem l30_ok : ∀ x ∈ l30, FltOk x := by
  intro x hx
  simp only [l30, List.mem_cons, List.not_mem_nil, or_false] at hx
  rcases hx with rfl | rfl | rfl <;> exact ⟨by decide, by decide, by decide, by decide⟩
theorem holds_three {w : World} {B : Nat} (h : w.heap[B]? = some (.cells #[.int .u8 1, .int .i64 0, .string ⟨#[]⟩, .int .u8 1, .int .i64 0, .string ⟨#[]⟩, .int .u8 2, .int .i64 5, .string ⟨#[]⟩] 65 (0, 0))) : HoldsC w (.slice (some ⟨B, 0, none⟩) 3 3) l30 := by
  refine ⟨_, 3, rfl, Nat.le_refl _, fun _ => ⟨B, 0, rfl, (Array.getElem?_eq_some_iff.1 h).1, fun j hj => ?_⟩⟩
  have hj3 : j < 3 := hj
  rcases (show j = 0 ∨ j = 1 ∨ j = 2 by omega) with rfl | rfl | rfl
  all_goals
    refine ⟨?_, ?_, ?_⟩ <;> (unfold World.cell?; rw [h]; rfl)
def aS30 : ByteArray := bs (aPrint [47, 102] [104] 1 2)
theorem aw30_e : orgE [104] [47, 102] = 0 ∧ cliE [104] [47, 102] 3 1 = 0 ∧ getErr 1 2 3 = 0 ∧ getErr 1 3 3 = 8 := by decide +kernel
theorem aw30_1 : errN ⟨#[104]⟩ ⟨#[47, 102]⟩ ⟨#[97, 98, 99]⟩ l30 aS30 0 1 2 3 0 = 16 ∧ errN ⟨#[104]⟩ ⟨#[47, 102]⟩ ⟨#[97, 98, 99]⟩ l30 aS30 0 1 2 3 1 = 16 := by decide +kernel
theorem aw30_2 : errN ⟨#[104]⟩ ⟨#[47, 102]⟩ ⟨#[97, 98, 99]⟩ l30 aS30 2 1 2 3 0 = 3 ∧ errN ⟨#[104]⟩ ⟨#[47, 102]⟩ ⟨#[97, 98, 99]⟩ l30 aS30 2 1 2 3 1 = 0 ∧ bodN ⟨#[104]⟩ ⟨#[47, 102]⟩ ⟨#[97, 98, 99]⟩ l30 aS30 2 1 2 3 1 = [98, 99] := by decide +kernel
theorem aw30_j : judE ⟨#[]⟩ 0 0 1 = 16 := by decide +kernel
end Go.Proofs.YtbdmmgmcbecolaaGreatDoor
namespace Go.Proofs.YtbdmmgmcbecolaaGreatDoor
open Go.RowKit
theorem aw30_get1 {w0 w : World} {Cb P : Nat} {rv lv : Value} (H Pt F : ByteArray) (hH : H = ⟨#[104]⟩) (hP : Pt = ⟨#[47, 102]⟩) (hF : F = ⟨#[97, 98, 99]⟩) (hE : EnvT w0) (k : FC w0 w Cb P H Pt 3 1 H Pt F l30 [] 0 0 0 rv lv) :
    Calls Tryz.prog 10 #[.pointer (some ⟨Cb, 0, none⟩), .agg #[.int .i64 1, .int .i64 2]] w fun e w' => e = .returned (.tuple #[.string ⟨#[]⟩, .int .i64 23]) ∧ ∃ log n rv' lv', log = logK H Pt F l30 [aS30, aS30] ∧ n = harmsK log ∧ FC w0 w' Cb P H Pt 3 1 H Pt F (l30.drop 2) log n 2 16 rv' lv' := by
  subst hH hP hF
  refine (get_good w0 w Cb P ⟨#[104]⟩ ⟨#[47, 102]⟩ 3 1 ⟨#[104]⟩ ⟨#[47, 102]⟩ ⟨#[97, 98, 99]⟩ l30 [] aS30 1 2 0 rv lv hE k (by decide) (by decide) l30_ok (by decide) (by decide) aw30_e.2.2.1 aw30_e.1 rfl).mono ?_
  rintro e w' ⟨rfl, rv', lv', k', -, -⟩
  obtain ⟨r1, r2, r3, r4⟩ := run_none (errN ⟨#[104]⟩ ⟨#[47, 102]⟩ ⟨#[97, 98, 99]⟩ l30 aS30 0 1 2 3) 1 (bodN ⟨#[104]⟩ ⟨#[47, 102]⟩ ⟨#[97, 98, 99]⟩ l30 aS30 0 1 2 3) (by
    intro j hj
    rcases (show j = 0 ∨ j = 1 by omega) with rfl | rfl
    · rw [aw30_1.1]; decide
    · rw [aw30_1.2]; decide)
  have h1 : runA (errN ⟨#[104]⟩ ⟨#[47, 102]⟩ ⟨#[97, 98, 99]⟩ l30 aS30 ([] : List ByteArray).length 1 2 3) 1 = 2 := r1
  have h2 : runL (errN ⟨#[104]⟩ ⟨#[47, 102]⟩ ⟨#[97, 98, 99]⟩ l30 aS30 ([] : List ByteArray).length 1 2 3) 1 = 16 := by rw [← aw30_1.2]; exact r2
  have h3 : runE (errN ⟨#[104]⟩ ⟨#[47, 102]⟩ ⟨#[97, 98, 99]⟩ l30 aS30 ([] : List ByteArray).length 1 2 3) 1 = 23 := r3
  have h4 : runB (errN ⟨#[104]⟩ ⟨#[47, 102]⟩ ⟨#[97, 98, 99]⟩ l30 aS30 ([] : List ByteArray).length 1 2 3) 1 (bodN ⟨#[104]⟩ ⟨#[47, 102]⟩ ⟨#[97, 98, 99]⟩ l30 aS30 ([] : List ByteArray).length 1 2 3) = [] := r4
  rw [h1, h2] at k'
  rw [h3, h4]
  exact ⟨rfl, _, _, rv', lv', rfl, rfl, k'⟩
theorem aw30_get2 {w0 w : World} {Cb P : Nat} {rv lv : Value} {log : List Evt} {n : Nat} (H Pt F : ByteArray) (hH : H = ⟨#[104]⟩) (hP : Pt = ⟨#[47, 102]⟩) (hF : F = ⟨#[97, 98, 99]⟩) (hE : EnvT w0) (hlog : log = logK H Pt F l30 [aS30, aS30]) (hn : n = harmsK log) (k : FC w0 w Cb P H Pt 3 1 H Pt F (l30.drop 2) log n 2 16 rv lv) :
    Calls Tryz.prog 10 #[.pointer (some ⟨Cb, 0, none⟩), .agg #[.int .i64 1, .int .i64 2]] w fun e w' => e = .returned (.tuple #[.string ⟨#[98, 99]⟩, .int .i64 0]) ∧ ∃ rest log n rv' lv', FC w0 w' Cb P H Pt 3 1 H Pt F rest log n 4 0 rv' lv' := by
  subst hH hP hF hn hlog
  refine (get_good w0 w Cb P ⟨#[104]⟩ ⟨#[47, 102]⟩ 3 1 ⟨#[104]⟩ ⟨#[47, 102]⟩ ⟨#[97, 98, 99]⟩ l30 [aS30, aS30] aS30 1 2 16 rv lv hE k (by decide) (by decide) l30_ok (by decide) (by decide) aw30_e.2.2.1 aw30_e.1 rfl).mono ?_
  rintro e w' ⟨rfl, rv', lv', k', -, -⟩
  obtain ⟨r1, r2, r3, r4⟩ := run_some (errN ⟨#[104]⟩ ⟨#[47, 102]⟩ ⟨#[97, 98, 99]⟩ l30 aS30 2 1 2 3) 1 1 (bodN ⟨#[104]⟩ ⟨#[47, 102]⟩ ⟨#[97, 98, 99]⟩ l30 aS30 2 1 2 3) (by decide) (by
    intro j hj
    obtain rfl : j = 0 := by omega
    rw [aw30_2.1]; decide) aw30_2.2.1
  rw [aw30_2.2.2] at r4
  have h1 : runA (errN ⟨#[104]⟩ ⟨#[47, 102]⟩ ⟨#[97, 98, 99]⟩ l30 aS30 [aS30, aS30].length 1 2 3) 1 = 2 := r1
  have h2 : runL (errN ⟨#[104]⟩ ⟨#[47, 102]⟩ ⟨#[97, 98, 99]⟩ l30 aS30 [aS30, aS30].length 1 2 3) 1 = 0 := r2
  have h3 : runE (errN ⟨#[104]⟩ ⟨#[47, 102]⟩ ⟨#[97, 98, 99]⟩ l30 aS30 [aS30, aS30].length 1 2 3) 1 = 0 := r3
  have h4 : runB (errN ⟨#[104]⟩ ⟨#[47, 102]⟩ ⟨#[97, 98, 99]⟩ l30 aS30 [aS30, aS30].length 1 2 3) 1 (bodN ⟨#[104]⟩ ⟨#[47, 102]⟩ ⟨#[97, 98, 99]⟩ l30 aS30 [aS30, aS30].length 1 2 3) = [98, 99] := r4
  rw [h1, h2] at k'
  rw [h3, h4]
  exact ⟨rfl, _, _, _, rv', lv', k'⟩
set_option maxRecDepth 100000 in
set_option maxHeartbeats 4000000 in
theorem awake30 (w : World) (hE : EnvT w) : Calls Tryz.prog 7 #[] w fun e w' => e = .returned (.bool true) ∧ Below w.heap.size w w' := by
  have HE := Lib.hid hE
  have hB0 : Below w.heap.size w (w.alloc (.cells #[.int .u8 1, .int .i64 0, .string ⟨#[]⟩, .int .u8 1, .int .i64 0, .string ⟨#[]⟩, .int .u8 2, .int .i64 5, .string ⟨#[]⟩] 65)) := (Below.refl _ _).alloc (Nat.le_refl _) _
  have HB0 := Lib.hid hB0
  have HN := Lib.hid (link_new ⟨#[104]⟩ ⟨#[47, 102]⟩ ⟨#[97, 98, 99]⟩ (.slice (some ⟨w.heap.size, 0, none⟩) 3 3) l30 (w.alloc (.cells #[.int .u8 1, .int .i64 0, .string ⟨#[]⟩, .int .u8 1, .int .i64 0, .string ⟨#[]⟩, .int .u8 2, .int .i64 5, .string ⟨#[]⟩] 65)) aw30_e.1 (holds_three (heap_alloc_new w _)) (by decide))
  have HJ := Lib.hid (fun w hE => fetch_Judge ⟨#[]⟩ 0 0 1 w (by decide) hE)
  have hj : JdgV ⟨#[]⟩ 0 0 1 = .tuple #[.string ⟨#[]⟩, .int .i64 16] := by rw [jdgV_bad _ _ _ _ (by rw [aw30_j]; decide), aw30_j]; rfl
  rw [hj] at HJ
  clear hE hB0 hj
  go_enter Tryz.func7, Tryz.ntmps7
  go_wp2_with fail
  refine HN.out.mono ?_
  rintro e w1 hnew
  obtain ⟨P, rv, rfl, hP, hk1, hb1⟩ := KL.new HB0.out hnew
  have HK1 := Lib.hid hk1
  clear hnew hP hk1 hb1 HN
  go_wp2_with fail
  refine (fetch_new w P ⟨#[104]⟩ ⟨#[47, 102]⟩ 3 1 _ _ _ _ _ _ _ _ _ HK1.out aw30_e.2.1).mono ?_
  rintro e w2 ⟨Cb, rfl, hk2, -, -⟩
  have HK2 := Lib.hid hk2
  clear hk2 HK1
  go_wp2_with fail
  refine (aw30_get1 _ _ _ (by rfl) (by rfl) (by rfl) HE.out HK2.out).mono ?_
  rintro e w3 ⟨rfl, log, n, rv3, lv3, hlog, hn, hk3⟩
  have HK3 := Lib.hid hk3
  have HL3 := Lib.hid (And.intro hlog hn)
  clear hk3 hlog hn HK2
  go_wp2_with fail
  refine (aw30_get2 _ _ _ (by rfl) (by rfl) (by rfl) HE.out HL3.out.1 HL3.out.2 HK3.out).mono ?_
  rintro e w4 ⟨rfl, rest4, log4, n4, rv4, lv4, hk4⟩
  have HK4 := Lib.hid hk4
  clear hk4 HK3 HL3
  go_wp2_with fail
  refine (get_bad HK4.out 1 3 (by rw [aw30_e.2.2.2]; decide)).mono ?_
  rintro e w5 ⟨rfl, hb5⟩
  rw [aw30_e.2.2.2]
  have HK5 := Lib.hid (HK4.out.step hb5)
  clear hb5 HK4
  go_wp2_with fail
  refine (fetch_new_nil _ _ _ _ _).mono ?_
  rintro e w' ⟨rfl, hww⟩
  obtain rfl := hww.symm
  clear hww
  go_wp2_with fail
  refine (HJ.out _ (HE.out.below HK5.out.k.bel)).mono ?_
  rintro e w6 ⟨rfl, hb6⟩
  have HK6 := Lib.hid (HK5.out.step hb6)
  clear hb6 HK5
  go_wp2_with fail
  refine HK6.out.asked.mono ?_
  rintro e w' ⟨rfl, hww⟩
  obtain rfl := hww.symm
  clear hww
  go_wp2_with fail
  refine HK6.out.lasts.mono ?_
  rintro e w' ⟨rfl, hww⟩
  obtain rfl := hww.symm
  clear hww
  go_wp2_with fail
  refine HK6.out.total.mono ?_
  rintro e w' ⟨rfl, hww⟩
  obtain rfl := hww.symm
  clear hww
  go_wp2_with fail
  go_ret
  exact ⟨rfl, HK6.out.k.bel⟩
end Go.Proofs.YtbdmmgmcbecolaaGreatDoor
namespace Go.Proofs.YtbdmmgmcbecolaaGreatDoor
open Go.RowKit
theorem rj_bad (s : ByteArray) (a b t : Int) (e : Nat) (h : judE s a b t = e) (h0 : e ≠ 0) : JdgV s a b t = .tuple #[.string ⟨#[]⟩, .int .i64 (e : Int)] := by
  subst h
  exact jdgV_bad s a b t h0
theorem rj_ok (s : ByteArray) (a b t : Int) (h : judE s a b t = 0) : JdgV s a b t = .tuple #[.string (bs (takB s (rLen a b))), .int .i64 0] := by
  unfold JdgV judS
  rw [if_pos h, h]; rfl
theorem get_rkB (v : Value) (fs : List (List UInt8 × List UInt8)) (n : ByteArray) (k : List UInt8) (hk : n.data.toList = k) (w : World) (hv : HoldsF w v fs) (hlen : fs.length ≤ 1000000) :
    Calls Tryz.prog 30 #[v, .string n] w fun e w' => e = .returned (.tuple #[.string (bs (getS fs k)), .int .i64 (getE fs k)]) ∧ Below w.heap.size w w' := by
  refine (get_rk v fs n k hk w hv hlen).mono ?_
  rintro e w' ⟨h1, rfl⟩
  exact ⟨h1, Below.refl _ _⟩
set_option maxRecDepth 100000 in
set_option maxHeartbeats 4000000 in
theorem ref_judge (s : ByteArray) (a b t : Int) (w : World) (hs : s.size ≤ 1000000) :
    Calls Tryz.prog 9 #[.string s, .agg #[.int .i64 a, .int .i64 b], .int .i64 t] w fun e w' => e = .returned (JdgV s a b t) ∧ Below w.heap.size w w' := by
  have HL := Lib.hid (fun w => ref_rlength a b w)
  have HP := Lib.hid (fun w => ref_rparse s (rLen a b) w hs)
  unfold RefPost RepV at HP
  have HB0 := Lib.hid (below_agg2 w (.int .i64 a) (.int .i64 b) 23)
  have HR0 := Lib.hid (heap_alloc_new w (.cells #[.int .i64 a, .int .i64 b] 23))
  have HSz : Hid ((takF s (rLen a b)).length ≤ 1000000) := Lib.hid (Nat.le_trans (takF_len _ _) (by decide))
  have HGs := Lib.hid (getS_small s (rLen a b))
  obtain ⟨r0, r1⟩ := box2 w (.int .i64 a) (.int .i64 b) 23
  by_cases hz : s.size = 0
  · have HA := Lib.hid (rj_bad s a b t 16 (jud_1 s a b t hz) (by decide))
    have z1 : (s.toList == []) = true := by rw [ByteArray.toList_eq, beq_iff_eq]; exact List.eq_nil_of_length_eq_zero (by rw [size_len]; exact hz)
    have z2 : s.toList = [] := by simpa using z1
    clear hz
    go_enter Tryz.func9, Tryz.ntmps9
    go_wp2_with fail
    go_ret2
    exact ⟨by rw [HA.out]; rfl, HB0.out⟩
  have z1 : (s.toList == []) = false := by rw [ByteArray.toList_eq, beq_eq_false_iff_ne]; intro e; exact hz (by rw [← size_len, e]; rfl)
  have z2 : ¬ s.toList = [] := by simpa using z1
  go_enter Tryz.func9, Tryz.ntmps9
  go_wp2_with fail
  generalize (w.alloc (.cells #[.int .i64 a, .int .i64 b] 23)) = W0 at HB0 HR0 r0 r1 ⊢
  generalize w.heap.size = X at HR0 r0 r1 ⊢
  refine (HL.out _).mono ?_
  rintro e w1 ⟨rfl, hb1⟩
  go_wp2_with fail
  refine (HP.out _).mono ?_
  rintro e w2 ⟨fv, rfl, ⟨B0, hown⟩, hb2⟩
  obtain ⟨fa, fc, rfl⟩ := slice_of_own hown
  have HB2 := Lib.hid (bstep hb1 hb2)
  have HOw := Lib.hid (HoldsF.of_own hown)
  clear hb1 hb2 hown HP
  by_cases h2 : takE s (rLen a b) = 0
  case neg =>
    have HA := Lib.hid (rj_bad s a b t _ (jud_2 s a b t hz h2) h2)
    have tz : (((takE s (rLen a b) : Nat) : Int) != 0) = true := by rw [bne_iff_ne]; omega
    clear hz h2
    generalize takE s (rLen a b) = E at HA tz ⊢
    go_wp2_with fail
    go_ret2
    exact ⟨by rw [HA.out] <;> rfl, bstep HB0.out (HB2.out.alloc HB2.out.size _)⟩
  rw [h2]
  by_cases h3 : takN s (rLen a b) < (s.size : Int)
  · have HA := Lib.hid (rj_bad s a b t 4 (jud_3 s a b t hz h2 h3) (by decide))
    have t3 : decide (takN s (rLen a b) < (s.size : Int)) = true := decide_eq_true h3
    clear hz h2
    generalize takN s (rLen a b) = N at h3 t3 ⊢
    go_wp2_with fail
    go_ret2
    exact ⟨by rw [HA.out]; rfl, bstep HB0.out (HB2.out.alloc HB2.out.size _)⟩
  have t3 : decide (takN s (rLen a b) < (s.size : Int)) = false := decide_eq_false h3
  by_cases h4 : takC s (rLen a b) = 206
  case neg =>
    have HA := Lib.hid (rj_bad s a b t 17 (jud_4 s a b t hz h2 h3 h4) (by decide))
    have t4 : (takC s (rLen a b) != 206) = true := by rw [bne_iff_ne]; exact h4
    clear hz h2
    generalize takN s (rLen a b) = N at h3 t3 ⊢
    generalize takC s (rLen a b) = C at h4 t4 ⊢
    go_wp2_with fail
    go_ret2
    exact ⟨by rw [HA.out]; rfl, bstep HB0.out (HB2.out.alloc HB2.out.size _)⟩
  rw [h4]
  have HAs := Lib.hid (And.intro hz (And.intro h2 (And.intro h3 h4)))
  clear hz h2 h4
  generalize takN s (rLen a b) = N at h3 t3 ⊢
  have HBB : Hid ((bs (takB s (rLen a b))).size = (takB s (rLen a b)).length) := Lib.hid (bs_size _)
  have hB3 := HB2.out.alloc HB2.out.size (.cells #[.int .i64 206, .slice fa (takF s (rLen a b)).length fc, .string (bs (takB s (rLen a b)))] 79)
  have HO3 := Lib.hid (HOw.out.below ((Below.refl _ _).alloc (Nat.le_refl _) (.cells #[.int .i64 206, .slice fa (takF s (rLen a b)).length fc, .string (bs (takB s (rLen a b)))] 79)))
  have HR3 := Lib.hid (heap_alloc_new w2 (.cells #[.int .i64 206, .slice fa (takF s (rLen a b)).length fc, .string (bs (takB s (rLen a b)))] 79))
  have HB3 := Lib.hid hB3
  clear hB3 h3 HOw
  go_wp2_with fail
  refine (get_rkB _ _ _ crangeK rfl _ HO3.out HSz.out).mono ?_
  rintro e w3 ⟨rfl, hb3⟩
  have HB4 := Lib.hid (bstep HB3.out hb3)
  have HR4 := Lib.hid ((hb3.block w2.heap.size (by simp)).trans HR3.out)
  have hwl : w2.heap.size < w3.heap.size := (Array.getElem?_eq_some_iff.1 HR4.out).1
  have HWl := Lib.hid hwl
  clear hb3 HB3 HR3 HO3 hwl
  generalize w2.heap.size = Y at HR4 HWl ⊢
  obtain ⟨V, hV⟩ : ∃ V, getS (takF s (rLen a b)) crangeK = V := ⟨_, rfl⟩
  have HV := Lib.hid hV
  rw [hV] at HGs ⊢
  clear hV
  by_cases h5 : getE (takF s (rLen a b)) crangeK = 0
  case neg =>
    have HA := Lib.hid (rj_bad s a b t _ (jud_5 s a b t HAs.out.1 HAs.out.2.1 (Int.not_lt.2 HAs.out.2.2.1) HAs.out.2.2.2 h5) h5)
    have tz : (((getE (takF s (rLen a b)) crangeK : Nat) : Int) != 0) = true := by rw [bne_iff_ne]; omega
    clear h5
    generalize getE (takF s (rLen a b)) crangeK = E at HA tz ⊢
    go_wp2_with fail
    go_ret2
    exact ⟨by rw [HA.out] <;> rfl, bstep HB0.out HB4.out⟩
  rw [h5]
  have HT := Lib.hid (fun w => ref_tell (bs V) w HGs.out)
  rw [bs_data] at HT
  unfold TellV at HT
  go_wp2_with fail
  refine (HT.out _).mono ?_
  rintro e w4 ⟨rfl, hb4⟩
  have HB5 := Lib.hid (bstep HB4.out hb4)
  have HR5 := Lib.hid ((hb4.block Y HWl.out).trans HR4.out)
  clear hb4 HB4 HR4 HT
  by_cases h6 : tellE V = 0
  case neg =>
    have HA := Lib.hid (rj_bad s a b t _ (by have := jud_6 s a b t HAs.out.1 HAs.out.2.1 (Int.not_lt.2 HAs.out.2.2.1) HAs.out.2.2.2 h5; rw [HV.out] at this; exact this h6) h6)
    have tz : (((tellE V : Nat) : Int) != 0) = true := by rw [bne_iff_ne]; omega
    clear h5 h6
    generalize tellE V = E at HA tz ⊢
    go_wp2_with fail
    go_ret2
    exact ⟨by rw [HA.out] <;> rfl, bstep HB0.out (HB5.out.alloc HB5.out.size _)⟩
  rw [h6]
  have hB6 := HB5.out.alloc HB5.out.size (.cells #[.int .i64 (tellA V), .int .i64 (tellB V)] 23)
  have hwx : X < W0.heap.size := (Array.getElem?_eq_some_iff.1 HR0.out).1
  have x0 := (hB6.cell (p := ⟨X, 0, none⟩) hwx).trans r0
  have x1 := (hB6.cell (p := ⟨X, 1, none⟩) hwx).trans r1
  have HB6 := Lib.hid hB6
  have HWx := Lib.hid hwx
  have hne := neq_drng (tellA V) (tellB V) a b
  have hgd := guard_drng
  clear hB6 hwx r0 r1
  by_cases h7 : (tellA V = a ∧ tellB V = b) ∧ tellC V = t
  case neg =>
    have HA := Lib.hid (rj_bad s a b t 19 (by have := jud_7 s a b t HAs.out.1 HAs.out.2.1 (Int.not_lt.2 HAs.out.2.2.1) HAs.out.2.2.2 h5; rw [HV.out] at this; exact this h6 h7) (by decide))
    clear h5 h6
    by_cases h8 : tellA V = a ∧ tellB V = b
    · have t9 : (tellC V != t) = true := by rw [bne_iff_ne]; exact fun e => h7 ⟨h8, e⟩
      rw [decide_eq_true h8] at hne
      clear h7 h8
      generalize tellA V = A at hne x0 x1 HB6 ⊢
      generalize tellB V = B at hne x0 x1 HB6 ⊢
      generalize tellC V = C at t9 ⊢
      go_wp2_with fail
      go_ret2
      exact ⟨by rw [HA.out]; rfl, bstep HB0.out HB6.out⟩
    · rw [decide_eq_false h8] at hne
      clear h7 h8
      generalize tellA V = A at hne x0 x1 HB6 ⊢
      generalize tellB V = B at hne x0 x1 HB6 ⊢
      generalize tellC V = C
      go_wp2_with fail
      go_ret2
      exact ⟨by rw [HA.out]; rfl, bstep HB0.out HB6.out⟩
  have h7' : (tellA (getS (takF s (rLen a b)) crangeK) = a ∧ tellB (getS (takF s (rLen a b)) crangeK) = b) ∧ tellC (getS (takF s (rLen a b)) crangeK) = t := by rw [HV.out]; exact h7
  have h6' : tellE (getS (takF s (rLen a b)) crangeK) = 0 := by rw [HV.out]; exact h6
  obtain ⟨⟨g1, g2⟩, g3⟩ := h7
  rw [g1, g2] at hne x0 x1 HB6 ⊢
  rw [g3]
  rw [decide_eq_true (And.intro rfl rfl)] at hne
  have H7 := Lib.hid (And.intro h5 (And.intro h6' h7'))
  have hR6 := (((Below.refl w4.heap.size w4).alloc (Nat.le_refl _) (.cells #[.int .i64 a, .int .i64 b] 23)).block Y (Array.getElem?_eq_some_iff.1 HR5.out).1).trans HR5.out
  have HR6 := Lib.hid hR6
  clear h5 h6 h6' h7' g1 g2 g3 hR6 HR5 HB5
  go_wp2_with fail
  generalize w4.alloc (.cells #[.int .i64 a, .int .i64 b] 23) = W6 at HB6 HR6 x0 x1 ⊢
  have HS : Hid (∀ W, Below W6.heap.size W6 W → W.cell? ⟨Y, 2, none⟩ = some (.string (bs (takB s (rLen a b)))) ∧ W.cell? ⟨X, 0, none⟩ = some (.int .i64 a) ∧ W.cell? ⟨X, 1, none⟩ = some (.int .i64 b)) := Lib.hid (fun W hW => by
    have hy := (hW.block Y (Array.getElem?_eq_some_iff.1 HR6.out).1).trans HR6.out
    have hx := ((bstep HB6.out hW).block X HWx.out).trans HR0.out
    exact ⟨by unfold World.cell?; rw [hy]; rfl, by unfold World.cell?; rw [hx]; rfl, by unfold World.cell?; rw [hx]; rfl⟩)
  have HDr : Hid (Below W6.heap.size W6 W6.drew) := Lib.hid (Below.refl _ _).drew
  obtain ⟨Bd, hBd⟩ : ∃ Bd, bs (takB s (rLen a b)) = Bd := ⟨_, rfl⟩
  rw [hBd] at HS HBB
  by_cases h8 : ((Bd.size : Nat) : Int) = rLen a b
  · have HA : Hid (JdgV s a b t = .tuple #[.string Bd, .int .i64 0]) := Lib.hid (by
      rw [rj_ok s a b t (jud_made s a b t HAs.out.1 HAs.out.2.1 (by have := HAs.out.2.2.1; omega) HAs.out.2.2.2 H7.out.1 H7.out.2.1 ⟨H7.out.2.2.1.1, H7.out.2.2.1.2, H7.out.2.2.2⟩ (by rw [← HBB.out]; exact h8)), hBd])
    have t8 : (((Bd.size : Nat) : Int) != rLen a b) = false := by rw [bne_eq_false_iff_eq]; exact h8
    clear h8 hBd x0 x1
    generalize rLen a b = M at HL t8
    go_region_held3 (fun w' => w'.cell? ⟨Y, 2, none⟩ = some (.string Bd) ∧ w'.cell? ⟨X, 0, none⟩ = some (.int .i64 a) ∧ w'.cell? ⟨X, 1, none⟩ = some (.int .i64 b)) (first | with_reducible exact HS.out _ HDr.out | with_reducible exact HS.out _ HX1.out)
      (first
        | (go_at_call 29; refine (HL.out _).mono ?_; rintro e wa ⟨rfl, hba⟩; have HX1 : Hid (Below W6.heap.size W6 wa) := Lib.hid (bstep HDr.out hba); clear hba))
    obtain ⟨y2, -, -⟩ := HS.out _ HX1.out
    go_wp2_with fail
    go_ret2
    exact ⟨by rw [HA.out] <;> rfl, bstep HB0.out (bstep HB6.out HX1.out)⟩
  · have HA := Lib.hid (rj_bad s a b t 18 (jud_8 s a b t HAs.out.1 HAs.out.2.1 (Int.not_lt.2 HAs.out.2.2.1) HAs.out.2.2.2 H7.out.1 H7.out.2.1 H7.out.2.2 (by rw [← HBB.out]; exact h8)) (by decide))
    have t8 : (((Bd.size : Nat) : Int) != rLen a b) = true := by rw [bne_iff_ne]; exact h8
    clear h8 hBd x0 x1
    generalize rLen a b = M at HL t8
    go_region_held3 (fun w' => w'.cell? ⟨Y, 2, none⟩ = some (.string Bd) ∧ w'.cell? ⟨X, 0, none⟩ = some (.int .i64 a) ∧ w'.cell? ⟨X, 1, none⟩ = some (.int .i64 b)) (first | with_reducible exact HS.out _ HDr.out | with_reducible exact HS.out _ HX1.out)
      (first
        | (go_at_call 29; refine (HL.out _).mono ?_; rintro e wa ⟨rfl, hba⟩; have HX1 : Hid (Below W6.heap.size W6 wa) := Lib.hid (bstep HDr.out hba); clear hba))
    go_wp2_with fail
    go_ret2
    exact ⟨by rw [HA.out]; rfl, bstep HB0.out (bstep HB6.out HX1.out)⟩
end Go.Proofs.YtbdmmgmcbecolaaGreatDoor
namespace Go.Proofs.YtbdmmgmcbecolaaGreatDoor
open Go.RowKit

def renU : Go.Shelf.Ren := ⟨fun n => n, fun | 5 => 5 | 119 => 321 | 138 => 323 | 139 => 324 | n => n, fun | 3 => 4 | 4 => 5 | n => n⟩
theorem u8t : U8Types Tryz.prog renU := ⟨Tryz.underlying5, Tryz.underlying321, Tryz.underlying323, Tryz.underlying324⟩
theorem u8x : U8Extra Tryz.prog renU := ⟨by kernel_rfl, by kernel_rfl, by kernel_rfl, by kernel_rfl, by kernel_rfl, by kernel_rfl, by kernel_rfl⟩
theorem accept_data : (Rows.laid_unicode_utf8_acceptRanges : DataW Unit) = Go.Lib.acceptData := by kernel_rfl
theorem maxLen_cell {W : World} (h : W.ShapedOpen Tryz.prog) : ∃ m, W.cell? ⟨1, 0, none⟩ = some (.int .i64 m) := Tryz.laysM145.s1_3 W h
theorem lt_of_cell {W : World} {g : Nat} {v : Value} (h : W.cell? ⟨g, 0, none⟩ = some v) : g < W.heap.size := World.block_lt_of_cell? _ _ h
theorem err_star : "*" ++ "errors.errorString" = "*errors.errorString" := by decide
theorem err_row (u : TypeId) (h : Tryz.prog.typeName? 3 u = some "*errors.errorString") : u = 334 :=
  typeName_ptr_named (nm := "errors.errorString") (by rw [err_star]; kernel_rfl) (by kernel_rfl) (by decide) u (by rw [err_star]; exact h)
theorem env_of {W : World} {rest : List (String × DataW Unit)} (h : laidMet Tryz.prog (("math/bits.deBruijn32tab", Rows.laid_math_bits_deBruijn32tab) :: ("math/bits.deBruijn64tab", Rows.laid_math_bits_deBruijn64tab) :: ("internal/strconv.uint64pow10", Rows.laid_internal_strconv_uint64pow10) :: ("unicode/utf8.acceptRanges", Rows.laid_unicode_utf8_acceptRanges) :: ("strconv.ErrRange", Rows.laid_strconv_ErrRange) :: rest) W)
    (hf : ("unicode/utf8.first", Rows.laid_unicode_utf8_first) ∈ rest) (hsh : W.ShapedOpen Tryz.prog) : EnvF W := by
  have ht : Go.Lib.TabIs Tryz.prog W "internal/strconv.uint64pow10" .u64 Go.Lib.pow10Tab :=
    Go.Lib.tabIs_of_head (n := 20) (t := 338) (e := 315) g_pow10 (by kernel_rfl) (by kernel_rfl) (by kernel_rfl) (by kernel_rfl) (by kernel_rfl) h.tail.tail
  have h3 : Go.Lib.VarReads Tryz.prog W "unicode/utf8.first" Go.Lib.firstData := by
    have := Go.Lib.laidMet.reads h (n := "unicode/utf8.first") (d := Rows.laid_unicode_utf8_first) (by simp [hf])
    rwa [show (Rows.laid_unicode_utf8_first : DataW Unit) = Go.Lib.firstData from Pinned.utf8First_eq] at this
  have h4 : Go.Lib.VarReads Tryz.prog W "unicode/utf8.acceptRanges" Go.Lib.acceptData := by
    have := Go.Lib.laidMet.reads h (n := "unicode/utf8.acceptRanges") (d := Rows.laid_unicode_utf8_acceptRanges) (by simp)
    rwa [accept_data] at this
  obtain ⟨a0, s0, hv0, _, _, _⟩ := laid_sentinel h.tail.tail.tail.tail (g := 3) (ti := 70) (tp := 334) (te := 336) (ts := 9) (by kernel_rfl) (by kernel_rfl) Tryz.underlying70 err_row Tryz.underlying334 Tryz.underlying336 rfl rfl Tryz.underlying9 (by kernel_rfl) (by kernel_rfl)
  obtain ⟨m, hm⟩ := maxLen_cell hsh
  have hr : W.cell? ⟨3, 0, none⟩ = some (.iface 334 (.pointer (some a0))) := World.var?_cell (show Tryz.prog.globalNamed "strconv.ErrRange" = some 3 by kernel_rfl) hv0 0
  refine ⟨⟨m, hm⟩, lt_of_cell hm, utf8Tabs_of_readsT u8t u8x h3 h4, ht, ?_, ⟨_, _, hr⟩, lt_of_cell hr⟩
  rcases Nat.lt_or_ge 6 W.heap.size with hlt | hge
  · exact hlt
  · unfold Go.Lib.TabIs World.var? at ht
    rw [g_pow10] at ht
    simp [Array.getElem?_eq_none hge] at ht
end Go.Proofs.YtbdmmgmcbecolaaGreatDoor
namespace Go.Proofs.YtbdmmgmcbecolaaGreatDoor
open Go.RowKit
def lp30 : List (String × DataW Unit) := [("math/bits.deBruijn32tab", Rows.laid_math_bits_deBruijn32tab), ("math/bits.deBruijn64tab", Rows.laid_math_bits_deBruijn64tab), ("internal/strconv.uint64pow10", Rows.laid_internal_strconv_uint64pow10), ("unicode/utf8.acceptRanges", Rows.laid_unicode_utf8_acceptRanges), ("strconv.ErrRange", Rows.laid_strconv_ErrRange), ("strconv.ErrSyntax", Rows.laid_strconv_ErrSyntax), ("unicode/utf8.first", Rows.laid_unicode_utf8_first)]
def lh30 : List (String × DataW Unit) := [("math/bits.deBruijn32tab", Rows.laid_math_bits_deBruijn32tab), ("math/bits.deBruijn64tab", Rows.laid_math_bits_deBruijn64tab), ("internal/strconv.uint64pow10", Rows.laid_internal_strconv_uint64pow10), ("unicode/utf8.acceptRanges", Rows.laid_unicode_utf8_acceptRanges), ("errors.errorType", Rows.laid_errors_errorType), ("strconv.ErrRange", Rows.laid_strconv_ErrRange), ("strconv.ErrSyntax", Rows.laid_strconv_ErrSyntax), ("unicode/utf8.first", Rows.laid_unicode_utf8_first)]
theorem h30_et : Tryz.prog.globalNamed "errors.errorType" = some 0 := by kernel_rfl
theorem h30_rt : (Tryz.prog.cutTypes.find? (·.1 == "internal/reflectlite.rtype")).map (·.2) = some 171 := by kernel_rfl
theorem h30_one : ((List.range Tryz.prog.types.size).filter fun t => Tryz.prog.rowNamed t [101, 114, 114, 111, 114]) = [70] := by kernel_rfl
theorem h30_handle : typeHandle Tryz.prog 70 = .pointer (some ⟨9, 70, none⟩) := by kernel_rfl
theorem env30 {W : World} (h : laidMetH Tryz.prog lh30 W) (hsh : W.ShapedOpen Tryz.prog) : EnvT W := by
  have h' : laidMet Tryz.prog lp30 W ∧ handlesMet Tryz.prog [("errors.errorType", Rows.laid_errors_errorType)] W := h
  have hf : EnvF W := env_of h'.1 (by simp) hsh
  have hc : W.cell? ⟨0, 0, none⟩ = some (.iface 171 (.agg #[.pointer (some ⟨9, 70, none⟩)])) := by
    obtain ⟨name, u, ty, e1, e2, e3, e4, e5⟩ := h'.2 _ (List.mem_singleton.2 rfl)
    have en : name = [101, 114, 114, 111, 114] := (Option.some.inj e1).symm
    subst en
    obtain rfl := Option.some.inj (h30_rt.symm.trans e2)
    have hm : ty ∈ (List.range Tryz.prog.types.size).filter fun t => Tryz.prog.rowNamed t [101, 114, 114, 111, 114] := List.mem_filter.2 ⟨List.mem_range.2 e3, e4⟩
    rw [h30_one] at hm
    obtain rfl := List.mem_singleton.1 hm
    rw [h30_handle] at e5
    simpa using World.var?_cell h30_et e5 0
  exact ⟨hf, hc, lt_of_cell hc⟩
/-- a world that meets the list -/
noncomputable def base30 (os : Os) : World :=
  let w0 := World.holding Tryz.prog os ⟨#[], #[], []⟩
  { w0 with heap := w0.heap.modify 0 fun
      | .cells _ t frozen => .cells #[.iface 171 (.agg #[.pointer (some ⟨9, 70, none⟩)])] t frozen
      | o => o }
noncomputable def wit30 (os : Os) : World := (base30 os).layVars Tryz.prog lp30
theorem wit30_os (os : Os) : (wit30 os).os = os := by
  unfold wit30
  rw [World.layVars_os]
  rfl
theorem wit30_met (os : Os) (args : Array Value) : laidMetH Tryz.prog lh30 ((wit30 os).forCall (fun _ _ => 0) ⟨#[], args, []⟩).memory := by
  have e1 : (lp30.filter fun x => (lp30.map (·.1)).contains x.1) = lp30 := List.filter_eq_self.2 fun x hx => List.contains_iff_mem.2 (List.mem_map.2 ⟨x, hx, rfl⟩)
  have e2 : (lp30.filter fun x => !(lp30.map (·.1)).contains x.1) = [] := List.filter_eq_nil_iff.2 fun x hx => by rw [List.contains_iff_mem.2 (List.mem_map.2 ⟨x, hx, rfl⟩)]; simp
  have h : laidMet Tryz.prog lp30 (wit30 os) := laidMet_layVars (w0 := base30 os) (lp30.map (·.1)) [] (by rw [e1]; rfl) (by rw [e1]; kernel_rfl) (by rw [e1]; kernel_rfl) (by rw [e2]; exact LaidIn.none)
  refine laidMetH_of_parts ?_ (by kernel_rfl)
  exact h.of_heap (by simp [World.memory, World.forCall, Input.heap])
end Go.Proofs.YtbdmmgmcbecolaaGreatDoor
namespace Go.Proofs.YtbdmmgmcbecolaaGreatDoor
open Go.RowKit
theorem faultsCell {H : Type} {enc : TypeId × Value → H} {W : World} {n : Nat} {c : Value} {x : DataW H × List MemPlace} (h : DataW.trod enc Tryz.prog W 0 (fun _ => true) true n 39 [c] = some x) : ∃ l, FaultsArg W c l := by
  rcases Go.Deep.open_slice Tryz.underlying39 h with ⟨hcs, _⟩ | ⟨a, len, cap, m, q, D, Pl, hcs, _⟩
  · injection hcs with h1 _
    subst h1
    exact faultsArg_of (d := x.1) (p := x.2) ⟨n, h⟩
  · injection hcs with h1 _
    subst h1
    exact faultsArg_of (d := x.1) (p := x.2) ⟨n, h⟩
end Go.Proofs.YtbdmmgmcbecolaaGreatDoor
namespace Go.Proofs.YtbdmmgmcbecolaaGreatDoor
open Go.RowKit
theorem len_8 {α : Type} {l : List α} (h : l.length = 8) : ∃ a b c d e f g i, l = [a, b, c, d, e, f, g, i] := by
  match l, h with
  | [a, b, c, d, e, f, g, i], _ => exact ⟨a, b, c, d, e, f, g, i, rfl⟩
theorem len_6 {α : Type} {l : List α} (h : l.length = 6) : ∃ a b c d e f, l = [a, b, c, d, e, f] := by
  match l, h with
  | [a, b, c, d, e, f], _ => exact ⟨a, b, c, d, e, f, rfl⟩
/-- what a case holds: a slice of faults, texts and numbers within their types -/
def CaseOk (W : World) (h p f : ByteArray) (v : Value) (l : List Flt) (hh hp : ByteArray) (t r : Int) : Prop :=
  FaultsArg W v l ∧ (h.size ≤ maxLen ∧ p.size ≤ maxLen ∧ f.size ≤ maxLen ∧ hh.size ≤ maxLen ∧ hp.size ≤ maxLen) ∧ (Lit.int .i64 t).wf = true ∧ (Lit.int .i64 r).wf = true
set_option maxRecDepth 100000 in
theorem case_open {H : Type} {enc : TypeId × Value → H} {W : World} {r : Reach} {b0 : Nat} {v : Value} {d : DataW H} {p : List MemPlace} (hv : Value.okWide Tryz.prog W r b0 41 v) (h : DataW.Trod enc Tryz.prog W 0 (fun _ => true) true 41 v d p) :
    ∃ (a0 a1 a2 : ByteArray) (a3 : Value) (a4 a5 : ByteArray) (a6 a7 : Int), v = .agg #[.string a0, .string a1, .string a2, a3, .string a4, .string a5, .int .i64 a6, .int .i64 a7] ∧ ∃ l, CaseOk W a0 a1 a2 a3 l a4 a5 a6 a7 := by
  obtain ⟨cs, rfl, hsz⟩ := Go.WideShapes.okWide_struct Tryz.underlying41 hv
  have hs2 : cs.toList.length = 8 := by rw [Array.length_toList]; exact hsz.trans (show Tryz.prog.cellsOf 41 = 8 by kernel_rfl)
  obtain ⟨c0, c1, c2, c3, c4, c5, c6, c7, hc⟩ := len_8 hs2
  obtain rfl : cs = #[c0, c1, c2, c3, c4, c5, c6, c7] := by rw [← Array.toList_inj, hc]
  obtain ⟨fuel, hf⟩ := h
  obtain ⟨xs, k, _, _, _, hxl, hg⟩ := DataW.trod_struct Tryz.underlying41 hf
  have hxl2 : xs.length = 6 := hxl
  obtain ⟨z0, z1, z2, z3, z4, z5, rfl⟩ := len_6 hxl2
  have hSs : Tryz.prog.cellsOf 9 = 1 := by kernel_rfl
  have hSi : Tryz.prog.cellsOf 3 = 1 := by kernel_rfl
  have hSf : Tryz.prog.cellsOf 39 = 1 := by kernel_rfl
  have hSo : Tryz.prog.cellsOf 38 = 3 := by kernel_rfl
  have g0 : DataW.trod enc Tryz.prog W 0 (fun _ => true) true k 38 (([c0, c1, c2, c3, c4, c5, c6, c7].drop 0).take (Tryz.prog.cellsOf 38)) = some z0 := hg 0 _ rfl
  have g1 : DataW.trod enc Tryz.prog W 0 (fun _ => true) true k 39 (([c0, c1, c2, c3, c4, c5, c6, c7].drop 3).take (Tryz.prog.cellsOf 39)) = some z1 := hg 1 _ rfl
  have g2 : DataW.trod enc Tryz.prog W 0 (fun _ => true) true k 9 (([c0, c1, c2, c3, c4, c5, c6, c7].drop 4).take (Tryz.prog.cellsOf 9)) = some z2 := hg 2 _ rfl
  have g3 : DataW.trod enc Tryz.prog W 0 (fun _ => true) true k 9 (([c0, c1, c2, c3, c4, c5, c6, c7].drop 5).take (Tryz.prog.cellsOf 9)) = some z3 := hg 3 _ rfl
  have g4 : DataW.trod enc Tryz.prog W 0 (fun _ => true) true k 3 (([c0, c1, c2, c3, c4, c5, c6, c7].drop 6).take (Tryz.prog.cellsOf 3)) = some z4 := hg 4 _ rfl
  have g5 : DataW.trod enc Tryz.prog W 0 (fun _ => true) true k 3 (([c0, c1, c2, c3, c4, c5, c6, c7].drop 7).take (Tryz.prog.cellsOf 3)) = some z5 := hg 5 _ rfl
  rw [hSo] at g0
  rw [hSf] at g1
  rw [hSs] at g2 g3
  rw [hSi] at g4 g5
  simp at g0 g1 g2 g3 g4 g5
  obtain ⟨ys, m, _, _, _, hyl, hq⟩ := DataW.trod_struct Tryz.underlying38 g0
  have hyl2 : ys.length = 3 := hyl
  obtain ⟨y0, y1, y2, rfl⟩ := len_3 hyl2
  have q0 : DataW.trod enc Tryz.prog W 0 (fun _ => true) true m 9 (([c0, c1, c2].drop 0).take (Tryz.prog.cellsOf 9)) = some y0 := hq 0 _ rfl
  have q1 : DataW.trod enc Tryz.prog W 0 (fun _ => true) true m 9 (([c0, c1, c2].drop 1).take (Tryz.prog.cellsOf 9)) = some y1 := hq 1 _ rfl
  have q2 : DataW.trod enc Tryz.prog W 0 (fun _ => true) true m 9 (([c0, c1, c2].drop 2).take (Tryz.prog.cellsOf 9)) = some y2 := hq 2 _ rfl
  rw [hSs] at q0 q1 q2
  simp at q0 q1 q2
  obtain ⟨a0, e0, b0'⟩ := str_cell q0
  obtain ⟨a1, e1, b1⟩ := str_cell q1
  obtain ⟨a2, e2, b2⟩ := str_cell q2
  obtain ⟨l, hl⟩ := faultsCell g1
  obtain ⟨a4, e4, b4⟩ := str_cell g2
  obtain ⟨a5, e5, b5⟩ := str_cell g3
  obtain ⟨a6, e6, b6⟩ := int_cell g4
  obtain ⟨a7, e7, b7⟩ := int_cell g5
  simp at e0 e1 e2 e4 e5 e6 e7
  subst e0 e1 e2 e4 e5 e6 e7
  exact ⟨a0, a1, a2, c3, a4, a5, a6, a7, rfl, l, hl, ⟨b0', b1, b2, b4, b5⟩, b6, b7⟩
end Go.Proofs.YtbdmmgmcbecolaaGreatDoor
namespace Go.Proofs.YtbdmmgmcbecolaaGreatDoor
open Go.RowKit
theorem eight_facts {w : World} {b : Nat} {x0 x1 x2 x3 x4 x5 x6 x7 : Value} {t : TypeId} (k : w.heap[b]? = some (.cells #[x0, x1, x2, x3, x4, x5, x6, x7] t (0, 0))) :
    (w.cell? ⟨b, 0, none⟩ = some x0 ∧ w.cell? ⟨b, 1, none⟩ = some x1 ∧ w.cell? ⟨b, 2, none⟩ = some x2 ∧ w.cell? ⟨b, 3, none⟩ = some x3 ∧ w.cell? ⟨b, 4, none⟩ = some x4 ∧ w.cell? ⟨b, 5, none⟩ = some x5 ∧ w.cell? ⟨b, 6, none⟩ = some x6 ∧ w.cell? ⟨b, 7, none⟩ = some x7) ∧ w.frozen? ⟨b, 4, none⟩ = false ∧ w.frozen? ⟨b, 5, none⟩ = false ∧ w.frozen? ⟨b, 6, none⟩ = false := by
  refine ⟨⟨?_, ?_, ?_, ?_, ?_, ?_, ?_, ?_⟩, ?_, ?_, ?_⟩
  all_goals first
    | (unfold World.cell?; rw [k]; rfl)
    | (unfold World.frozen?; rw [k]; rfl)
def overX (h p f : ByteArray) (l : List Flt) (hh hp : ByteArray) (file : Int) (N : Nat) : Bool := overO h.data.toList p.data.toList f.data.toList file || overC l N || decide (300 < hh.size) || decide (300 < hp.size)
theorem below_c8 (w : World) (c : Array Value) (t : TypeId) : Below w.heap.size w (w.alloc (.cells c t)) := (Below.refl _ _).alloc (Nat.le_refl _) _
set_option maxRecDepth 100000 in
set_option maxHeartbeats 4000000 in
theorem case_over (h p f : ByteArray) (v : Value) (l : List Flt) (hh hp : ByteArray) (t r : Int) (file : Int) (N : Nat) (w : World) (hN : N ≤ 100000) (hv : HoldsC w v l) (hl : l.length ≤ maxLen) :
    Calls Tryz.prog 15 #[.agg #[.string h, .string p, .string f, v, .string hh, .string hp, .int .i64 t, .int .i64 r], .int .i64 file, .int .i64 (N : Int)] w fun e w' => e = .returned (.bool (overX h p f l hh hp file N)) ∧ Below w.heap.size w w' := by
  have HOv := Lib.hid (fun w => ref_oover h p f file w)
  have HB0 := Lib.hid (below_c8 w #[.string h, .string p, .string f, v, .string hh, .string hp, .int .i64 t, .int .i64 r] 41)
  have HOf := Lib.hid (fun W (hW : Below w.heap.size w W) => over28s v l N W hN (hv.below hW) hl)
  have HX0 := Lib.hid (heap_alloc_new w (.cells #[.string h, .string p, .string f, v, .string hh, .string hp, .int .i64 t, .int .i64 r] 41))
  obtain ⟨a, c, hvv, -⟩ := hv.len
  subst hvv
  obtain ⟨q0, q1, q2⟩ := (eight_facts HX0.out).1
  have HXl : Hid (w.heap.size < (w.alloc (.cells #[.string h, .string p, .string f, .slice a l.length c, .string hh, .string hp, .int .i64 t, .int .i64 r] 41)).heap.size) := Lib.hid (by simp)
  clear hv hl
  unfold overX
  cases h1 : overO h.data.toList p.data.toList f.data.toList file with
  | true =>
    rw [h1] at HOv
    clear h1
    go_enter Tryz.func15, Tryz.ntmps15
    go_wp2_with fail
    refine (HOv.out _).mono ?_
    rintro e w1 ⟨rfl, hb1⟩
    have HB1 := Lib.hid (bstep HB0.out hb1)
    have hx1 := (hb1.block _ HXl.out).trans HX0.out
    obtain ⟨⟨-, -, -, y3, y4, y5, -, -⟩, -⟩ := eight_facts hx1
    clear hb1 hx1
    go_wp2_with fail
    go_ret
    exact ⟨rfl, HB1.out⟩
  | false =>
  rw [h1] at HOv
  cases h2 : overC l N with
  | true =>
    rw [h2] at HOf
    clear h1 h2
    go_enter Tryz.func15, Tryz.ntmps15
    go_wp2_with fail
    refine (HOv.out _).mono ?_
    rintro e w1 ⟨rfl, hb1⟩
    have HB1 := Lib.hid (bstep HB0.out hb1)
    have hx1 := (hb1.block _ HXl.out).trans HX0.out
    obtain ⟨⟨-, -, -, y3, y4, y5, -, -⟩, -⟩ := eight_facts hx1
    clear hb1 hx1
    go_wp2_with fail
    refine (HOf.out _ HB1.out).mono ?_
    rintro e w2 ⟨rfl, hww⟩
    obtain rfl := hww.symm
    clear hww
    go_wp2_with fail
    go_ret
    exact ⟨rfl, HB1.out⟩
  | false =>
  rw [h2] at HOf
  by_cases h3 : (300 : Int) < (hh.size : Int)
  · have t3 : decide ((hh.size : Int) > 300) = true := decide_eq_true h3
    have HA : Hid ((false || false || decide (300 < hh.size) || decide (300 < hp.size)) = true) := Lib.hid (by rw [decide_eq_true (show 300 < hh.size by omega)]; rfl)
    clear h1 h2 h3
    go_enter Tryz.func15, Tryz.ntmps15
    go_wp2_with fail
    refine (HOv.out _).mono ?_
    rintro e w1 ⟨rfl, hb1⟩
    have HB1 := Lib.hid (bstep HB0.out hb1)
    have hx1 := (hb1.block _ HXl.out).trans HX0.out
    obtain ⟨⟨-, -, -, y3, y4, y5, -, -⟩, -⟩ := eight_facts hx1
    clear hb1 hx1
    go_wp2_with fail
    refine (HOf.out _ HB1.out).mono ?_
    rintro e w2 ⟨rfl, hww⟩
    obtain rfl := hww.symm
    clear hww
    go_wp2_with fail
    go_ret
    exact ⟨by rw [HA.out] <;> rfl, HB1.out⟩
  have t3 : decide ((hh.size : Int) > 300) = false := decide_eq_false h3
  obtain ⟨B, hB⟩ : ∃ B, decide ((hp.size : Int) > 300) = B := ⟨_, rfl⟩
  have HA : Hid ((false || false || decide (300 < hh.size) || decide (300 < hp.size)) = B) := Lib.hid (by
    rw [← hB, decide_eq_false (show ¬ 300 < hh.size by omega)]
    show decide (300 < hp.size) = decide ((hp.size : Int) > 300)
    exact decide_eq_decide.2 (by omega))
  clear h1 h2 h3
  go_enter Tryz.func15, Tryz.ntmps15
  go_wp2_with fail
  refine (HOv.out _).mono ?_
  rintro e w1 ⟨rfl, hb1⟩
  have HB1 := Lib.hid (bstep HB0.out hb1)
  have hx1 := (hb1.block _ HXl.out).trans HX0.out
  obtain ⟨⟨-, -, -, y3, y4, y5, -, -⟩, -⟩ := eight_facts hx1
  clear hb1 hx1
  go_wp2_with fail
  refine (HOf.out _ HB1.out).mono ?_
  rintro e w2 ⟨rfl, hww⟩
  obtain rfl := hww.symm
  clear hww
  go_wp2_with fail
  go_ret
  exact ⟨by rw [HA.out] <;> rfl, HB1.out⟩
theorem overX_ok {h p f : ByteArray} {l : List Flt} {hh hp : ByteArray} {file : Int} {N : Nat} (hx : overX h p f l hh hp file N = false) : overO h.data.toList p.data.toList f.data.toList file = false ∧ overC l N = false ∧ hh.size ≤ 300 ∧ hp.size ≤ 300 := by
  unfold overX at hx
  simp only [Bool.or_eq_false_iff, decide_eq_false_iff_not] at hx
  exact ⟨hx.1.1.1, hx.1.1.2, by omega, by omega⟩
set_option maxRecDepth 100000 in
set_option maxHeartbeats 4000000 in
theorem case_own_no (h p f : ByteArray) (v : Value) (l : List Flt) (hh hp : ByteArray) (t r : Int) (w : World) (hv : HoldsC w v l) (hl : l.length ≤ 100) (hO : orgE h.data.toList p.data.toList ≠ 0) :
    Calls Tryz.prog 16 #[.agg #[.string h, .string p, .string f, v, .string hh, .string hp, .int .i64 t, .int .i64 r]] w fun e w' => e = .returned (.tuple #[.pointer none, .pointer none, .int .i64 2]) ∧ Below w.heap.size w w' := by
  have HB0 := Lib.hid (below_c8 w #[.string h, .string p, .string f, v, .string hh, .string hp, .int .i64 t, .int .i64 r] 41)
  have HX0 := Lib.hid (heap_alloc_new w (.cells #[.string h, .string p, .string f, v, .string hh, .string hp, .int .i64 t, .int .i64 r] 41))
  have HFS := Lib.hid (fun W (hW : Below w.heap.size w W) => law29_faults v l W (hv.below hW) (by omega))
  have HNb := Lib.hid (fun v W => link_new_bad h p f v W hO)
  clear hv hl hO
  go_enter Tryz.func16, Tryz.ntmps16
  go_wp2_with fail
  generalize w.alloc (.cells #[.string h, .string p, .string f, v, .string hh, .string hp, .int .i64 t, .int .i64 r] 41) = W0 at HB0 HX0 ⊢
  generalize w.heap.size = X at HX0 ⊢
  have HS : Hid (∀ W, Below W0.heap.size W0 W → W.cell? ⟨X, 0, none⟩ = some (.string h) ∧ W.cell? ⟨X, 1, none⟩ = some (.string p) ∧ W.cell? ⟨X, 2, none⟩ = some (.string f) ∧ W.cell? ⟨X, 3, none⟩ = some v) := Lib.hid (fun W hW => by
    obtain ⟨⟨q0, q1, q2, q3, -⟩, -⟩ := eight_facts ((hW.block X (Array.getElem?_eq_some_iff.1 HX0.out).1).trans HX0.out)
    exact ⟨q0, q1, q2, q3⟩)
  have HDr : Hid (Below W0.heap.size W0 W0.drew) := Lib.hid (Below.refl _ _).drew
  go_region_held3 (fun w' => w'.cell? ⟨X, 0, none⟩ = some (.string h) ∧ w'.cell? ⟨X, 1, none⟩ = some (.string p) ∧ w'.cell? ⟨X, 2, none⟩ = some (.string f) ∧ w'.cell? ⟨X, 3, none⟩ = some v) (first | exact HS.out _ HDr.out | exact HS.out _ HX1.out | exact HS.out _ HX2.out)
    (first
      | (go_at_call 37; refine (HFS.out _ (bstep HB0.out HDr.out)).mono ?_; rintro e wa ⟨a1, c1, rfl, -, hba⟩; have HX1 : Hid (Below W0.heap.size W0 wa) := Lib.hid (bstep HDr.out hba); clear hba)
      | (go_at_call 24; refine (HNb.out _ _).mono ?_; rintro e wb ⟨rfl, hbb⟩; have HX2 : Hid (Below W0.heap.size W0 wb) := Lib.hid (bstep HX1.out hbb); clear hbb))
  all_goals
    go_wp2_with fail
    go_ret3
    exact ⟨rfl, bstep HB0.out HX2.out⟩
end Go.Proofs.YtbdmmgmcbecolaaGreatDoor
namespace Go.Proofs.YtbdmmgmcbecolaaGreatDoor
open Go.RowKit
/-- the document's client, as a value -/
abbrev cliV (h p f : ByteArray) (x3 x4 : Value) (n : Int) (hh hp : ByteArray) (t r a m : Int) : Value := .agg #[.string h, .string p, .string f, x3, x4, .int .i64 n, .string hh, .string hp, .int .i64 t, .int .i64 r, .int .i64 a, .int .i64 m]
abbrev cliC (h p f : ByteArray) (x3 x4 : Value) (n : Int) (hh hp : ByteArray) (t r a m : Int) : Array Value := #[.string h, .string p, .string f, x3, x4, .int .i64 n, .string hh, .string hp, .int .i64 t, .int .i64 r, .int .i64 a, .int .i64 m]
theorem twelve_facts {w : World} {b : Nat} {x0 x1 x2 x3 x4 x5 x6 x7 x8 x9 xa xb : Value} {t : TypeId} (k : w.heap[b]? = some (.cells #[x0, x1, x2, x3, x4, x5, x6, x7, x8, x9, xa, xb] t (0, 0))) :
    (w.cell? ⟨b, 0, none⟩ = some x0 ∧ w.cell? ⟨b, 1, none⟩ = some x1 ∧ w.cell? ⟨b, 2, none⟩ = some x2 ∧ w.cell? ⟨b, 3, none⟩ = some x3 ∧ w.cell? ⟨b, 4, none⟩ = some x4 ∧ w.cell? ⟨b, 5, none⟩ = some x5) ∧ w.cell? ⟨b, 6, none⟩ = some x6 ∧ w.cell? ⟨b, 7, none⟩ = some x7 ∧ w.cell? ⟨b, 8, none⟩ = some x8 ∧ w.cell? ⟨b, 9, none⟩ = some x9 ∧ w.cell? ⟨b, 10, none⟩ = some xa ∧ w.cell? ⟨b, 11, none⟩ = some xb := by
  refine ⟨⟨?_, ?_, ?_, ?_, ?_, ?_⟩, ?_, ?_, ?_, ?_, ?_, ?_⟩
  all_goals (unfold World.cell?; rw [k]; rfl)
set_option maxRecDepth 100000 in
set_option maxHeartbeats 4000000 in
theorem ref_cli_check (h p f : ByteArray) (x3 x4 : Value) (n : Int) (hh hp : ByteArray) (t r a m : Int) (w : World) (bh : hh.size ≤ 9223372036854775807) (bp : hp.size ≤ 9223372036854775807) :
    Calls Tryz.prog 39 #[cliV h p f x3 x4 n hh hp t r a m] w fun e w' => e = .returned (.int .i64 (cliE hh.data.toList hp.data.toList t r : Nat)) ∧ Below w.heap.size w w' := by
  have HP := Lib.hid (fun w => ref_path hp w bp)
  have HH := Lib.hid (fun w => ref_host hh w bh)
  have HB0 := Lib.hid (below_c8 w (cliC h p f x3 x4 n hh hp t r a m) 52)
  obtain ⟨-, y6, y7, y8, y9, -, -⟩ := twelve_facts (heap_alloc_new w (.cells (cliC h p f x3 x4 n hh hp t r a m) 52))
  obtain ⟨P, hP⟩ : ∃ P, pathB hp.data.toList = P := ⟨_, rfl⟩
  obtain ⟨H, hH⟩ : ∃ H, hostB hh.data.toList = H := ⟨_, rfl⟩
  obtain ⟨A, hA⟩ : ∃ A, decide (t < 0) = A := ⟨_, rfl⟩
  obtain ⟨B, hB⟩ : ∃ B, decide (t > 9007199254740991) = B := ⟨_, rfl⟩
  obtain ⟨C, hC⟩ : ∃ C, decide (r < 0) = C := ⟨_, rfl⟩
  obtain ⟨D, hD⟩ : ∃ D, decide (r > 8) = D := ⟨_, rfl⟩
  have HR : Hid (cliE hh.data.toList hp.data.toList t r = if (!P || !H || A || B || C || D) = true then 2 else 0) := Lib.hid (by
    have e1 : orgE hh.data.toList hp.data.toList ≠ 0 ↔ (!P || !H) = true := by
      unfold orgE
      rw [hP, hH]
      cases P <;> cases H <;> decide
    have e2 : (orgE hh.data.toList hp.data.toList ≠ 0 ∨ t < 0 ∨ 9007199254740991 < t ∨ r < 0 ∨ 8 < r) ↔ (!P || !H || A || B || C || D) = true := by
      rw [e1, ← hA, ← hB, ← hC, ← hD]
      simp only [Bool.or_eq_true, decide_eq_true_eq, or_assoc, gt_iff_lt]
    unfold cliE
    by_cases hq : (!P || !H || A || B || C || D) = true
    · rw [if_pos (e2.2 hq), if_pos hq]
    · rw [if_neg (fun h => hq (e2.1 h)), if_neg hq])
  rw [hP] at HP
  rw [hH] at HH
  clear hP hH bh bp
  cases P
  · clear hA hB hC hD
    go_enter Tryz.func39, Tryz.ntmps39
    go_wp2_with fail
    refine (HP.out _).mono ?_
    rintro e w' ⟨rfl, hww⟩
    obtain rfl := hww.symm
    go_wp2_with fail
    go_ret
    exact ⟨by rw [HR.out] <;> rfl, HB0.out⟩
  cases H
  · clear hA hB hC hD
    go_enter Tryz.func39, Tryz.ntmps39
    go_wp2_with fail
    refine (HP.out _).mono ?_
    rintro e w' ⟨rfl, hww⟩
    obtain rfl := hww.symm
    go_wp2_with fail
    refine (HH.out _).mono ?_
    rintro e w' ⟨rfl, hww⟩
    obtain rfl := hww.symm
    go_wp2_with fail
    go_ret
    exact ⟨by rw [HR.out] <;> rfl, HB0.out⟩
  cases A
  · cases B
    · cases C
      · cases D
        all_goals
          go_enter Tryz.func39, Tryz.ntmps39
          go_wp2_with fail
          refine (HP.out _).mono ?_
          rintro e w' ⟨rfl, hww⟩
          obtain rfl := hww.symm
          go_wp2_with fail
          refine (HH.out _).mono ?_
          rintro e w' ⟨rfl, hww⟩
          obtain rfl := hww.symm
          go_wp2_with fail
          go_ret
          exact ⟨by rw [HR.out] <;> rfl, HB0.out⟩
      · go_enter Tryz.func39, Tryz.ntmps39
        go_wp2_with fail
        refine (HP.out _).mono ?_
        rintro e w' ⟨rfl, hww⟩
        obtain rfl := hww.symm
        go_wp2_with fail
        refine (HH.out _).mono ?_
        rintro e w' ⟨rfl, hww⟩
        obtain rfl := hww.symm
        go_wp2_with fail
        go_ret
        exact ⟨by rw [HR.out] <;> rfl, HB0.out⟩
    · go_enter Tryz.func39, Tryz.ntmps39
      go_wp2_with fail
      refine (HP.out _).mono ?_
      rintro e w' ⟨rfl, hww⟩
      obtain rfl := hww.symm
      go_wp2_with fail
      refine (HH.out _).mono ?_
      rintro e w' ⟨rfl, hww⟩
      obtain rfl := hww.symm
      go_wp2_with fail
      go_ret
      exact ⟨by rw [HR.out] <;> rfl, HB0.out⟩
  · go_enter Tryz.func39, Tryz.ntmps39
    go_wp2_with fail
    refine (HP.out _).mono ?_
    rintro e w' ⟨rfl, hww⟩
    obtain rfl := hww.symm
    go_wp2_with fail
    refine (HH.out _).mono ?_
    rintro e w' ⟨rfl, hww⟩
    obtain rfl := hww.symm
    go_wp2_with fail
    go_ret
    exact ⟨by rw [HR.out] <;> rfl, HB0.out⟩
set_option maxRecDepth 100000 in
set_option maxHeartbeats 4000000 in
theorem case_own_bad (h p f : ByteArray) (v : Value) (l : List Flt) (hh hp : ByteArray) (t r : Int) (w : World) (hv : HoldsC w v l) (hl : l.length ≤ 100) (hO : orgE h.data.toList p.data.toList = 0) (hc : cliE hh.data.toList hp.data.toList t r ≠ 0) :
    Calls Tryz.prog 16 #[.agg #[.string h, .string p, .string f, v, .string hh, .string hp, .int .i64 t, .int .i64 r]] w fun e w' => (∃ P : Nat, e = .returned (.tuple #[.pointer none, .pointer (some ⟨P, 0, none⟩), .int .i64 2])) ∧ Below w.heap.size w w' := by
  have HB0 := Lib.hid (below_c8 w #[.string h, .string p, .string f, v, .string hh, .string hp, .int .i64 t, .int .i64 r] 41)
  have HX0 := Lib.hid (heap_alloc_new w (.cells #[.string h, .string p, .string f, v, .string hh, .string hp, .int .i64 t, .int .i64 r] 41))
  have HFS := Lib.hid (fun W (hW : Below w.heap.size w W) => law29_faults v l W (hv.below hW) (by omega))
  have HNk := Lib.hid (fun W v hv => link_new h p f v l W hO hv (by omega))
  have HFb := Lib.hid (fun P w => fetch_new_bad P hh hp t r w hc)
  clear hv hl hO hc
  go_enter Tryz.func16, Tryz.ntmps16
  go_wp2_with fail
  generalize w.alloc (.cells #[.string h, .string p, .string f, v, .string hh, .string hp, .int .i64 t, .int .i64 r] 41) = W0 at HB0 HX0 ⊢
  generalize w.heap.size = X at HX0 ⊢
  have HS : Hid (∀ W, Below W0.heap.size W0 W → (W.cell? ⟨X, 0, none⟩ = some (.string h) ∧ W.cell? ⟨X, 1, none⟩ = some (.string p) ∧ W.cell? ⟨X, 2, none⟩ = some (.string f) ∧ W.cell? ⟨X, 3, none⟩ = some v) ∧ W.cell? ⟨X, 4, none⟩ = some (.string hh) ∧ W.cell? ⟨X, 5, none⟩ = some (.string hp) ∧ W.cell? ⟨X, 6, none⟩ = some (.int .i64 t) ∧ W.cell? ⟨X, 7, none⟩ = some (.int .i64 r)) := Lib.hid (fun W hW => by
    obtain ⟨⟨q0, q1, q2, q3, q4, q5, q6, q7⟩, -⟩ := eight_facts ((hW.block X (Array.getElem?_eq_some_iff.1 HX0.out).1).trans HX0.out)
    exact ⟨⟨q0, q1, q2, q3⟩, q4, q5, q6, q7⟩)
  have HDr : Hid (Below W0.heap.size W0 W0.drew) := Lib.hid (Below.refl _ _).drew
  go_region_held3 (fun w' => w'.cell? ⟨X, 0, none⟩ = some (.string h) ∧ w'.cell? ⟨X, 1, none⟩ = some (.string p) ∧ w'.cell? ⟨X, 2, none⟩ = some (.string f) ∧ w'.cell? ⟨X, 3, none⟩ = some v) (first | exact (HS.out _ HDr.out).1 | exact (HS.out _ HX1.out).1 | exact (HS.out _ HX2.out).1)
    (first
      | (go_at_call 37; refine (HFS.out _ (bstep HB0.out HDr.out)).mono ?_; rintro e wa ⟨a1, c1, rfl, ho1, hba⟩; have HX1 : Hid (Below W0.heap.size W0 wa) := Lib.hid (bstep HDr.out hba); have HO1 := Lib.hid (HoldsC.of_own ho1); clear hba ho1)
      | (go_at_call 24; refine (HNk.out _ _ HO1.out).mono ?_; rintro e wb hnew; obtain ⟨P, rv, rfl, hPlo, hk1, hbb⟩ := KL.new HX1.out hnew; have HX2 : Hid (Below W0.heap.size W0 wb) := Lib.hid (bstep HX1.out hbb); clear hbb hnew hk1 hPlo))
  all_goals
    obtain ⟨-, q4, q5, q6, q7⟩ := HS.out _ HX2.out
    go_wp2_with fail
    refine (HFb.out _ _).mono ?_
    rintro e wc ⟨rfl, hbc⟩
    go_wp2_with fail
    go_ret3
    exact ⟨⟨P, rfl⟩, bstep HB0.out (bstep HX2.out hbc)⟩
set_option maxRecDepth 100000 in
set_option maxHeartbeats 4000000 in
theorem case_own (h p f : ByteArray) (v : Value) (l : List Flt) (hh hp : ByteArray) (t r : Int) (w0 w : World) (hb : Below w0.heap.size w0 w) (hv : HoldsC w v l) (hl : l.length ≤ 100) (hO : orgE h.data.toList p.data.toList = 0) (hc : cliE hh.data.toList hp.data.toList t r = 0) :
    Calls Tryz.prog 16 #[.agg #[.string h, .string p, .string f, v, .string hh, .string hp, .int .i64 t, .int .i64 r]] w fun e w' => ∃ Cb P rv, e = .returned (.tuple #[.pointer (some ⟨Cb, 0, none⟩), .pointer (some ⟨P, 0, none⟩), .int .i64 0]) ∧ FC w0 w' Cb P hh hp t r h p f l [] 0 0 0 rv (.slice none 0 0) ∧ Below w.heap.size w w' := by
  have HB0 := Lib.hid (below_c8 w #[.string h, .string p, .string f, v, .string hh, .string hp, .int .i64 t, .int .i64 r] 41)
  have HX0 := Lib.hid (heap_alloc_new w (.cells #[.string h, .string p, .string f, v, .string hh, .string hp, .int .i64 t, .int .i64 r] 41))
  have HFS := Lib.hid (fun W (hW : Below w.heap.size w W) => law29_faults v l W (hv.below hW) (by omega))
  have HNk := Lib.hid (fun W v hv => link_new h p f v l W hO hv (by omega))
  have HFn := Lib.hid (fun P rv lv w k => fetch_new w0 P hh hp t r h p f l [] 0 rv lv w k hc)
  have HB := Lib.hid hb
  clear hv hl hO hc hb
  go_enter Tryz.func16, Tryz.ntmps16
  go_wp2_with fail
  generalize w.alloc (.cells #[.string h, .string p, .string f, v, .string hh, .string hp, .int .i64 t, .int .i64 r] 41) = W0 at HB0 HX0 ⊢
  generalize w.heap.size = X at HX0 ⊢
  have HS : Hid (∀ W, Below W0.heap.size W0 W → (W.cell? ⟨X, 0, none⟩ = some (.string h) ∧ W.cell? ⟨X, 1, none⟩ = some (.string p) ∧ W.cell? ⟨X, 2, none⟩ = some (.string f) ∧ W.cell? ⟨X, 3, none⟩ = some v) ∧ W.cell? ⟨X, 4, none⟩ = some (.string hh) ∧ W.cell? ⟨X, 5, none⟩ = some (.string hp) ∧ W.cell? ⟨X, 6, none⟩ = some (.int .i64 t) ∧ W.cell? ⟨X, 7, none⟩ = some (.int .i64 r)) := Lib.hid (fun W hW => by
    obtain ⟨⟨q0, q1, q2, q3, q4, q5, q6, q7⟩, -⟩ := eight_facts ((hW.block X (Array.getElem?_eq_some_iff.1 HX0.out).1).trans HX0.out)
    exact ⟨⟨q0, q1, q2, q3⟩, q4, q5, q6, q7⟩)
  have HDr : Hid (Below W0.heap.size W0 W0.drew) := Lib.hid (Below.refl _ _).drew
  go_region_held3 (fun w' => w'.cell? ⟨X, 0, none⟩ = some (.string h) ∧ w'.cell? ⟨X, 1, none⟩ = some (.string p) ∧ w'.cell? ⟨X, 2, none⟩ = some (.string f) ∧ w'.cell? ⟨X, 3, none⟩ = some v) (first | exact (HS.out _ HDr.out).1 | exact (HS.out _ HX1.out).1 | exact (HS.out _ HX2.out).1)
    (first
      | (go_at_call 37; refine (HFS.out _ (bstep HB0.out HDr.out)).mono ?_; rintro e wa ⟨a1, c1, rfl, ho1, hba⟩; have HX1 : Hid (Below W0.heap.size W0 wa) := Lib.hid (bstep HDr.out hba); have HO1 := Lib.hid (HoldsC.of_own ho1); clear hba ho1)
      | (go_at_call 24; refine (HNk.out _ _ HO1.out).mono ?_; rintro e wb hnew; obtain ⟨P, rv, rfl, hPlo, hk1, hbb⟩ := KL.new (bstep HB.out (bstep HB0.out HX1.out)) hnew; have HK1 := Lib.hid hk1; have HX2 : Hid (Below W0.heap.size W0 wb) := Lib.hid (bstep HX1.out hbb); clear hbb hnew hk1 hPlo))
  all_goals
    obtain ⟨-, q4, q5, q6, q7⟩ := HS.out _ HX2.out
    go_wp2_with fail
    refine (HFn.out _ _ _ _ HK1.out).mono ?_
    rintro e wc ⟨Cb, rfl, hf, hbc, hlo⟩
    have HF := Lib.hid hf
    have HX3 := Lib.hid (bstep HX2.out hbc)
    clear hf hbc hlo q4 q5 q6 q7
    go_wp2_with fail
    go_ret3
    exact ⟨Cb, P, rv, rfl, HF.out, bstep HB0.out HX3.out⟩
end Go.Proofs.YtbdmmgmcbecolaaGreatDoor
namespace Go.Proofs.YtbdmmgmcbecolaaGreatDoor
open Go.RowKit
theorem twelve_free {w : World} {b : Nat} {x0 x1 x2 x3 x4 x5 x6 x7 x8 x9 xa xb : Value} {t : TypeId} (k : w.heap[b]? = some (.cells #[x0, x1, x2, x3, x4, x5, x6, x7, x8, x9, xa, xb] t (0, 0))) :
    (w.frozen? ⟨b, 0, none⟩ = false ∧ w.frozen? ⟨b, 1, none⟩ = false ∧ w.frozen? ⟨b, 2, none⟩ = false ∧ w.frozen? ⟨b, 3, none⟩ = false ∧ w.frozen? ⟨b, 4, none⟩ = false ∧ w.frozen? ⟨b, 5, none⟩ = false) ∧ w.frozen? ⟨b, 6, none⟩ = false ∧ w.frozen? ⟨b, 7, none⟩ = false ∧ w.frozen? ⟨b, 8, none⟩ = false ∧ w.frozen? ⟨b, 9, none⟩ = false ∧ w.frozen? ⟨b, 10, none⟩ = false ∧ w.frozen? ⟨b, 11, none⟩ = false := by
  refine ⟨⟨?_, ?_, ?_, ?_, ?_, ?_⟩, ?_, ?_, ?_, ?_, ?_, ?_⟩
  all_goals (unfold World.frozen?; rw [k]; rfl)
abbrev set12 (w : World) (b : Nat) (y0 y1 y2 y3 y4 y5 y6 y7 y8 y9 ya yb : Value) : World := (((((((((((w.setCell ⟨b, 0, none⟩ y0).setCell ⟨b, 1, none⟩ y1).setCell ⟨b, 2, none⟩ y2).setCell ⟨b, 3, none⟩ y3).setCell ⟨b, 4, none⟩ y4).setCell ⟨b, 5, none⟩ y5).setCell ⟨b, 6, none⟩ y6).setCell ⟨b, 7, none⟩ y7).setCell ⟨b, 8, none⟩ y8).setCell ⟨b, 9, none⟩ y9).setCell ⟨b, 10, none⟩ ya).setCell ⟨b, 11, none⟩ yb
theorem twelve_all {w : World} {b : Nat} {x0 x1 x2 x3 x4 x5 x6 x7 x8 x9 xa xb : Value} {t : TypeId} (k : w.heap[b]? = some (.cells #[x0, x1, x2, x3, x4, x5, x6, x7, x8, x9, xa, xb] t (0, 0))) (y0 y1 y2 y3 y4 y5 y6 y7 y8 y9 ya yb : Value) :
    (set12 w b y0 y1 y2 y3 y4 y5 y6 y7 y8 y9 ya yb).heap[b]? = some (.cells #[y0, y1, y2, y3, y4, y5, y6, y7, y8, y9, ya, yb] t (0, 0)) := by
  simp [World.setCell, Array.getElem?_modify, k]
theorem twelve_below {B : Nat} {w0 w : World} (h : Below B w0 w) (b : Nat) (hB : B ≤ b) (y0 y1 y2 y3 y4 y5 y6 y7 y8 y9 ya yb : Value) : Below B w0 (set12 w b y0 y1 y2 y3 y4 y5 y6 y7 y8 y9 ya yb) :=
  (((((((((((h.setCell (p := ⟨b, 0, none⟩) hB _).setCell (p := ⟨b, 1, none⟩) hB _).setCell (p := ⟨b, 2, none⟩) hB _).setCell (p := ⟨b, 3, none⟩) hB _).setCell (p := ⟨b, 4, none⟩) hB _).setCell (p := ⟨b, 5, none⟩) hB _).setCell (p := ⟨b, 6, none⟩) hB _).setCell (p := ⟨b, 7, none⟩) hB _).setCell (p := ⟨b, 8, none⟩) hB _).setCell (p := ⟨b, 9, none⟩) hB _).setCell (p := ⟨b, 10, none⟩) hB _).setCell (p := ⟨b, 11, none⟩) hB _
theorem twelve_touch (w : World) (b : Nat) (y0 y1 y2 y3 y4 y5 y6 y7 y8 y9 ya yb : Value) : Touch (fun g => g = b) w (set12 w b y0 y1 y2 y3 y4 y5 y6 y7 y8 y9 ya yb) :=
  touch_set _ (touch_set _ (touch_set _ (touch_set _ (touch_set _ (touch_set _ (touch_set _ (touch_set _ (touch_set _ (touch_set _ (touch_set _ (touch_set _ (Touch.refl _ _) (.inl rfl)) (.inl rfl)) (.inl rfl)) (.inl rfl)) (.inl rfl)) (.inl rfl)) (.inl rfl)) (.inl rfl)) (.inl rfl)) (.inl rfl)) (.inl rfl)) (.inl rfl)
theorem load_rcli (w : World) (b : Nat) (t : TypeId) (x0 x1 x2 x3 x4 x5 x6 x7 x8 x9 xa xb : Value) (h : w.heap[b]? = some (.cells #[x0, x1, x2, x3, x4, x5, x6, x7, x8, x9, xa, xb] t (0, 0))) : (loadVar 52 ⟨b, 0, none⟩).run Tryz.prog w = .ok (.agg #[x0, x1, x2, x3, x4, x5, x6, x7, x8, x9, xa, xb]) w :=
  run_loadVar_row w b t 52 #[x0, x1, x2, x3, x4, x5, x6, x7, x8, x9, xa, xb] (0, 0) _ h Tryz.underlying52 rfl (by kernel_rfl)
/-- the blocks of Given -/
def gvW (w : World) (h p f : ByteArray) (v : Value) (hh hp : ByteArray) (t r : Int) : World :=
  ((w.alloc (.cells #[.string h, .string p, .string f, v, .string hh, .string hp, .int .i64 t, .int .i64 r] 41)).alloc (.cells (cliC ⟨#[]⟩ ⟨#[]⟩ ⟨#[]⟩ (.slice none 0 0) (.slice none 0 0) 0 ⟨#[]⟩ ⟨#[]⟩ 0 0 0 0) 52)).alloc (.cells (cliC h p f v (.slice none 0 0) 0 hh hp t r 0 0) 52)
structure GV (w W : World) (h p f : ByteArray) (v : Value) (hh hp : ByteArray) (t r : Int) : Prop where
  x : W.heap[w.heap.size]? = some (.cells #[.string h, .string p, .string f, v, .string hh, .string hp, .int .i64 t, .int .i64 r] 41 (0, 0))
  z : W.heap[w.heap.size + 1]? = some (.cells (cliC ⟨#[]⟩ ⟨#[]⟩ ⟨#[]⟩ (.slice none 0 0) (.slice none 0 0) 0 ⟨#[]⟩ ⟨#[]⟩ 0 0 0 0) 52 (0, 0))
  d : W.heap[w.heap.size + 1 + 1]? = some (.cells (cliC h p f v (.slice none 0 0) 0 hh hp t r 0 0) 52 (0, 0))
  b : Below w.heap.size w W
  s : w.heap.size + 3 ≤ W.heap.size
theorem GV.start (w : World) (h p f : ByteArray) (v : Value) (hh hp : ByteArray) (t r : Int) : GV w (gvW w h p f v hh hp t r) h p f v hh hp t r := by
  unfold gvW
  have hb : Below w.heap.size w (w.alloc (.cells #[.string h, .string p, .string f, v, .string hh, .string hp, .int .i64 t, .int .i64 r] 41)) := below_c8 _ _ _
  have e1 : (w.alloc (.cells #[.string h, .string p, .string f, v, .string hh, .string hp, .int .i64 t, .int .i64 r] 41)).heap.size = w.heap.size + 1 := by simp
  generalize hW1 : w.alloc (.cells #[.string h, .string p, .string f, v, .string hh, .string hp, .int .i64 t, .int .i64 r] 41) = W1 at hb e1
  have x1 : W1.heap[w.heap.size]? = some (.cells #[.string h, .string p, .string f, v, .string hh, .string hp, .int .i64 t, .int .i64 r] 41 (0, 0)) := by rw [← hW1]; exact heap_alloc_new w _
  have hb2 : Below W1.heap.size W1 (W1.alloc (.cells (cliC ⟨#[]⟩ ⟨#[]⟩ ⟨#[]⟩ (.slice none 0 0) (.slice none 0 0) 0 ⟨#[]⟩ ⟨#[]⟩ 0 0 0 0) 52)) := below_c8 _ _ _
  have z1 := heap_alloc_new W1 (.cells (cliC ⟨#[]⟩ ⟨#[]⟩ ⟨#[]⟩ (.slice none 0 0) (.slice none 0 0) 0 ⟨#[]⟩ ⟨#[]⟩ 0 0 0 0) 52)
  have e2 : (W1.alloc (.cells (cliC ⟨#[]⟩ ⟨#[]⟩ ⟨#[]⟩ (.slice none 0 0) (.slice none 0 0) 0 ⟨#[]⟩ ⟨#[]⟩ 0 0 0 0) 52)).heap.size = W1.heap.size + 1 := by simp
  generalize W1.alloc (.cells (cliC ⟨#[]⟩ ⟨#[]⟩ ⟨#[]⟩ (.slice none 0 0) (.slice none 0 0) 0 ⟨#[]⟩ ⟨#[]⟩ 0 0 0 0) 52) = W2 at hb2 z1 e2
  have hb3 : Below W2.heap.size W2 (W2.alloc (.cells (cliC h p f v (.slice none 0 0) 0 hh hp t r 0 0) 52)) := below_c8 _ _ _
  have d1 := heap_alloc_new W2 (.cells (cliC h p f v (.slice none 0 0) 0 hh hp t r 0 0) 52)
  have e3 : (W2.alloc (.cells (cliC h p f v (.slice none 0 0) 0 hh hp t r 0 0) 52)).heap.size = W2.heap.size + 1 := by simp
  have hb23 := bstep hb2 hb3
  refine ⟨(hb23.block _ (by omega)).trans x1, ?_, ?_, bstep hb hb23, by omega⟩
  · rw [← e1]; exact (hb3.block _ (by omega)).trans z1
  · rw [← e1, ← e2]; exact d1
theorem GV.below {w W W' : World} {h p f : ByteArray} {v : Value} {hh hp : ByteArray} {t r : Int} (k : GV w W h p f v hh hp t r) (hb : Below W.heap.size W W') : GV w W' h p f v hh hp t r :=
  have := k.s
  ⟨(hb.block _ (by omega)).trans k.x, (hb.block _ (by omega)).trans k.z, (hb.block _ (by omega)).trans k.d, bstep k.b hb, Nat.le_trans k.s hb.size⟩
/-- what the region reads -/
abbrev gvS (w : World) (h p f : ByteArray) (v : Value) (hh hp : ByteArray) (t r : Int) (W : World) : Prop :=
  (W.cell? ⟨w.heap.size, 0, none⟩ = some (.string h) ∧ W.cell? ⟨w.heap.size, 1, none⟩ = some (.string p) ∧ W.cell? ⟨w.heap.size, 2, none⟩ = some (.string f)) ∧
  ((W.cell? ⟨w.heap.size + 1 + 1, 0, none⟩ = some (.string h) ∧ W.cell? ⟨w.heap.size + 1 + 1, 1, none⟩ = some (.string p) ∧ W.cell? ⟨w.heap.size + 1 + 1, 2, none⟩ = some (.string f) ∧ W.cell? ⟨w.heap.size + 1 + 1, 3, none⟩ = some v ∧ W.cell? ⟨w.heap.size + 1 + 1, 4, none⟩ = some (.slice none 0 0) ∧ W.cell? ⟨w.heap.size + 1 + 1, 5, none⟩ = some (.int .i64 0)) ∧
    W.cell? ⟨w.heap.size + 1 + 1, 6, none⟩ = some (.string hh) ∧ W.cell? ⟨w.heap.size + 1 + 1, 7, none⟩ = some (.string hp) ∧ W.cell? ⟨w.heap.size + 1 + 1, 8, none⟩ = some (.int .i64 t) ∧ W.cell? ⟨w.heap.size + 1 + 1, 9, none⟩ = some (.int .i64 r) ∧ W.cell? ⟨w.heap.size + 1 + 1, 10, none⟩ = some (.int .i64 0) ∧ W.cell? ⟨w.heap.size + 1 + 1, 11, none⟩ = some (.int .i64 0))
theorem GV.S {w W : World} {h p f : ByteArray} {v : Value} {hh hp : ByteArray} {t r : Int} (k : GV w W h p f v hh hp t r) : gvS w h p f v hh hp t r W := by
  obtain ⟨⟨q0, q1, q2, -⟩, -⟩ := eight_facts k.x
  exact ⟨⟨q0, q1, q2⟩, twelve_facts k.d⟩
theorem GV.S' {w W : World} {h p f : ByteArray} {v : Value} {hh hp : ByteArray} {t r : Int} (k : GV w W h p f v hh hp t r) (y0 y1 y2 y3 y4 y5 y6 y7 y8 y9 ya yb : Value) : gvS w h p f v hh hp t r (set12 W (w.heap.size + 1) y0 y1 y2 y3 y4 y5 y6 y7 y8 y9 ya yb) := by
  have ht := twelve_touch W (w.heap.size + 1) y0 y1 y2 y3 y4 y5 y6 y7 y8 y9 ya yb
  have hs := k.s
  obtain ⟨⟨q0, q1, q2, -⟩, -⟩ := eight_facts ((ht.block w.heap.size (by omega) (show ¬ w.heap.size = w.heap.size + 1 by omega)).trans k.x)
  exact ⟨⟨q0, q1, q2⟩, twelve_facts ((ht.block (w.heap.size + 1 + 1) (by omega) (show ¬ w.heap.size + 1 + 1 = w.heap.size + 1 by omega)).trans k.d)⟩
set_option maxRecDepth 100000 in
set_option maxHeartbeats 4000000 in
theorem case_given (h p f : ByteArray) (v : Value) (l : List Flt) (hh hp : ByteArray) (t r : Int) (w : World) (hv : HoldsC w v l) (hO : orgE h.data.toList p.data.toList = 0) (b1 : h.size ≤ 1000000) (b2 : p.size ≤ 1000000) (b3 : hh.size ≤ 1000000) (b4 : hp.size ≤ 1000000) :
    Calls Tryz.prog 18 #[.agg #[.string h, .string p, .string f, v, .string hh, .string hp, .int .i64 t, .int .i64 r]] w fun e w' => e = .returned (.tuple #[cliV h p f v (.slice none 0 0) 0 hh hp t r 0 0, .bool (((cliE hh.data.toList hp.data.toList t r : Nat) : Int) == 0)]) ∧ Below w.heap.size w w' := by
  have HC := Lib.hid (fun w => ref_ocheck h p f w (by omega) (by omega))
  rw [hO] at HC
  have HX := Lib.hid (fun w => ref_cli_check h p f v (.slice none 0 0) 0 hh hp t r 0 0 w (by omega) (by omega))
  generalize ((cliE hh.data.toList hp.data.toList t r : Nat) : Int) = E at HX ⊢
  have HG := Lib.hid (GV.start w h p f v hh hp t r)
  obtain ⟨va, vc, hvv, -⟩ := hv.len
  subst hvv
  clear hO b1 b2 hv b3 b4
  go_enter Tryz.func18, Tryz.ntmps18
  go_wp2_with fail
  change Code.wp _ _ _ _ (gvW w h p f (.slice va l.length vc) hh hp t r)
  generalize gvW w h p f (.slice va l.length vc) hh hp t r = W0 at HG ⊢
  have HG0 := Lib.hid (HG.out.below (Below.refl _ W0).drew)
  go_region_held3 (fun W => (W.cell? ⟨w.heap.size, 0, none⟩ = some (.string h) ∧ W.cell? ⟨w.heap.size, 1, none⟩ = some (.string p) ∧ W.cell? ⟨w.heap.size, 2, none⟩ = some (.string f)) ∧ ((W.cell? ⟨w.heap.size + 1 + 1, 0, none⟩ = some (.string h) ∧ W.cell? ⟨w.heap.size + 1 + 1, 1, none⟩ = some (.string p) ∧ W.cell? ⟨w.heap.size + 1 + 1, 2, none⟩ = some (.string f) ∧ W.cell? ⟨w.heap.size + 1 + 1, 3, none⟩ = some (.slice va l.length vc) ∧ W.cell? ⟨w.heap.size + 1 + 1, 4, none⟩ = some (.slice none 0 0) ∧ W.cell? ⟨w.heap.size + 1 + 1, 5, none⟩ = some (.int .i64 0)) ∧ W.cell? ⟨w.heap.size + 1 + 1, 6, none⟩ = some (.string hh) ∧ W.cell? ⟨w.heap.size + 1 + 1, 7, none⟩ = some (.string hp) ∧ W.cell? ⟨w.heap.size + 1 + 1, 8, none⟩ = some (.int .i64 t) ∧ W.cell? ⟨w.heap.size + 1 + 1, 9, none⟩ = some (.int .i64 r) ∧ W.cell? ⟨w.heap.size + 1 + 1, 10, none⟩ = some (.int .i64 0) ∧ W.cell? ⟨w.heap.size + 1 + 1, 11, none⟩ = some (.int .i64 0))) (first | with_reducible exact HG0.out.S | with_reducible exact HG1.out.S | with_reducible exact HG2.out.S | with_reducible exact HG2.out.S' _ _ _ _ _ _ _ _ _ _ _ _)
    (first
      | (go_at_call 38; refine (HC.out _).mono ?_; rintro e wa ⟨rfl, hba⟩; have HG1 := Lib.hid (HG0.out.below hba); clear hba)
      | (go_at_call 39; refine (HX.out _).mono ?_; rintro e wb ⟨rfl, hbb⟩; have HG2 := Lib.hid (HG1.out.below hbb); obtain ⟨⟨f0, f1, f2, f3, f4, f5⟩, f6, f7, f8, f9, fa, fb⟩ := twelve_free HG2.out.z; obtain ⟨⟨z0, z1, z2, z3, z4, z5⟩, z6, z7, z8, z9, za, zb⟩ := twelve_facts HG2.out.z; clear hbb))
  all_goals
    go_wp2_with fail
    refine ret_cell2 (A := ⟨w.heap.size + 1, 0, none⟩) rfl (load_rcli _ _ _ _ _ _ _ _ _ _ _ _ _ _ _ (twelve_all HG2.out.z _ _ _ _ _ _ _ _ _ _ _ _)) rfl rfl rfl ?_
    exact ⟨rfl, twelve_below HG2.out.b _ (by omega) _ _ _ _ _ _ _ _ _ _ _ _⟩
set_option maxRecDepth 100000 in
set_option maxHeartbeats 4000000 in
theorem case_given_no (h p f : ByteArray) (v : Value) (l : List Flt) (hh hp : ByteArray) (t r : Int) (w : World) (hv : HoldsC w v l) (hO : orgE h.data.toList p.data.toList ≠ 0) (b1 : h.size ≤ 1000000) (b2 : p.size ≤ 1000000) :
    Calls Tryz.prog 18 #[.agg #[.string h, .string p, .string f, v, .string hh, .string hp, .int .i64 t, .int .i64 r]] w fun e w' => e = .returned (.tuple #[cliV h p f v (.slice none 0 0) 0 hh hp t r 0 0, .bool false]) ∧ Below w.heap.size w w' := by
  have HC := Lib.hid (fun w => ref_ocheck h p f w (by omega) (by omega))
  rw [orgE_two _ _ hO] at HC
  have HG := Lib.hid (GV.start w h p f v hh hp t r)
  obtain ⟨va, vc, hvv, -⟩ := hv.len
  subst hvv
  clear hO b1 b2 hv
  go_enter Tryz.func18, Tryz.ntmps18
  go_wp2_with fail
  change Code.wp _ _ _ _ (gvW w h p f (.slice va l.length vc) hh hp t r)
  generalize gvW w h p f (.slice va l.length vc) hh hp t r = W0 at HG ⊢
  have HG0 := Lib.hid (HG.out.below (Below.refl _ W0).drew)
  refine wp_region_noPanic ?_
  refine wp_region_held_drew (S := (fun W => (W.cell? ⟨w.heap.size, 0, none⟩ = some (.string h) ∧ W.cell? ⟨w.heap.size, 1, none⟩ = some (.string p) ∧ W.cell? ⟨w.heap.size, 2, none⟩ = some (.string f)) ∧ ((W.cell? ⟨w.heap.size + 1 + 1, 0, none⟩ = some (.string h) ∧ W.cell? ⟨w.heap.size + 1 + 1, 1, none⟩ = some (.string p) ∧ W.cell? ⟨w.heap.size + 1 + 1, 2, none⟩ = some (.string f) ∧ W.cell? ⟨w.heap.size + 1 + 1, 3, none⟩ = some (.slice va l.length vc) ∧ W.cell? ⟨w.heap.size + 1 + 1, 4, none⟩ = some (.slice none 0 0) ∧ W.cell? ⟨w.heap.size + 1 + 1, 5, none⟩ = some (.int .i64 0)) ∧ W.cell? ⟨w.heap.size + 1 + 1, 6, none⟩ = some (.string hh) ∧ W.cell? ⟨w.heap.size + 1 + 1, 7, none⟩ = some (.string hp) ∧ W.cell? ⟨w.heap.size + 1 + 1, 8, none⟩ = some (.int .i64 t) ∧ W.cell? ⟨w.heap.size + 1 + 1, 9, none⟩ = some (.int .i64 r) ∧ W.cell? ⟨w.heap.size + 1 + 1, 10, none⟩ = some (.int .i64 0) ∧ W.cell? ⟨w.heap.size + 1 + 1, 11, none⟩ = some (.int .i64 0)))) (by kernel_rfl) HG0.out.S (fun hHeld => ?_)
  refine wpAnyH_take (i := 0) (v := ?v0) rfl (by kernel_rfl) (by kernel_rfl) (by kernel_rfl) (fun _ _ _ h => h) (Or.inl ⟨by rfl, ?y0⟩) (by assumption) ?z0
  case y0 => intro W hSw; (try dsimp only at hSw); go_simp <;> with_reducible rfl
  simp only [Act.put, List.getElem_toArray, List.getElem_cons_zero, List.getElem_cons_succ, List.setIfInBounds_toArray, List.set_cons_zero, List.set_cons_succ]
  refine wpAnyH_take (i := 1) (v := ?v1) rfl (by kernel_rfl) (by kernel_rfl) (by kernel_rfl) (fun _ _ _ h => h) (Or.inl ⟨by rfl, ?y1⟩) (by assumption) ?z1
  case y1 => intro W hSw; (try dsimp only at hSw); go_simp <;> with_reducible rfl
  simp only [Act.put, List.getElem_toArray, List.getElem_cons_zero, List.getElem_cons_succ, List.setIfInBounds_toArray, List.set_cons_zero, List.set_cons_succ]
  refine wpAnyH_take (i := 2) (v := ?v2) rfl (by kernel_rfl) (by kernel_rfl) (by kernel_rfl) (fun _ _ _ h => h) (Or.inl ⟨by rfl, ?y2⟩) (by assumption) ?z2
  case y2 => intro W hSw; (try dsimp only at hSw); go_simp <;> with_reducible rfl
  simp only [Act.put, List.getElem_toArray, List.getElem_cons_zero, List.getElem_cons_succ, List.setIfInBounds_toArray, List.set_cons_zero, List.set_cons_succ]
  refine wpAnyH_ready (rs := [3]) (by kernel_rfl) (by simp) ?_
  refine AllReadyH.cons rfl (fun K hK => ?_) AllReadyH.nil
  go_simp
  refine (HC.out _).mono ?_
  rintro e wa ⟨rfl, hba⟩
  have HG1 := Lib.hid (HG0.out.below hba)
  clear hba
  go_wp2_with fail
  refine hK.out _ _ HG1.out.S (fun hHeld2 => ?_)
  clear hK K hHeld
  try simp only [Act.put, List.getElem_toArray, List.getElem_cons_zero, List.getElem_cons_succ, List.setIfInBounds_toArray, List.set_cons_zero, List.set_cons_succ]
  refine wpAnyH_take (i := 4) (v := ?v4) rfl (by kernel_rfl) (by kernel_rfl) (by kernel_rfl) (fun _ _ _ h => h) (Or.inl ⟨by rfl, ?y4⟩) (by assumption) ?z4
  case y4 => intro W hSw; (try dsimp only at hSw); go_simp <;> with_reducible rfl
  simp only [Act.put, List.getElem_toArray, List.getElem_cons_zero, List.getElem_cons_succ, List.setIfInBounds_toArray, List.set_cons_zero, List.set_cons_succ]
  refine wpAnyH_take (i := 5) (v := ?v5) rfl (by kernel_rfl) (by kernel_rfl) (by kernel_rfl) (fun _ _ _ h => h) (Or.inl ⟨by rfl, ?y5⟩) (by assumption) ?z5
  case y5 => intro W hSw; (try dsimp only at hSw); go_simp <;> with_reducible rfl
  simp only [Act.put, List.getElem_toArray, List.getElem_cons_zero, List.getElem_cons_succ, List.setIfInBounds_toArray, List.set_cons_zero, List.set_cons_succ]
  refine wpAnyH_take (i := 6) (v := undef) rfl (by kernel_rfl) (by kernel_rfl) (by kernel_rfl) (fun _ _ _ h => h) (Or.inr ⟨by rfl, rfl⟩) (by assumption) ?_
  simp only [Act.put, List.getElem_toArray, List.getElem_cons_zero, List.getElem_cons_succ, List.setIfInBounds_toArray, List.set_cons_zero, List.set_cons_succ]
  refine wpAnyH_take (i := 7) (v := undef) rfl (by kernel_rfl) (by kernel_rfl) (by kernel_rfl) (fun _ _ _ h => h) (Or.inr ⟨by rfl, rfl⟩) (by assumption) ?_
  simp only [Act.put, List.getElem_toArray, List.getElem_cons_zero, List.getElem_cons_succ, List.setIfInBounds_toArray, List.set_cons_zero, List.set_cons_succ]
  refine wpAnyH_take (i := 8) (v := undef) rfl (by kernel_rfl) (by kernel_rfl) (by kernel_rfl) (fun _ _ _ h => h) (Or.inr ⟨by rfl, rfl⟩) (by assumption) ?_
  simp only [Act.put, List.getElem_toArray, List.getElem_cons_zero, List.getElem_cons_succ, List.setIfInBounds_toArray, List.set_cons_zero, List.set_cons_succ]
  refine wpAnyH_take (i := 9) (v := ?v9) rfl (by kernel_rfl) (by kernel_rfl) (by kernel_rfl) (fun _ _ _ h => h) (Or.inl ⟨by rfl, ?y9⟩) (by assumption) ?z9
  case y9 => intro W hSw; (try dsimp only at hSw); go_simp <;> with_reducible rfl
  simp only [Act.put, List.getElem_toArray, List.getElem_cons_zero, List.getElem_cons_succ, List.setIfInBounds_toArray, List.set_cons_zero, List.set_cons_succ]
  obtain ⟨⟨f0, f1, f2, f3, f4, f5⟩, f6, f7, f8, f9, fa, fb⟩ := twelve_free HG1.out.z
  obtain ⟨⟨z0, z1, z2, z3, z4, z5⟩, z6, z7, z8, z9, za, zb⟩ := twelve_facts HG1.out.z
  refine wpAnyH_ready (rs := [10]) (by kernel_rfl) (by simp) ?_
  refine AllReadyH.cons rfl (fun K hK => ?_) AllReadyH.nil
  go_simp
  refine hK.out _ _ (HG1.out.S' _ _ _ _ _ _ _ _ _ _ _ _) (fun hHeld3 => ?_)
  clear hK K hHeld2
  refine wpAnyH_take (i := 11) (v := ?v11) rfl (by kernel_rfl) (by kernel_rfl) (by kernel_rfl) (fun _ _ _ h => h) (Or.inl ⟨by rfl, ?y11⟩) (by assumption) ?z11
  case y11 => intro W hSw; (try dsimp only at hSw); go_simp <;> with_reducible rfl
  simp only [Act.put, List.getElem_toArray, List.getElem_cons_zero, List.getElem_cons_succ, List.setIfInBounds_toArray, List.set_cons_zero, List.set_cons_succ]
  refine wpAnyH_done (by kernel_rfl) ?_ _
  refine NoPanic.normal ?_
  go_wp2_with fail
  refine ret_cell2 (A := ⟨w.heap.size + 1, 0, none⟩) rfl (load_rcli _ _ _ _ _ _ _ _ _ _ _ _ _ _ _ (twelve_all HG1.out.z _ _ _ _ _ _ _ _ _ _ _ _)) rfl rfl rfl ?_
  exact ⟨rfl, twelve_below HG1.out.b _ (by omega) _ _ _ _ _ _ _ _ _ _ _ _⟩
end Go.Proofs.YtbdmmgmcbecolaaGreatDoor
