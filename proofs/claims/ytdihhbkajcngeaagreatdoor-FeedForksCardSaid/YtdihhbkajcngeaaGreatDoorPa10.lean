/- The law FeedForks. The law functions of layer 45, as the rows' proofs take them: FeedForks. The law FeedReplies. What an argument that is a slice of the reference's fields reads as. What an argument that is a slice of the document's replies reads as. The law functions of layer 45, as the rows' proofs take them: FeedReplies. All laws of layer 45 together. -/
import Derived.Test.YtdihhbkajcngeaaGreatDoorPa9
import Derived.Deep.Slices
import Derived.Deep.Fields
import Derived.ChangeSame
import Derived.Deep.Strs
import Derived.ChangeArms
import Derived.WideShapes
set_option linter.unusedVariables false
namespace Go.Proofs.YtdihhbkajcngeaaGreatDoor
open Go.RowKit Go.Shelf Go.Lib
/-- a feed, its fork, and what the fork told -/
structure FK (w wr : World) (p q : Nat) (xf xg : List UInt8 × Nat) (vf vg so : Value) (N : Nat) (tf : Nat → List (Int × List (List UInt8 × List UInt8) × List UInt8)) : Prop where
  f : FNew w.heap.size wr p 300 xf.1 xf.2 vf
  g : FNew w.heap.size wr q 300 xg.1 xg.2 vg
  b : Below w.heap.size w wr
  t : TOwn wr w.heap.size so N tf
  ap : ∀ h, FS q vg h → ¬ FS p vf h
theorem FNew.touch {R : Nat} {w w' : World} {p : Nat} {m : Int} {l : List UInt8} {e : Nat} {v : Value} {S : Nat → Prop} (h : FNew R w p m l e v) (ht : Touch S w w') (hd : ∀ g, FS p v g → ¬ S g) : FNew R w' p m l e v := ⟨h.fat.touch ht hd, h.hi, h.st⟩
theorem FK.below {w wr wr' : World} {p q N : Nat} {xf xg : List UInt8 × Nat} {vf vg so : Value} {tf : Nat → List (Int × List (List UInt8 × List UInt8) × List UInt8)} (h : FK w wr p q xf xg vf vg so N tf) (hb : Below wr.heap.size wr wr') : FK w wr' p q xf xg vf vg so N tf :=
  ⟨h.f.below hb, h.g.below hb, bstep h.b hb, h.t.below hb, h.ap⟩
/-- the fork was handed a piece -/
theorem FK.putG {w wr w3 : World} {p q N : Nat} {xf xg xg' : List UInt8 × Nat} {vf vg vg' so : Value} {tf : Nat → List (Int × List (List UInt8 × List UInt8) × List UInt8)} (h : FK w wr p q xf xg vf vg so N tf) (hf : FNew w.heap.size w3 q 300 xg'.1 xg'.2 vg') (hb : Below w.heap.size w w3) (ht : Touch (FS q vg) wr w3) (hn : ∀ g, FS q vg' g → FS q vg g ∨ wr.heap.size ≤ g) : FK w w3 p q xf xg' vf vg' so N tf :=
  ⟨h.f.touch ht (fun g hg hs => h.ap g hs hg), hf, hb, h.t.feed h.g.fat ht, fun g hg hs => (hn g hg).elim (fun h2 => h.ap g h2 hs) (fun h2 => absurd (h.f.fat.slt g hs) (by omega))⟩
/-- the feed was handed a piece -/
theorem FK.putF {w wr w3 : World} {p q N : Nat} {xf xg xf' : List UInt8 × Nat} {vf vg vf' so : Value} {tf : Nat → List (Int × List (List UInt8 × List UInt8) × List UInt8)} (h : FK w wr p q xf xg vf vg so N tf) (hf : FNew w.heap.size w3 p 300 xf'.1 xf'.2 vf') (hb : Below w.heap.size w w3) (ht : Touch (FS p vf) wr w3) (hn : ∀ g, FS p vf' g → FS p vf g ∨ wr.heap.size ≤ g) : FK w w3 p q xf' xg vf' vg so N tf :=
  ⟨hf, h.g.touch ht (fun g hg hs => h.ap g hg hs), hb, h.t.feed h.f.fat ht, fun g hg hs => (hn g hs).elim (fun h2 => h.ap g hg h2) (fun h2 => absurd (h.g.fat.slt g hg) (by omega))⟩
/-- what the fork told is kept -/
theorem FK.tell {w w3 w4 : World} {p q N : Nat} {xf xg : List UInt8 × Nat} {vf vg so so' : Value} {tf : Nat → List (Int × List (List UInt8 × List UInt8) × List UInt8)} (h : FK w w3 p q xf xg vf vg so N tf) (ho : TOwn w4 w.heap.size so' (N + 1) tf) (hg : w3.grownBy w4 so.ownBlock) : FK w w4 p q xf xg vf vg so' (N + 1) tf :=
  ⟨h.f.grownT h.t hg, h.g.grownT h.t hg, h.t.low h.b hg, ho, h.ap⟩
theorem TOwn.at {w : World} {B n c i : Nat} {a : Option Addr} {tf : Nat → List (Int × List (List UInt8 × List UInt8) × List UInt8)} (h : TOwn w B (.slice a n c) n tf) (hi : i < n) :
    ∃ g a2 c2, a = some ⟨g, 0, none⟩ ∧ w.cell? ⟨g, i, none⟩ = some (.slice a2 (tf i).length c2) ∧ ROwn w 0 (.slice a2 (tf i).length c2) (tf i) ∧ g < w.heap.size := by
  obtain ⟨vs, h1, h2, h3⟩ := h
  rcases id h2.2 with ⟨hv, h0⟩ | ⟨g, cap, cur, hv, -⟩
  · omega
  · injection hv with e1 e2 e3
    subst e1
    have hR := h3 i (by omega)
    obtain ⟨a2, c2, e⟩ := hR.form
    have e0 : ∀ k, (⟨g, 0, none⟩ : Addr).add k = ⟨g, k, none⟩ := fun k => by unfold Addr.add; split <;> simp_all
    have hc := h2.cells (g := g) rfl i (vs[i]'(by omega)) (List.getElem?_eq_getElem _)
    rw [e0, e] at hc
    rw [e] at hR
    exact ⟨g, a2, c2, rfl, hc, hR, (h2.lt g rfl).2⟩
/-- a fork was made -/
theorem FK.start {w wr w4 : World} {p : Nat} {l : List UInt8} {e : Nat} {v v4 : Value} {tf : Nat → List (Int × List (List UInt8 × List UInt8) × List UInt8)} (h : FNew w.heap.size wr p 300 l e v) (hb : Below w.heap.size w wr) (hf : FAt w4 wr.heap.size 300 l e v4) (hb4 : Below wr.heap.size wr w4) (hn : ∀ g, v4.ownBlock = some g → wr.heap.size < g) : FK w w4 p wr.heap.size (l, e) (l, e) v v4 (.slice none 0 0) 0 tf := by
  have hi : ∀ g, FS wr.heap.size v4 g → wr.heap.size ≤ g := fun g hg => hg.elim (fun e => by omega) (fun h2 => Nat.le_of_lt (hn g h2))
  exact ⟨h.below hb4, ⟨hf, fun g hg => Nat.le_trans hb.size (hi g hg), h.st⟩, bstep hb hb4, TOwn.nil _ _ _, fun g hg hs => by have := hi g hg; have := h.fat.slt g hs; omega⟩
set_option maxRecDepth 100000 in
set_option maxHeartbeats 8000000 in
theorem feedForks_walk (v : Value) (ls : List (List UInt8)) (c : Nat) (hc : c ≤ 255) (w : World) (hE : EnvF w) (hv : StrArg w v ls) :
    Calls Tryz.prog 6 #[v, .int .u8 (c : Int)] w fun e w' => e = .returned (.bool true) ∧ Below w.heap.size w w' := by
  have HE := Lib.hid hE
  have HV := Lib.hid hv
  have HO := over45 v ls 20 2000 w (by decide) (by decide) hv
  obtain ⟨⟨va, vc, rfl, hvc, -⟩, -, hll⟩ := id hv
  unfold maxLen at hll
  cases hov : overB ls 20 2000 with
  | true =>
    rw [hov] at HO
    have HO := Lib.hid HO
    clear hE hv
    go_enter Tryz.func6, Tryz.ntmps6
    go_wp2_with fail
    refine HO.out.mono ?_
    rintro e w1 ⟨rfl, hww⟩
    obtain rfl := hww.symm
    go_wp2_with fail
    refine (awake45 _ HE.out).mono ?_
    rintro e w2 ⟨rfl, hb2⟩
    go_wp2_with fail
    go_ret
    exact ⟨rfl, hb2⟩
  | false =>
  rw [hov] at HO
  have HO := Lib.hid HO
  have HSm := Lib.hid (small45 ls hov)
  have hn20 := HSm.out.1
  obtain ⟨n, hn⟩ : ∃ n, ls.length = n := ⟨_, rfl⟩
  rw [hn] at hvc HV HO hll hn20 ⊢
  have HNN := Lib.hid hn
  obtain ⟨k, hk⟩ : ∃ k, c % (n + 1) = k := ⟨_, rfl⟩
  have hkn : k ≤ n := by rw [← hk]; have := Nat.mod_lt c (show 0 < n + 1 by omega); omega
  have hkI : Int.tmod (c : Int) ((n : Int) + 1) = (k : Int) := by rw [← hk]; exact (Int.ofNat_tmod c (n + 1)).symm
  have hcI : IntKind.i64.wrap (c : Int) = (c : Int) := by rw [IntKind.wrap_i64]; omega
  have HPn := Lib.hid (fun W => feed_put_nil ⟨#[120]⟩ W)
  have HEn := Lib.hid (fun W => feed_end_nil W)
  have HRn := Lib.hid (fun W => feed_rest_nil W)
  have HFn := Lib.hid (fun W => feed_fork_nil W)
  clear hn hE hv hov hk
  go_enter Tryz.func6, Tryz.ntmps6
  go_wp2_with fail
  refine HO.out.mono ?_
  rintro e w1 ⟨rfl, hww⟩
  obtain rfl := hww.symm
  clear hww HO
  go_wp2_with fail
  refine (HPn.out _).mono ?_
  rintro e w1 ⟨rfl, hww⟩
  obtain rfl := hww.symm
  clear hww
  go_wp2_with fail
  have hz : (w.alloc (.cells #[.bool false, .int .i64 0, .slice none 0 0, .int .i64 0] 55)).cell? ⟨w.heap.size, 0, none⟩ = some (.bool false) := by
    unfold World.cell?; rw [heap_alloc_new]; rfl
  have HPz := Lib.hid (feed_put_zero w.heap.size ⟨#[120]⟩ _ hz)
  have HBz := Lib.hid (feed_bad_zero w.heap.size _ hz)
  have HB1 : Hid (Below w.heap.size w (w.alloc (.cells #[.bool false, .int .i64 0, .slice none 0 0, .int .i64 0] 55))) := Lib.hid ((Below.refl _ _).alloc (Nat.le_refl _) _)
  clear hz HPn
  generalize w.alloc (.cells #[.bool false, .int .i64 0, .slice none 0 0, .int .i64 0] 55) = W1 at HPz HBz HB1 ⊢
  refine HPz.out.mono ?_
  rintro e w1 ⟨rfl, hww⟩
  obtain rfl := hww.symm
  clear hww
  go_wp2_with fail
  refine (HEn.out _).mono ?_
  rintro e w1 ⟨rfl, hww⟩
  obtain rfl := hww.symm
  clear hww
  go_wp2_with fail
  refine (HRn.out _).mono ?_
  rintro e w1 ⟨rfl, hww⟩
  obtain rfl := hww.symm
  clear hww
  go_wp2_with fail
  refine (HFn.out _).mono ?_
  rintro e w1 ⟨rfl, hww⟩
  obtain rfl := hww.symm
  clear hww
  go_wp2_with fail
  refine HBz.out.mono ?_
  rintro e w1 ⟨rfl, hww⟩
  obtain rfl := hww.symm
  clear hww
  go_wp2_with fail
  have HN := Lib.hid (feed_new 300 W1 (by decide) (by decide))
  clear HPz HBz HEn HRn HFn
  refine HN.out.mono ?_
  rintro e w2 ⟨rfl, hf2, hb2⟩
  have HF2 := Lib.hid (FNew.new (R := w.heap.size) hf2 HB1.out.size rfl)
  have HB2 := Lib.hid (bstep HB1.out hb2)
  generalize W1.heap.size = p at HF2 ⊢
  clear hf2 hb2 HN HB1
  go_wp2_with fail
  have HT : Hid (FNew w.heap.size w2 p 300 [] 0 (.slice none 0 0) ∧ Below w.heap.size w w2) := Lib.hid ⟨HF2.out, HB2.out⟩
  clear HF2 HB2 hkI hcI
  go_loopg [14] k (fun gk s14 wr => ∃ (j : Nat) (l : List UInt8) (e : Nat) (v : Value), s14 = .int .i64 (j : Int) ∧ j + gk = k ∧ l.length ≤ offF ls j ∧ Hid (FNew w.heap.size wr p 300 l e v ∧ Below w.heap.size w wr))
  case atStart => exact ⟨0, [], 0, _, by simp, by omega, Nat.zero_le _, HT⟩
  case round =>
    obtain ⟨j, l, e, v, rfl, hgj, hlj, HTr⟩ := hrel
    by_cases hj : j < k
    · obtain ⟨g', rfl⟩ : ∃ g', gk = g' + 1 := ⟨gk - 1, by omega⟩
      have hkl : j < ls.length := by rw [HNN.out]; omega
      obtain ⟨⟨va', vc', hv1, -, hx⟩, hsz, -⟩ := HV.out
      obtain ⟨bb, ob, rfl, hbl, hcell⟩ := hx (fun e => by rw [e] at hkl; exact absurd hkl (Nat.not_lt_zero _))
      injection hv1 with hv1 hv2 hv3
      subst hv1
      clear hv2 hv3
      have c1 : wr.cell? ⟨bb, ob + j, none⟩ = some (.string (bs ls[j])) := (HTr.out.2.cell (p := ⟨bb, ob + j, none⟩) hbl).trans (hcell j hkl)
      have hoff := offF_succ ls j hkl
      have hofl := offF_le ls (j + 1)
      have hsm := HSm.out.2
      obtain ⟨s, hs⟩ : ∃ s, ls[j] = s := ⟨_, rfl⟩
      rw [hs] at c1 hoff
      obtain ⟨rs, l', e', hR⟩ : ∃ rs l' e', putR 300 l e s = (rs, l', e') := ⟨_, _, _, rfl⟩
      have hcnt := (putR_count 300 l e s).1
      rw [hR] at hcnt
      have HP := Lib.hid (feed_put_is s HTr.out.1 HE.out HTr.out.2 (by omega) hR)
      have HL' : Hid (l'.length ≤ offF ls (j + 1)) := Lib.hid (by simp only at hcnt; omega)
      obtain ⟨S, hS⟩ : ∃ S, bs s = S := ⟨_, rfl⟩
      rw [hS] at c1 HP
      have tk : decide ((j : Int) < (k : Int)) = true := decide_eq_true (by omega)
      have hjn : (j : Int) < (n : Int) := by omega
      clear hx hsz hcell hoff hofl hsm hs hR hcnt hS HT hkl
      go_wp2_with fail
      refine HP.out.mono ?_
      rintro r w3 ⟨a3, c3, v3, rfl, hf3, -, hb3, -, -⟩
      have HTn : Hid (FNew w.heap.size w3 p 300 l' e' v3 ∧ Below w.heap.size w w3) := Lib.hid ⟨hf3, hb3⟩
      clear hf3 hb3 HP c1 HTr
      go_wp2_with fail
      go_roundg g'
      case measure => omega
      case rel => exact ⟨j + 1, l', e', v3, by simp, by omega, HL'.out, HTn⟩
    · obtain rfl : j = k := by omega
      have tk : decide ((j : Int) < (j : Int)) = false := decide_eq_false (by omega)
      have HFk := Lib.hid (feed_fork_at HTr.out.1.fat (by have := offF_le ls j; have := HSm.out.2; omega))
      clear HT
      go_wp2_with fail
      refine HFk.out.mono ?_
      rintro r w4 ⟨rfl, v4, hf4, hb4, hn4⟩
      obtain ⟨D, hD⟩ : ∃ D, ls.drop j = D := ⟨_, rfl⟩
      have HK : Hid (FK w w4 p wr.heap.size (l, e) (l, e) v v4 (.slice none 0 0) 0 (toldF 300 (l, e) D)) := Lib.hid (FK.start HTr.out.1 HTr.out.2 hf4 hb4 hn4)
      have HDl : Hid (D.length = n - j) := Lib.hid (by rw [← hD, List.length_drop, HNN.out])
      have HDg : Hid (∀ i (hi : i < D.length) (hi2 : j + i < ls.length), D[i] = ls[j + i]) := Lib.hid (fun i hi hi2 => by subst hD; rw [List.getElem_drop])
      have HDo : Hid (∀ i, i ≤ D.length → l.length + offF D i ≤ 2000) := Lib.hid (fun i hi => by
        have h1 : offF D i ≤ D.flatten.length := offF_le D i
        have h2 : offF ls j + D.flatten.length = ls.flatten.length := by
          unfold offF
          rw [← hD, ← List.length_append, ← List.flatten_append, List.take_append_drop]
        have := HSm.out.2
        omega)
      have HSt : Hid (e ≠ 0 → l = []) := Lib.hid HTr.out.1.st
      generalize wr.heap.size = q at HK ⊢
      clear hf4 hb4 hn4 HFk HTr hD hlj tk
      go_wp2_with fail
      go_loopg [16, 17] (n - j) (fun gk s16 s17 wr => ∃ (i : Nat) (vg : Value), s17 = .int .i64 ((j : Int) + (i : Int)) ∧ i + gk = n - j ∧ Hid (FK w wr p q (l, e) (stF 300 (l, e) (D.take i)) v vg s16 i (toldF 300 (l, e) D)))
      case atStart => exact ⟨0, v4, by simp, by omega, HK⟩
      case round =>
        obtain ⟨i, vg, rfl, hgi, HKr⟩ := hrel
        by_cases hi : i < n - j
        · obtain ⟨g', rfl⟩ : ∃ g', gk = g' + 1 := ⟨gk - 1, by omega⟩
          have hiD : i < D.length := by rw [HDl.out]; exact hi
          have hkl : j + i < ls.length := by rw [HNN.out]; omega
          obtain ⟨⟨va', vc', hv1, -, hx⟩, hsz, -⟩ := HV.out
          obtain ⟨bb, ob, rfl, hbl, hcell⟩ := hx (fun e => by rw [e] at hkl; exact absurd hkl (Nat.not_lt_zero _))
          injection hv1 with hv1 hv2 hv3
          subst hv1
          clear hv2 hv3
          have hDi := HDg.out i hiD hkl
          have c1 : wr.cell? ⟨bb, ob + (j + i), none⟩ = some (.string (bs D[i])) := by rw [hDi]; exact (HKr.out.b.cell (p := ⟨bb, ob + (j + i), none⟩) hbl).trans (hcell (j + i) hkl)
          have hst := stF_len 300 (l, e) D i (by omega)
          have hdo := HDo.out (i + 1) (by omega)
          have hds := offF_succ D i hiD
          have hR := toldF_of 300 (l, e) D i hiD
          have hcnt := (putR_count 300 (stF 300 (l, e) (D.take i)).1 (stF 300 (l, e) (D.take i)).2 D[i]).1
          obtain ⟨s, hs⟩ : ∃ s, D[i] = s := ⟨_, rfl⟩
          rw [hs] at c1 hds hR hcnt
          have HP := Lib.hid (feed_put_is s HKr.out.g HE.out HKr.out.b (by simp only at hst; omega) hR)
          obtain ⟨S, hS⟩ : ∃ S, bs s = S := ⟨_, rfl⟩
          obtain ⟨NR, hNR⟩ : ∃ NR, (toldF 300 (l, e) D i).length = NR := ⟨_, rfl⟩
          rw [hS, hNR] at HP
          rw [hS] at c1
          have tk : decide ((j : Int) + (i : Int) < (n : Int)) = true := decide_eq_true (by omega)
          have HNi : Hid (i < 2147483648) := Lib.hid (by omega)
          clear hx hsz hcell hDi hst hdo hds hR hcnt hs hS hNR HK hkl hiD
          go_wp2_with fail
          refine HP.out.mono ?_
          rintro r w5 ⟨a5, c5, v5, rfl, hf5, hr5, hb5, ht5, hn5⟩
          have HK5 := Lib.hid (HKr.out.putG (xg' := stF 300 (l, e) (D.take (i + 1))) hf5 hb5 ht5 hn5)
          have HR5 := Lib.hid hr5
          clear hf5 hr5 hb5 ht5 hn5 HP c1 HKr
          go_wp2_with (at_builtin; go_loud (refine append_told w5 (by rfl) _ _ (by rfl) w.heap.size i u16 (toldF 300 (l, e) D) (by rfl) HK5.out.t _ NR c5 a5 HR5.out (by rfl) HNi.out HK5.out.b.size ?_); intro g6 n6 c6 w6 ho6 hg6; have HO6 := Lib.hid ho6; have HG6 := Lib.hid hg6; clear ho6 hg6)
          have HKn := Lib.hid (HK5.out.tell HO6.out HG6.out)
          go_roundg g'
          case measure => omega
          case rel => exact ⟨i + 1, v5, by simp; omega, by omega, HKn⟩
        · obtain rfl : i = n - j := by omega
          have tk : decide ((j : Int) + ((n - j : Nat) : Int) < (n : Int)) = false := decide_eq_false (by omega)
          obtain ⟨M, hM⟩ : ∃ M, n - j = M := ⟨_, rfl⟩
          rw [hM] at HKr HDl tk ⊢
          obtain ⟨vs0, ht1, ht2, ht3⟩ := id HKr.out.t
          obtain ⟨aT, cT, rfl⟩ : ∃ a c, u16 = .slice a M c := by
            rcases ht2.2 with ⟨rfl, h0⟩ | ⟨g, cap, cur, rfl, -⟩
            · rw [h0]; exact ⟨_, _, rfl⟩
            · exact ⟨_, _, rfl⟩
          have HDM : Hid (D.take M = D) := Lib.hid (by rw [← HDl.out, List.take_length])
          have hjM : j + M = n := by omega
          have HK3 : Hid (FK w wr p q (stF 300 (l, e) (D.take 0)) (stF 300 (l, e) (D.take M)) v vg (.slice aT M cT) M (toldF 300 (l, e) D)) := Lib.hid HKr.out
          clear ht1 ht2 ht3 HKr HK hM hi hgi
          go_wp2_with fail
          go_loopg [20] M (fun gk s20 wr => ∃ (i : Nat) (vf : Value), s20 = .int .i64 ((j : Int) + (i : Int)) ∧ i + gk = M ∧ Hid (FK w wr p q (stF 300 (l, e) (D.take i)) (stF 300 (l, e) (D.take M)) vf vg (.slice aT M cT) M (toldF 300 (l, e) D)))
          case atStart => exact ⟨0, v, by simp, by omega, HK3⟩
          case round =>
            obtain ⟨i, vf, rfl, hgi, HKr⟩ := hrel
            by_cases hi : i < M
            · obtain ⟨go', rfl⟩ : ∃ go', gk = go' + 1 := ⟨gk - 1, by omega⟩
              have hiD : i < D.length := by rw [HDl.out]; exact hi
              have hkl : j + i < ls.length := by rw [HNN.out]; omega
              obtain ⟨⟨va', vc', hv1, -, hx⟩, hsz, -⟩ := HV.out
              obtain ⟨bb, ob, rfl, hbl, hcell⟩ := hx (fun e => by rw [e] at hkl; exact absurd hkl (Nat.not_lt_zero _))
              injection hv1 with hv1 hv2 hv3
              subst hv1
              clear hv2 hv3
              have hDi := HDg.out i hiD hkl
              have c1 : wr.cell? ⟨bb, ob + (j + i), none⟩ = some (.string (bs D[i])) := by rw [hDi]; exact (HKr.out.b.cell (p := ⟨bb, ob + (j + i), none⟩) hbl).trans (hcell (j + i) hkl)
              have hst := stF_len 300 (l, e) D i (by omega)
              have hdo := HDo.out (i + 1) (by omega)
              have hds := offF_succ D i hiD
              have hR := toldF_of 300 (l, e) D i hiD
              have hcnt := putR_count 300 (stF 300 (l, e) (D.take i)).1 (stF 300 (l, e) (D.take i)).2 D[i]
              obtain ⟨s, hs⟩ : ∃ s, D[i] = s := ⟨_, rfl⟩
              rw [hs] at c1 hds hR hcnt
              rw [hR] at hcnt
              have HP := Lib.hid (feed_put_is s HKr.out.f HE.out HKr.out.b (by simp only at hst; omega) hR)
              obtain ⟨S, hS⟩ : ∃ S, bs s = S := ⟨_, rfl⟩
              obtain ⟨rs, hrs⟩ : ∃ rs, toldF 300 (l, e) D i = rs := ⟨_, rfl⟩
              obtain ⟨NR, hNR⟩ : ∃ NR, rs.length = NR := ⟨_, rfl⟩
              rw [hrs] at hcnt
              have HSz : Hid (NR ≤ 2000 ∧ ∀ r ∈ rs, r.2.1.length ≤ 1000000) := Lib.hid ⟨by have := hcnt.1; simp only at this hst; omega, hcnt.2⟩
              rw [hS, hrs, hNR] at HP
              rw [hS] at c1
              have HRS := Lib.hid hrs
              have HNR := Lib.hid hNR
              have tk3 : decide ((j : Int) + (i : Int) < (n : Int)) = true := decide_eq_true (by omega)
              have tsub : (j : Int) + (i : Int) - (j : Int) = (i : Int) := by omega
              have hiM : (i : Int) < (M : Int) := by omega
              clear hx hsz hcell hDi hst hdo hds hR hcnt hs hS hrs hNR HK3 hkl hiD
              go_wp2_with fail
              refine HP.out.mono ?_
              rintro r w5 ⟨a5, c5, v5, rfl, hf5, hr5, hb5, ht5, hn5⟩
              have HK5 := Lib.hid (HKr.out.putF (xf' := stF 300 (l, e) (D.take (i + 1))) hf5 hb5 ht5 hn5)
              have HR5 := Lib.hid hr5
              obtain ⟨gT, a6, c6, rfl, x6, hr6, hgT⟩ := HK5.out.t.at hi
              rw [HRS.out, HNR.out] at x6 hr6
              have HR6 := Lib.hid hr6
              have HX6 := Lib.hid x6
              clear hf5 hr5 hb5 ht5 hn5 HP c1 HKr hr6
              go_wp2_with fail
              have HA := Lib.hid (HR5.out.holds)
              have HC := Lib.hid (HR6.out.holds)
              clear x6 HR5 HR6 hgT
              go_loopg [23] NR (fun gk s23 wr => ∃ x : Nat, s23 = .int .i64 (x : Int) ∧ x + gk = NR ∧ Hid (Below w5.heap.size w5 wr))
              case atStart => exact ⟨0, by simp, by omega, Lib.hid (Below.refl _ _)⟩
              case round =>
                obtain ⟨x, rfl, hgx, HBy⟩ := hrel
                by_cases hx : x < NR
                · obtain ⟨gi', rfl⟩ : ∃ g', gk = g' + 1 := ⟨gk - 1, by omega⟩
                  have hxl : x < rs.length := by rw [HNR.out]; exact hx
                  obtain ⟨b1, o1, fa, fc, rfl, H1⟩ := HA.out.at x hxl
                  obtain ⟨b2, o2, fb, fd, rfl, H2⟩ := HC.out.at x hxl
                  have hfl := HSz.out.2 _ (List.getElem_mem hxl)
                  obtain ⟨C, hC⟩ : ∃ C, rs[x].1 = C := ⟨_, rfl⟩
                  obtain ⟨F, hFF⟩ : ∃ F, rs[x].2.1 = F := ⟨_, rfl⟩
                  obtain ⟨B, hBB⟩ : ∃ B, bs rs[x].2.2 = B := ⟨_, rfl⟩
                  rw [hC, hFF, hBB] at H1 H2
                  rw [hFF] at hfl
                  obtain ⟨fl, hfl2⟩ : ∃ fl, F.length = fl := ⟨_, rfl⟩
                  have HFL := Lib.hid hfl2
                  rw [hfl2] at H1 H2
                  have HFl := Lib.hid hfl
                  have HX := Lib.hid (fun W hW => H1 W (bstep HBy.out hW))
                  have HY := Lib.hid (fun W hW => H2 W (bstep HBy.out hW))
                  have hgT2 : gT < w5.heap.size := by obtain ⟨gT', a', c', e1, -, -, h4⟩ := HK5.out.t.at hi; injection e1 with e1; injection e1 with e1; omega
                  have HT6 := Lib.hid (fun W (hW : Below wr.heap.size wr W) => ((bstep HBy.out hW).cell (p := ⟨gT, i, none⟩) hgT2).trans HX6.out)
                  have HDr : Hid (Below wr.heap.size wr wr.drew) := Lib.hid (Below.refl _ _).drew
                  have HS : Hid (∀ W, Below wr.heap.size wr W → W.cell? ⟨gT, i, none⟩ = some (.slice (some ⟨b2, o2, none⟩) NR c6) ∧ W.cell? ⟨b1, o1 + x * 3, none⟩ = some (.int .i64 C) ∧ W.cell? ⟨b1, o1 + x * 3 + 1, none⟩ = some (.slice fa fl fc) ∧ W.cell? ⟨b1, o1 + x * 3 + 2, none⟩ = some (.string B) ∧ W.cell? ⟨b2, o2 + x * 3, none⟩ = some (.int .i64 C) ∧ W.cell? ⟨b2, o2 + x * 3 + 1, none⟩ = some (.slice fb fl fd) ∧ W.cell? ⟨b2, o2 + x * 3 + 2, none⟩ = some (.string B)) := Lib.hid (fun W hW =>
                    let ⟨x0, x1, x2, _⟩ := HX.out W hW
                    let ⟨y0, y1, y2, _⟩ := HY.out W hW
                    ⟨HT6.out W hW, x0, x1, x2, y0, y1, y2⟩)
                  have HRm : Hid (∀ W, Below wr.heap.size wr W → Calls Tryz.prog 19 #[.agg #[.int .i64 C, .slice fa fl fc, .string B], .agg #[.int .i64 C, .slice fb fl fd, .string B]] W fun e w' => e = .returned (.bool true) ∧ Below W.heap.size W w') := Lib.hid (fun W hW => by
                    have := reply_same C C B B (.slice fa fl fc) (.slice fb fl fd) F F W (HX.out _ hW).2.2.2 (HY.out _ hW).2.2.2 HFl.out HFl.out
                    rw [sameR_refl] at this
                    exact this)
                  have tk4 : decide ((x : Int) < (NR : Int)) = true := decide_eq_true (by omega)
                  have tw1 : IntKind.i64.wrap (i : Int) = (i : Int) := by rw [IntKind.wrap_i64]; omega
                  have tw2 : IntKind.i64.wrap ((j : Int) + (i : Int) - (j : Int)) = (i : Int) := by rw [IntKind.wrap_i64]; omega
                  clear H1 H2 hfl hfl2 hC hFF hBB HA HC hxl hgT2 HT6 HX6
                  go_wp2_with fail
                  go_region_held3 (fun w' => w'.cell? ⟨gT, i, none⟩ = some (.slice (some ⟨b2, o2, none⟩) NR c6) ∧ w'.cell? ⟨b1, o1 + x * 3, none⟩ = some (.int .i64 C) ∧ w'.cell? ⟨b1, o1 + x * 3 + 1, none⟩ = some (.slice fa fl fc) ∧ w'.cell? ⟨b1, o1 + x * 3 + 2, none⟩ = some (.string B) ∧ w'.cell? ⟨b2, o2 + x * 3, none⟩ = some (.int .i64 C) ∧ w'.cell? ⟨b2, o2 + x * 3 + 1, none⟩ = some (.slice fb fl fd) ∧ w'.cell? ⟨b2, o2 + x * 3 + 2, none⟩ = some (.string B)) (first | exact HS.out _ HDr.out | exact HS.out _ HA2.out)
                    (first | (go_at_call 19; refine (HRm.out _ HDr.out).mono ?_; rintro e wa ⟨rfl, hba⟩; have HA2 : Hid (Below wr.heap.size wr wa) := Lib.hid (bstep HDr.out hba); clear hba))
                  have HBn := Lib.hid (bstep HBy.out HA2.out)
                  have hNb : NR ≤ 2000 := HSz.out.1
                  clear HS HDr HA2 HRm HX HY HBy
                  go_wp2_with fail
                  go_roundg gi'
                  case measure => omega
                  case rel => exact ⟨x + 1, by simp, by omega, HBn⟩
                · obtain rfl : x = NR := by omega
                  have tk4 : decide ((x : Int) < (x : Int)) = false := decide_eq_false (by omega)
                  have HKn := Lib.hid (HK5.out.below HBy.out)
                  clear HA HC HBy HK5 HX6
                  go_wp2_with fail
                  go_roundg go'
                  case measure => omega
                  case rel => exact ⟨i + 1, v5, by simp; omega, by omega, HKn⟩
            · obtain rfl : i = M := by omega
              have tk3 : decide ((j : Int) + (i : Int) < (n : Int)) = false := decide_eq_false (by omega)
              have HBf := Lib.hid (feed_bad_at HKr.out.f.fat)
              have HBg := Lib.hid (feed_bad_at HKr.out.g.fat)
              have HRf := Lib.hid (feed_rest_at HKr.out.f.fat)
              have HRg := Lib.hid (feed_rest_at HKr.out.g.fat)
              have HBw := Lib.hid HKr.out.b
              obtain ⟨E9, hE9⟩ : ∃ E9, (stF 300 (l, e) (D.take i)).2 = E9 := ⟨_, rfl⟩
              obtain ⟨L9, hL9⟩ : ∃ L9, (stF 300 (l, e) (D.take i)).1.length = L9 := ⟨_, rfl⟩
              rw [hE9] at HBf HBg
              rw [hL9] at HRf HRg
              clear hE9 hL9 HKr HK3
              go_wp2_with fail
              refine HBf.out.mono ?_
              rintro e9 wx ⟨rfl, hww⟩
              obtain rfl := hww.symm
              clear hww
              go_wp2_with fail
              refine HBg.out.mono ?_
              rintro e9 wx ⟨rfl, hww⟩
              obtain rfl := hww.symm
              clear hww
              go_wp2_with fail
              refine HRf.out.mono ?_
              rintro e9 wx ⟨rfl, hww⟩
              obtain rfl := hww.symm
              clear hww
              go_wp2_with fail
              refine HRg.out.mono ?_
              rintro e9 wx ⟨rfl, hww⟩
              obtain rfl := hww.symm
              clear hww
              go_wp2_with fail
              refine (awake45 _ (HE.out.below HBw.out)).mono ?_
              rintro r wz ⟨rfl, hbz⟩
              go_wp2_with fail
              go_ret
              exact ⟨rfl, bstep HBw.out hbz⟩
end Go.Proofs.YtdihhbkajcngeaaGreatDoor
namespace Go.Proofs.YtdihhbkajcngeaaGreatDoor
open Go.RowKit
theorem feedForks_go {W : World} (v : Value) (ls : List (List UInt8)) (c : Int) (hv : StrArg W v ls) (hc : (Lit.int .u8 c).wf = true) (hL : laidMetH Tryz.prog Rows.feedForksRow.laid W) (hsh : W.ShapedOpen Tryz.prog) :
    Calls Tryz.prog 6 #[v, .int .u8 c] W fun e W' => e = .returned (.bool true) ∧ Below W.heap.size W W' := by
  rw [MakeChecks.laidMetH_plain _ _ _ (by kernel_rfl)] at hL
  have hb0 : IntKind.u8.min ≤ c ∧ c ≤ IntKind.u8.max := by simpa [Lit.wf] using hc
  have hb : 0 ≤ c ∧ c ≤ 255 := hb0
  obtain ⟨m, rfl⟩ : ∃ m : Nat, c = (m : Int) := ⟨c.toNat, by omega⟩
  exact feedForks_walk v ls m (by omega) W (env_of hL (by simp) hsh) hv
end Go.Proofs.YtdihhbkajcngeaaGreatDoor
namespace Go.Proofs.YtdihhbkajcngeaaGreatDoor
open Go.RowKit Go.Shelf Go.Lib
/-- what is left of a printed reply of which k bytes have come -/
def leftK (S : List UInt8) (k : Nat) : List UInt8 := if k < S.length then S.take k else []
theorem leftK_zero (S : List UInt8) : leftK S 0 = [] := by
  unfold leftK; split <;> rfl
theorem leftK_all (S : List UInt8) : leftK S S.length = [] := by
  unfold leftK; rw [if_neg (Nat.lt_irrefl _)]
theorem leftK_len (S : List UInt8) (k : Nat) : (leftK S k).length ≤ S.length := by
  unfold leftK; split
  · exact List.length_take_le' ..
  · exact Nat.zero_le _
theorem leftK_next (S : List UInt8) (k : Nat) (hk : k < S.length) : leftK S k ++ [S[k]] = S.take (k + 1) := by
  unfold leftK; rw [if_pos hk, List.take_succ_eq_append_getElem hk]
/-- one byte more of a printed reply -/
theorem putR_byte (c : Int) (fs : List (List UInt8 × List UInt8)) (b : List UInt8) (m : Int) (hm : (b.length : Int) ≤ m) (h : repE c fs = 0) (hn : b.length ≤ 1000000) (k : Nat) (hk : k < (repL c fs b).length) :
    putR m (leftK (repL c fs b) k) 0 [(repL c fs b)[k]] = (if k + 1 = (repL c fs b).length then [(c, fs, b)] else [], leftK (repL c fs b) (k + 1), 0) := by
  unfold putR
  rw [if_pos rfl, leftK_next _ _ hk]
  by_cases h1 : k + 1 = (repL c fs b).length
  · rw [if_pos h1, h1, leftK_all, List.take_length]
    exact feed_print m c fs b hm h hn
  · rw [if_neg h1]
    have h2 : k + 1 < (repL c fs b).length := by omega
    rw [show leftK (repL c fs b) (k + 1) = (repL c fs b).take (k + 1) from if_pos h2]
    exact feed_cut m c fs b (k + 1) hm h hn h2
/-- a byte of a text, as a text -/
theorem extract_byte (s : ByteArray) (k : Nat) (hk : k < s.data.toList.length) : s.extract k (k + 1) = bs [s.data.toList[k]] := by
  rw [extract_bs]
  congr 1
  have hs : k < s.size := by rw [← size_len]; exact hk
  rw [List.take_succ_eq_append_getElem hk, List.drop_append]
  simp [Nat.min_eq_left (Nat.le_of_lt hs)]
/-- the state between two replies -/
structure BK (w wr : World) (v : Value) : Prop where
  f : FNew w.heap.size wr w.heap.size 500 [] 0 v
  b : Below w.heap.size w wr
theorem HoldsQ.one {w : World} {a : Option Addr} {n c : Nat} {rs : List (Int × List (List UInt8 × List UInt8) × List UInt8)} (h : HoldsQ w (.slice a n c) rs) (k : Nat) (hk : k < rs.length) {b o : Nat} (ha : a = some ⟨b, o, none⟩) :
    HoldsQ w (.slice (some ⟨b, o + k * 3, none⟩) 1 (c - k)) [rs[k]] := by
  obtain ⟨a', c', hv, hc, hx⟩ := h
  injection hv with e1 e2 e3
  subst e1 e3 ha
  obtain ⟨b', o', hb, hlt, hcell⟩ := hx (fun e => by rw [e] at hk; exact absurd hk (Nat.not_lt_zero _))
  injection hb with hb
  injection hb with h4 h5
  subst h4 h5
  refine ⟨_, _, rfl, by show 1 ≤ _; omega, fun _ => ⟨b, _, rfl, hlt, fun j hj => ?_⟩⟩
  obtain rfl : j = 0 := by simp at hj; omega
  exact hcell k hk
set_option maxRecDepth 100000 in
set_option maxHeartbeats 8000000 in
theorem feedReplies_walk (v : Value) (rs : List (Int × List (List UInt8 × List UInt8) × List UInt8)) (w : World) (hE : EnvF w) (hv : HoldsQ w v rs) (hl : rs.length ≤ maxLen) (hr : ∀ r ∈ rs, -9223372036854775808 ≤ r.1 ∧ r.1 ≤ 9223372036854775807 ∧ r.2.1.length ≤ 9223372036854775807) :
    Calls Tryz.prog 4 #[v] w fun e w' => e = .returned (.bool true) ∧ Below w.heap.size w w' := by
  unfold maxLen at hl
  have HE := Lib.hid hE
  have HV := Lib.hid hv
  have HR := Lib.hid hr
  obtain ⟨va, vc, rfl, hvc, -⟩ := id hv
  clear hE hv hr
  obtain ⟨n, hn⟩ : ∃ n, rs.length = n := ⟨_, rfl⟩
  rw [hn] at hvc HV hl ⊢
  have HNN := Lib.hid hn
  clear hn
  by_cases h4 : 4 < n
  · have t0 : decide ((n : Int) > 4) = true := decide_eq_true (by omega)
    go_enter Tryz.func4, Tryz.ntmps4
    go_wp2_with fail
    refine (awake45 _ HE.out).mono ?_
    rintro e w2 ⟨rfl, hb2⟩
    go_wp2_with fail
    go_ret
    exact ⟨rfl, hb2⟩
  have t0 : decide ((n : Int) > 4) = false := decide_eq_false (by omega)
  have HN := Lib.hid (feed_new 500 w (by decide) (by decide))
  go_enter Tryz.func4, Tryz.ntmps4
  go_wp2_with fail
  refine HN.out.mono ?_
  rintro e w1 ⟨rfl, hf1, hb1⟩
  have HT : Hid (BK w w1 (.slice none 0 0)) := Lib.hid ⟨FNew.new hf1 (Nat.le_refl _) rfl, hb1⟩
  clear hf1 hb1 HN
  go_wp2_with fail
  go_loopg [5] n (fun gk s5 wr => ∃ (k : Nat) (v : Value), s5 = .int .i64 (k : Int) ∧ k + gk = n ∧ Hid (BK w wr v))
  case atStart => exact ⟨0, _, by simp, by omega, HT⟩
  case round =>
    obtain ⟨k, v, rfl, hgk, HTr⟩ := hrel
    by_cases hk : k < n
    · obtain ⟨g', rfl⟩ : ∃ g', gk = g' + 1 := ⟨gk - 1, by omega⟩
      have hkl : k < rs.length := by rw [HNN.out]; exact hk
      obtain ⟨b1, o1, fa, fc, rfl, H1⟩ := HV.out.at k hkl
      have HO1 := Lib.hid (HV.out.one k hkl rfl)
      have hrk := HR.out _ (List.getElem_mem hkl)
      obtain ⟨⟨C, F, B⟩, hQ⟩ : ∃ q, rs[k] = q := ⟨_, rfl⟩
      rw [hQ] at H1 HO1 hrk
      obtain ⟨c0, c1, hFl⟩ := hrk
      simp only at H1 c0 c1 hFl
      have HX := Lib.hid (fun W hW => H1 W (bstep HTr.out.b hW))
      obtain ⟨S0, hS0⟩ : ∃ S, bs B = S := ⟨_, rfl⟩
      have HS0 := Lib.hid hS0
      have HOv := Lib.hid (fun W hW => ref_rover C (.slice fa F.length fc) F (bs B) W hW hFl)
      rw [hS0] at HX HOv
      have tk : decide ((k : Int) < (n : Int)) = true := decide_eq_true (by omega)
      obtain ⟨FL, hFL⟩ : ∃ FL, F.length = FL := ⟨_, rfl⟩
      have HFL := Lib.hid hFL
      rw [hFL] at HX HOv hFl
      obtain ⟨x0, x1, x2, -⟩ := HX.out wr (Below.refl _ _)
      cases hov : overR F S0 with
      | true =>
        rw [hov] at HOv
        clear H1 hQ hov hFL hS0 HT
        go_wp2_with fail
        refine (HOv.out _ ((HX.out wr (Below.refl _ _)).2.2.2)).mono ?_
        rintro e w2 ⟨rfl, hb2⟩
        have HB2 := Lib.hid (bstep HTr.out.b hb2)
        clear hb2
        go_wp2_with fail
        refine (awake45 _ (HE.out.below HB2.out)).mono ?_
        rintro e w3 ⟨rfl, hb3⟩
        go_wp2_with fail
        go_ret
        exact ⟨rfl, bstep HB2.out hb3⟩
      | false =>
        rw [hov] at HOv
        obtain ⟨f1, f2, f3⟩ := overR_false F S0 hov
        have HPr := Lib.hid (fun W hW => ref_rprint C (.slice fa F.length fc) F S0 W c0 c1 hW (by omega) (fun f hf => by have := f2 f hf; omega) (by omega))
        unfold RPost at HPr
        rw [hFL] at HPr
        have hSB : S0.data.toList = B := by rw [← hS0, bs_data]
        rw [hSB] at HPr
        have hBl : B.length ≤ 500 := by rw [← hSB, size_len]; exact f3
        by_cases he : repE C F = 0
        case neg =>
          have hS : repS C F B = [] := by unfold repS; rw [if_neg he]
          rw [hS] at HPr
          have tz : ((repE C F : Int) != 0) = true := by rw [bne_iff_ne]; omega
          generalize repE C F = E at HPr tz
          generalize bs [] = Z at HPr
          clear H1 hQ hov hFL hS0 HT f2 hS he hSB
          go_wp2_with fail
          refine (HOv.out _ ((HX.out wr (Below.refl _ _)).2.2.2)).mono ?_
          rintro e w2 ⟨rfl, hb2⟩
          have HB2 := Lib.hid hb2
          clear hb2 x0 x1 x2
          obtain ⟨x0, x1, x2, -⟩ := HX.out w2 HB2.out
          go_wp2_with fail
          refine (HPr.out _ ((HX.out w2 HB2.out).2.2.2)).mono ?_
          rintro e w3 ⟨rfl, hb3⟩
          have HTn : Hid (BK w w3 v) := Lib.hid ⟨HTr.out.f.below (bstep HB2.out hb3), bstep HTr.out.b (bstep HB2.out hb3)⟩
          clear hb3 x0 x1 x2 HB2
          go_wp2_with fail
          go_roundg g'
          case measure => omega
          case rel => exact ⟨k + 1, v, by simp, by omega, HTn⟩
        have hS : repS C F B = repL C F B := by unfold repS; rw [if_pos he]
        rw [hS, he] at HPr
        have hLl := (repL_len C F B he (by omega)).1
        have HPB := Lib.hid (putR_byte C F B 500 (by omega) he (by omega))
        have HQ := Lib.hid hQ
        have HF1 : Hid (∀ r ∈ [(C, F, B)], r.2.1.length ≤ 1000000) := Lib.hid (fun r hr => by
          obtain rfl := List.mem_singleton.1 hr
          show F.length ≤ _
          omega)
        obtain ⟨L, hL⟩ : ∃ L, repL C F B = L := ⟨_, rfl⟩
        rw [hL] at HPr HPB hLl
        obtain ⟨S, hSS⟩ : ∃ S, bs L = S := ⟨_, rfl⟩
        rw [hSS] at HPr
        obtain ⟨N, hN⟩ : ∃ N, S.size = N := ⟨_, rfl⟩
        have HNL : Hid (L.length = N) := Lib.hid (by rw [← hN, ← hSS, bs_size])
        have HSS := Lib.hid hSS
        have hNl : N ≤ 5000 := by rw [← HNL.out]; omega
        have HN := Lib.hid hN
        clear H1 hQ hov hFL hS0 HT f2 hS he hSB hLl hL hSS hN
        go_wp2_with fail
        refine (HOv.out _ ((HX.out wr (Below.refl _ _)).2.2.2)).mono ?_
        rintro e w2 ⟨rfl, hb2⟩
        have HB2 := Lib.hid hb2
        clear hb2 x0 x1 x2
        obtain ⟨x0, x1, x2, -⟩ := HX.out w2 HB2.out
        go_wp2_with fail
        refine (HPr.out _ ((HX.out w2 HB2.out).2.2.2)).mono ?_
        rintro e w3 ⟨rfl, hb3⟩
        have HTn : Hid (BK w w3 v) := Lib.hid ⟨HTr.out.f.below (bstep HB2.out hb3), bstep HTr.out.b (bstep HB2.out hb3)⟩
        clear hb3 x0 x1 x2 HB2 HTr HPr HOv
        have HI : Hid (FNew w.heap.size w3 w.heap.size 500 (leftK L 0) 0 v ∧ Below w.heap.size w w3) := Lib.hid ⟨by rw [leftK_zero]; exact HTn.out.f, HTn.out.b⟩
        clear HTn
        go_wp2_with fail
        go_loopg [8] N (fun gj s8 wj => ∃ (j : Nat) (v : Value), s8 = .int .i64 (j : Int) ∧ j + gj = N ∧ Hid (FNew w.heap.size wj w.heap.size 500 (leftK L j) 0 v ∧ Below w.heap.size w wj))
        case atStart => exact ⟨0, _, by simp, by omega, HI⟩
        case round =>
          obtain ⟨j, v, rfl, hgj, HIr⟩ := hrel
          have hNs := HN.out
          by_cases hj : j < N
          · obtain ⟨g2, rfl⟩ : ∃ g2, gk = g2 + 1 := ⟨gk - 1, by omega⟩
            have hjL : j < L.length := by rw [HNL.out]; exact hj
            have HPu := feed_put_is [L[j]] HIr.out.1 HE.out HIr.out.2 (by have := leftK_len L j; have := HNL.out; simp only [List.length_singleton]; omega) (HPB.out j hjL)
            have hex : S.extract j (j + 1) = bs [L[j]] := by
              rw [← HSS.out]
              rw [extract_byte (bs L) j (by rw [bs_data]; exact hjL)]
              simp only [bs_data]
            have tj : decide ((j : Int) < (N : Int)) = true := decide_eq_true (by omega)
            by_cases hl : j + 1 = N
            · rw [if_pos (by rw [HNL.out]; exact hl)] at HPu
              have t1 : decide ((j : Int) + 1 < (N : Int)) = false := decide_eq_false (by omega)
              have t2 : ((j : Int) + 1 == (N : Int)) = true := by rw [beq_iff_eq]; omega
              have HL := Lib.hid hl
              clear hl
              rw [show ([(C, F, B)] : List (Int × List (List UInt8 × List UInt8) × List UInt8)).length = 1 from rfl] at HPu
              have HPu := Lib.hid HPu
              go_wp2_with fail
              refine HPu.out.mono ?_
              rintro r w5 ⟨a5, c5, v5, rfl, hf5, hr5, hb5, ht5, -⟩
              have HF5 := Lib.hid (And.intro hf5 hb5)
              have HR5 := Lib.hid hr5
              clear hf5 hr5 hb5 ht5 HPu
              have HSa : Hid (∀ W, Below w5.heap.size w5 W → Calls Tryz.prog 12 #[.slice a5 1 c5, .slice (some ⟨b1, o1 + k * 3, none⟩) 1 (vc - k)] W fun e w' => e = .returned (.bool true) ∧ Below W.heap.size W w') := Lib.hid (fun W hW => same45 _ _ [(C, F, B)] W (HR5.out.holds.below hW) ((HO1.out.below HF5.out.2).below hW) HF1.out (by show 1 ≤ _; decide))
              have HNx : Hid (j + 1 + g2 = N) := Lib.hid (by omega)
              go_wp2_with fail
              all_goals
                refine (HSa.out _ (Below.refl _ _)).mono ?_
                rintro r w6 ⟨rfl, hb6⟩
                have HIn : Hid (FNew w.heap.size w6 w.heap.size 500 (leftK L (j + 1)) 0 v5 ∧ Below w.heap.size w w6) := Lib.hid ⟨HF5.out.1.below hb6, bstep HF5.out.2 hb6⟩
                clear hb6
                go_wp2_with fail
                go_roundg g2
                case measure => omega
                case rel => exact ⟨j + 1, v5, by simp, HNx.out, HIn⟩
            · rw [if_neg (by rw [HNL.out]; exact hl)] at HPu
              have t1 : decide ((j : Int) + 1 < (N : Int)) = true := decide_eq_true (by omega)
              have t2 : ((j : Int) + 1 == (N : Int)) = false := by rw [beq_eq_false_iff_ne]; omega
              clear hl
              rw [show ([] : List (Int × List (List UInt8 × List UInt8) × List UInt8)).length = 0 from rfl] at HPu
              have HPu := Lib.hid HPu
              go_wp2_with fail
              refine HPu.out.mono ?_
              rintro r w5 ⟨a5, c5, v5, rfl, hf5, hr5, hb5, ht5, -⟩
              have HIn : Hid (FNew w.heap.size w5 w.heap.size 500 (leftK L (j + 1)) 0 v5 ∧ Below w.heap.size w w5) := Lib.hid ⟨hf5, hb5⟩
              clear hf5 hr5 hb5 ht5 HPu
              have HNx : Hid (j + 1 + g2 = N) := Lib.hid (by omega)
              go_wp2_with fail
              go_roundg g2
              case measure => omega
              case rel => exact ⟨j + 1, v5, by simp, HNx.out, HIn⟩
          · obtain rfl : j = N := by omega
            have tj : decide ((j : Int) < (j : Int)) = false := decide_eq_false (by omega)
            have hz : leftK L j = [] := by rw [← HNL.out]; exact leftK_all L
            rw [hz] at HIr
            have HRs : Hid (Calls Tryz.prog 13 #[.pointer (some ⟨w.heap.size, 0, none⟩)] wr fun e w' => e = .returned (.int .i64 0) ∧ w' = wr) := Lib.hid (feed_rest_at HIr.out.1.fat)
            have HEn : Hid (Calls Tryz.prog 15 #[.pointer (some ⟨w.heap.size, 0, none⟩)] wr fun r w' => r = .returned (.int .i64 0) ∧ Below wr.heap.size wr w') := Lib.hid (feed_end_at HIr.out.1.fat)
            have HK : Hid (k + 1 + g' = n) := Lib.hid (by omega)
            clear hz HPB
            go_wp2_with fail
            refine HRs.out.mono ?_
            rintro r wx ⟨rfl, hww⟩
            obtain rfl := hww.symm
            clear hww
            go_wp2_with fail
            refine HEn.out.mono ?_
            rintro r w6 ⟨rfl, hb6⟩
            have HTn : Hid (BK w w6 v) := Lib.hid ⟨HIr.out.1.below hb6, bstep HIr.out.2 hb6⟩
            clear hb6
            go_wp2_with fail
            go_roundg g'
            case measure => omega
            case rel => exact ⟨k + 1, v, by simp, HK.out, HTn⟩
    · obtain rfl : k = n := by omega
      have tk : decide ((k : Int) < (k : Int)) = false := decide_eq_false (by omega)
      clear HT
      go_wp2_with fail
      refine (awake45 _ (HE.out.below HTr.out.b)).mono ?_
      rintro r wz ⟨rfl, hbz⟩
      go_wp2_with fail
      go_ret
      exact ⟨rfl, bstep HTr.out.b hbz⟩
end Go.Proofs.YtdihhbkajcngeaaGreatDoor
namespace Go.Proofs.YtdihhbkajcngeaaGreatDoor
open Go.RowKit

def FieldArg (W : World) (v : Value) (fs : List (List UInt8 × List UInt8)) : Prop := HoldsF W v fs ∧ (∀ f ∈ fs, f.1.length ≤ maxLen ∧ f.2.length ≤ maxLen) ∧ fs.length ≤ maxLen
theorem len_two {α : Type} {l : List α} (h : l.length = 2) : ∃ a b, l = [a, b] := by
  cases l with
  | nil => simp at h
  | cons a t => cases t with
    | nil => simp at h
    | cons b u => cases u with
      | nil => exact ⟨a, b, rfl⟩
      | cons c v => simp at h
theorem string_cell {H : Type} {enc : TypeId × Value → H} {W : World} {n : Nat} {cs : List Value} {x : DataW H × List MemPlace} (h : DataW.trod enc Tryz.prog W 0 (fun _ => true) true n 9 cs = some x) : ∃ l : List UInt8, cs = [.string (bs l)] ∧ l.length ≤ maxLen := by
  obtain ⟨s, hs, _, hm⟩ := DataW.trod_string Tryz.underlying9 h
  exact ⟨s.data.toList, by rw [hs, bs_self], by rw [size_len]; exact hm⟩
set_option maxRecDepth 10000 in
theorem fieldArg_of {H : Type} {enc : TypeId × Value → H} {W : World} {b : Option Addr} {n c : Nat} {d : DataW H} {p : List MemPlace}
    (h : DataW.Trod enc Tryz.prog W 0 (fun _ => true) true 43 (.slice b n c) d p) : ∃ fs, FieldArg W (.slice b n c) fs := by
  obtain ⟨fuel, hf⟩ := h
  rcases Go.Deep.open_slice Tryz.underlying43 hf with ⟨hcs, _⟩ | ⟨a, len, cap, m, q, D, Pl, hcs, _, hl, hm, hmm, _, hi⟩
  · simp [Value.cells] at hcs
    obtain ⟨rfl, rfl, rfl⟩ := hcs
    exact ⟨[], HoldsF.nil W none 0, fun f hf => by simp at hf, by unfold maxLen; simp⟩
  · simp [Value.cells] at hcs
    obtain ⟨rfl, rfl, rfl⟩ := hcs
    have hC : Tryz.prog.cellsOf 70 = 2 := by kernel_rfl
    have hS : Tryz.prog.cellsOf 9 = 1 := by kernel_rfl
    have key : ∀ i, ∃ f : List UInt8 × List UInt8, i < n → W.cell? (a.add (i * 2)) = some (.string (bs f.1)) ∧ W.cell? (a.add (i * 2 + 1)) = some (.string (bs f.2)) ∧ f.1.length ≤ maxLen ∧ f.2.length ≤ maxLen := by
      intro i
      by_cases hin : i < n
      · obtain ⟨cs', hc', ht⟩ := hi i (by rw [hmm]; simp; omega)
        rw [hC] at hc'
        obtain ⟨_, hcl, hcell⟩ := World.cells?_some hc'
        obtain ⟨xs, k, _, _, hcl2, hxl, hg⟩ := DataW.trod_struct Tryz.underlying70 ht
        obtain ⟨u0, u1, rfl⟩ := len_two hcl
        have hxl2 : xs.length = 2 := hxl
        obtain ⟨z0, z1, rfl⟩ := len_two hxl2
        have g0 : DataW.trod enc Tryz.prog W 0 (fun _ => true) true k 9 (([u0, u1].drop 0).take (Tryz.prog.cellsOf 9)) = some z0 := hg 0 _ rfl
        have g1 : DataW.trod enc Tryz.prog W 0 (fun _ => true) true k 9 (([u0, u1].drop 1).take (Tryz.prog.cellsOf 9)) = some z1 := hg 1 _ rfl
        rw [hS] at g0 g1
        obtain ⟨l0, e0, b0⟩ := string_cell g0
        obtain ⟨l1, e1, b1⟩ := string_cell g1
        have c0 := hcell 0 (by omega)
        have c1 := hcell 1 (by omega)
        rw [Go.Deep.add_add] at c0 c1
        simp at e0 e1 c0 c1
        subst e0 e1
        exact ⟨(l0, l1), fun _ => ⟨c0, c1, b0, b1⟩⟩
      · exact ⟨([], []), fun h => absurd h hin⟩
    obtain ⟨g, hg⟩ := Classical.skolem.1 key
    have hlen : ((List.range n).map g).length = n := by simp
    refine ⟨(List.range n).map g, ⟨some a, c, by rw [hlen], by rw [hlen]; exact hl, fun hne => ?_⟩, ?_, by rw [hlen]; omega⟩
    · have hpos : 0 < n := by
        rcases Nat.eq_zero_or_pos n with h0 | h0
        · subst h0; simp at hne
        · exact h0
      have h0 := (hg 0 hpos).1
      obtain ⟨b, o, sp⟩ := a
      have hsp : sp = none := by simpa [Addr.add] using World.cell?_spot h0
      subst hsp
      have ea : ∀ k, (⟨b, o, none⟩ : Addr).add k = ⟨b, o + k, none⟩ := fun k => by unfold Addr.add; split <;> simp_all
      refine ⟨b, o, rfl, by have := World.block_lt_of_cell? _ _ h0; simpa [Addr.add] using this, fun j hj => ?_⟩
      rw [hlen] at hj
      have hj2 := hg j hj
      rw [ea, ea] at hj2
      rw [List.getElem_map, List.getElem_range]
      exact ⟨hj2.1, hj2.2.1⟩
    · intro f hf
      obtain ⟨i, hi', rfl⟩ := List.mem_map.1 hf
      exact (hg i (List.mem_range.1 hi')).2.2
end Go.Proofs.YtdihhbkajcngeaaGreatDoor
namespace Go.Proofs.YtdihhbkajcngeaaGreatDoor
open Go.RowKit
/-- the slice v reads as the replies rs, each within the bounds of its type -/
def RepliesArg (W : World) (v : Value) (rs : List (Int × List (List UInt8 × List UInt8) × List UInt8)) : Prop :=
  HoldsQ W v rs ∧ (∀ r ∈ rs, (Lit.int .i64 r.1).wf = true ∧ r.2.1.length ≤ maxLen ∧ r.2.2.length ≤ maxLen) ∧ rs.length ≤ maxLen
section
variable {H : Type} {enc : TypeId × Value → H} {W : World}
theorem qint_at {fuel : Nat} {c : Value} {x : DataW H × List MemPlace} (h : DataW.trod enc Tryz.prog W 0 (fun _ => true) true fuel 3 [c] = some x) : ∃ n : Int, c = .int .i64 n ∧ (Lit.int .i64 n).wf = true := by
  obtain ⟨n, h1, h2, h3⟩ := DataW.trod_int Tryz.underlying3 h
  exact ⟨n, (List.cons.inj h1).1, h3⟩
theorem qstr_at {fuel : Nat} {c : Value} {x : DataW H × List MemPlace} (h : DataW.trod enc Tryz.prog W 0 (fun _ => true) true fuel 9 [c] = some x) : ∃ s : List UInt8, c = .string (bs s) ∧ s.length ≤ maxLen := by
  obtain ⟨n, h1, h2, h3⟩ := DataW.trod_string Tryz.underlying9 h
  exact ⟨n.data.toList, by rw [bs_self]; exact (List.cons.inj h1).1, by rw [size_len]; exact h3⟩
theorem qslice_at {fuel : Nat} {c : Value} {x : DataW H × List MemPlace} (h : DataW.trod enc Tryz.prog W 0 (fun _ => true) true fuel 43 [c] = some x) : ∃ b cp fs, c = .slice b fs.length cp ∧ FieldArg W (.slice b fs.length cp) fs := by
  obtain ⟨b, n, cp, rfl⟩ : ∃ b n cp, c = .slice b n cp := by
    rcases Go.Deep.open_slice Tryz.underlying43 h with ⟨hcs, _⟩ | ⟨a, len, cap, m, q, D, Pl, hcs, _⟩
    · exact ⟨_, _, _, (List.cons.inj hcs).1⟩
    · exact ⟨_, _, _, (List.cons.inj hcs).1⟩
  obtain ⟨d, p⟩ := x
  obtain ⟨fs, hf⟩ := fieldArg_of (b := b) (n := n) (c := cp) (d := d) (p := p) ⟨fuel, by simpa [Value.cells] using h⟩
  obtain ⟨a, c, hv, -, -⟩ := id hf.1
  injection hv with h1 h2 h3
  subst h2
  exact ⟨b, cp, fs, rfl, hf⟩
theorem len_three {α : Type} {l : List α} (h : l.length = 3) : ∃ a b c, l = [a, b, c] := by
  match l, h with
  | [a, b, c], _ => exact ⟨a, b, c, rfl⟩
set_option maxRecDepth 10000 in
theorem repliesArg_of {b : Option Addr} {n c : Nat} {d : DataW H} {p : List MemPlace}
    (h : DataW.Trod enc Tryz.prog W 0 (fun _ => true) true 34 (.slice b n c) d p) : ∃ rs, RepliesArg W (.slice b n c) rs := by
  obtain ⟨fuel, hf⟩ := h
  rcases Go.Deep.open_slice Tryz.underlying34 hf with ⟨hcs, _⟩ | ⟨a, len, cap, m, q, D, Pl, hcs, _, hl, hm, hmm, _, hi⟩
  · simp [Value.cells] at hcs
    obtain ⟨rfl, rfl, rfl⟩ := hcs
    exact ⟨[], ⟨none, 0, rfl, Nat.le_refl _, fun h => absurd rfl h⟩, (fun f hf => absurd hf (by simp)), by unfold maxLen; simp⟩
  · simp [Value.cells] at hcs
    obtain ⟨rfl, rfl, rfl⟩ := hcs
    have hC : Tryz.prog.cellsOf 45 = 3 := by kernel_rfl
    have key : ∀ i, ∃ r : Int × List (List UInt8 × List UInt8) × List UInt8, i < n → W.cell? (a.add (i * 3)) = some (.int .i64 r.1) ∧ (∃ fa fc, W.cell? (a.add (i * 3 + 1)) = some (.slice fa r.2.1.length fc) ∧ FieldArg W (.slice fa r.2.1.length fc) r.2.1) ∧ W.cell? (a.add (i * 3 + 2)) = some (.string (bs r.2.2)) ∧ (Lit.int .i64 r.1).wf = true ∧ r.2.2.length ≤ maxLen := by
      intro i
      by_cases hin : i < n
      · obtain ⟨cs', hc', ht⟩ := hi i (by rw [hmm]; simp; omega)
        rw [hC] at hc'
        obtain ⟨_, hcl, hcell⟩ := World.cells?_some hc'
        obtain ⟨u0, u1, u2, rfl⟩ := len_three hcl
        obtain ⟨y0, y1, y2, k, hx, hyl, g0, g1, g2⟩ := Go.Deep.trod_struct3 Tryz.underlying45 ht
        rw [show Tryz.prog.cellsOf 3 = 1 by kernel_rfl] at g0
        rw [show Tryz.prog.cellsOf 43 = 1 by kernel_rfl] at g1
        rw [show Tryz.prog.cellsOf 9 = 1 by kernel_rfl] at g2
        obtain ⟨l0, e0, b0⟩ := qint_at (by simpa using g0)
        obtain ⟨fa, fc, fs, e1, b1⟩ := qslice_at (by simpa using g1)
        obtain ⟨l2, e2, b2⟩ := qstr_at (by simpa using g2)
        have c0 := hcell 0 (by omega)
        have c1 := hcell 1 (by omega)
        have c2 := hcell 2 (by omega)
        rw [Go.Deep.add_add] at c0 c1 c2
        subst e0 e1 e2
        simp at c0 c1 c2
        exact ⟨(l0, fs, l2), fun _ => ⟨c0, ⟨fa, fc, c1, b1⟩, c2, b0, b2⟩⟩
      · exact ⟨(0, [], []), fun h => absurd h hin⟩
    obtain ⟨g, hg⟩ := Classical.skolem.1 key
    have hlen : ((List.range n).map g).length = n := by simp
    refine ⟨(List.range n).map g, ⟨some a, c, by rw [hlen], by rw [hlen]; exact hl, fun hne => ?_⟩, ?_, by rw [hlen]; omega⟩
    · have hpos : 0 < n := by
        rcases Nat.eq_zero_or_pos n with h0 | h0
        · subst h0; simp at hne
        · exact h0
      have h0 := (hg 0 hpos).1
      obtain ⟨b, o, sp⟩ := a
      have hsp : sp = none := by simpa [Addr.add] using World.cell?_spot h0
      subst hsp
      have ea : ∀ k, (⟨b, o, none⟩ : Addr).add k = ⟨b, o + k, none⟩ := fun k => by unfold Addr.add; split <;> simp_all
      refine ⟨b, o, rfl, by have := World.block_lt_of_cell? _ _ h0; simpa [Addr.add] using this, fun j hj => ?_⟩
      rw [hlen] at hj
      have hj2 := hg j hj
      rw [ea, ea, ea] at hj2
      rw [List.getElem_map, List.getElem_range]
      obtain ⟨k0, ⟨fa, fc, k1, k2⟩, k3, -, -⟩ := hj2
      exact ⟨k0, ⟨fa, fc, k1, k2.1⟩, k3⟩
    · intro f hf
      obtain ⟨i, hi', rfl⟩ := List.mem_map.1 hf
      obtain ⟨k0, ⟨fa, fc, k1, k2⟩, k3, k4, k5⟩ := hg i (List.mem_range.1 hi')
      exact ⟨k4, k2.2.2, k5⟩
end
end Go.Proofs.YtdihhbkajcngeaaGreatDoor
namespace Go.Proofs.YtdihhbkajcngeaaGreatDoor
open Go.RowKit
theorem feedReplies_go (v : Value) (rs : List (Int × List (List UInt8 × List UInt8) × List UInt8)) (W : World) (w0 : RepliesArg W v rs) (hL : laidMetH Tryz.prog Rows.feedRepliesRow.laid W) (hsh : W.ShapedOpen Tryz.prog) :
    Calls Tryz.prog 4 #[v] W fun e W' => e = .returned (.bool true) ∧ Below W.heap.size W W' := by
  rw [MakeChecks.laidMetH_plain _ _ _ (by kernel_rfl)] at hL
  refine feedReplies_walk v rs W (env_of hL (by simp) hsh) w0.1 w0.2.2 (fun r hr => ?_)
  obtain ⟨h1, h2, h3⟩ := w0.2.1 r hr
  obtain ⟨b1, b2⟩ := bounds_i64 h1
  unfold maxLen at h2
  omega
end Go.Proofs.YtdihhbkajcngeaaGreatDoor
namespace Go.Proofs.YtdihhbkajcngeaaGreatDoor
end Go.Proofs.YtdihhbkajcngeaaGreatDoor
