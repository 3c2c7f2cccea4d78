/- The law FeedForks. The law functions of layer 45, as the rows' proofs take them: FeedForks. -/
import Derived.Test.YtdihhbkajcngeaaGreatDoorPa9
set_option linter.unusedVariables false
namespace Go.Proofs.YtdihhbkajcngeaaGreatDoor
open Go.RowKit Go.Shelf Go.Lib
/-- a feed, its fork, and what the fork told -/
structure FK (w wr : World) (p q : Nat) (xf xg : List UInt8 × Nat) (vf vg so : Value) (N : Nat) (tf : Nat → List (Int × List (List UInt8 × List UInt8) × List UInt8)) : Prop where
  f : FNew w.heap.size wr p 300 xf.1 xf.2 vf
  g : FNew w.heap.size wr q 300 xg.1 xg.2 vg
  b : Below w.heap.size w wr
  t : TOwn wr w.heap.size so N tf
  ap : ∀ h, FS q vg h → ¬ FS p vf h
theorem FNew.touch {R : Nat} {w w' : World} {p : Nat} {m : Int} {l : List UInt8} {e : Nat} {v : Value} {S : Nat → Prop} (h : FNew R w p m l e v) (ht : Touch S w w') (hd : ∀ g, FS p v g → ¬ S g) : FNew R w' p m l e v := ⟨h.fat.touch ht hd, h.hi, h.st⟩
theorem FK.below {w wr wr' : World} {p q N : Nat} {xf xg : List UInt8 × Nat} {vf vg so : Value} {tf : Nat → List (Int × List (List UInt8 × List UInt8) × List UInt8)} (h : FK w wr p q xf xg vf vg so N tf) (hb : Below wr.heap.size wr wr') : FK w wr' p q xf xg vf vg so N tf :=
  ⟨h.f.below hb, h.g.below hb, bstep h.b hb, h.t.below hb, h.ap⟩
/-- the fork was handed a piece -/
theorem FK.putG {w wr w3 : World} {p q N : Nat} {xf xg xg' : List UInt8 × Nat} {vf vg vg' so : Value} {tf : Nat → List (Int × List (List UInt8 × List UInt8) × List UInt8)} (h : FK w wr p q xf xg vf vg so N tf) (hf : FNew w.heap.size w3 q 300 xg'.1 xg'.2 vg') (hb : Below w.heap.size w w3) (ht : Touch (FS q vg) wr w3) (hn : ∀ g, FS q vg' g → FS q vg g ∨ wr.heap.size ≤ g) : FK w w3 p q xf xg' vf vg' so N tf :=
  ⟨h.f.touch ht (fun g hg hs => h.ap g hs hg), hf, hb, h.t.feed h.g.fat ht, fun g hg hs => (hn g hg).elim (fun h2 => h.ap g h2 hs) (fun h2 => absurd (h.f.fat.slt g hs) (by omega))⟩
/-- the feed was handed a piece -/
theorem FK.putF {w wr w3 : World} {p q N : Nat} {xf xg xf' : List UInt8 × Nat} {vf vg vf' so : Value} {tf : Nat → List (Int × List (List UInt8 × List UInt8) × List UInt8)} (h : FK w wr p q xf xg vf vg so N tf) (hf : FNew w.heap.size w3 p 300 xf'.1 xf'.2 vf') (hb : Below w.heap.size w w3) (ht : Touch (FS p vf) wr w3) (hn : ∀ g, FS p vf' g → FS p vf g ∨ wr.heap.size ≤ g) : FK w w3 p q xf' xg vf' vg so N tf :=
  ⟨hf, h.g.touch ht (fun g hg hs => h.ap g hg hs), hb, h.t.feed h.f.fat ht, fun g hg hs => (hn g hs).elim (fun h2 => h.ap g hg h2) (fun h2 => absurd (h.g.fat.slt g hg) (by omega))⟩
/-- what the fork told is kept -/
theorem FK.tell {w w3 w4 : World} {p q N : Nat} {xf xg : List UInt8 × Nat} {vf vg so so' : Value} {tf : Nat → List (Int × List (List UInt8 × List UInt8) × List UInt8)} (h : FK w w3 p q xf xg vf vg so N tf) (ho : TOwn w4 w.heap.size so' (N + 1) tf) (hg : w3.grownBy w4 so.ownBlock) : FK w w4 p q xf xg vf vg so' (N + 1) tf :=
  ⟨h.f.grownT h.t hg, h.g.grownT h.t hg, h.t.low h.b hg, ho, h.ap⟩
theorem TOwn.at {w : World} {B n c i : Nat} {a : Option Addr} {tf : Nat → List (Int × List (List UInt8 × List UInt8) × List UInt8)} (h : TOwn w B (.slice a n c) n tf) (hi : i < n) :
    ∃ g a2 c2, a = some ⟨g, 0, none⟩ ∧ w.cell? ⟨g, i, none⟩ = some (.slice a2 (tf i).length c2) ∧ ROwn w 0 (.slice a2 (tf i).length c2) (tf i) ∧ g < w.heap.size := by
  obtain ⟨vs, h1, h2, h3⟩ := h
  rcases id h2.2 with ⟨hv, h0⟩ | ⟨g, cap, cur, hv, -⟩
  · omega
  · injection hv with e1 e2 e3
    subst e1
    have hR := h3 i (by omega)
    obtain ⟨a2, c2, e⟩ := hR.form
    have e0 : ∀ k, (⟨g, 0, none⟩ : Addr).add k = ⟨g, k, none⟩ := fun k => by unfold Addr.add; split <;> simp_all
    have hc := h2.cells (g := g) rfl i (vs[i]'(by omega)) (List.getElem?_eq_getElem _)
    rw [e0, e] at hc
    rw [e] at hR
    exact ⟨g, a2, c2, rfl, hc, hR, (h2.lt g rfl).2⟩
/-- a fork was made -/
theorem FK.start {w wr w4 : World} {p : Nat} {l : List UInt8} {e : Nat} {v v4 : Value} {tf : Nat → List (Int × List (List UInt8 × List UInt8) × List UInt8)} (h : FNew w.heap.size wr p 300 l e v) (hb : Below w.heap.size w wr) (hf : FAt w4 wr.heap.size 300 l e v4) (hb4 : Below wr.heap.size wr w4) (hn : ∀ g, v4.ownBlock = some g → wr.heap.size < g) : FK w w4 p wr.heap.size (l, e) (l, e) v v4 (.slice none 0 0) 0 tf := by
  have hi : ∀ g, FS wr.heap.size v4 g → wr.heap.size ≤ g := fun g hg => hg.elim (fun e => by omega) (fun h2 => Nat.le_of_lt (hn g h2))
  exact ⟨h.below hb4, ⟨hf, fun g hg => Nat.le_trans hb.size (hi g hg), h.st⟩, bstep hb hb4, TOwn.nil _ _ _, fun g hg hs => by have := hi g hg; have := h.fat.slt g hs; omega⟩
set_option maxRecDepth 100000 in
set_option maxHeartbeats 8000000 in
theorem feedForks_walk (v : Value) (ls : List (List UInt8)) (c : Nat) (hc : c ≤ 255) (w : World) (hE : EnvF w) (hv : StrArg w v ls) :
    Calls Tryz.prog 6 #[v, .int .u8 (c : Int)] w fun e w' => e = .returned (.bool true) ∧ Below w.heap.size w w' := by
  have HE := Lib.hid hE
  have HV := Lib.hid hv
  have HO := over45 v ls 20 2000 w (by decide) (by decide) hv
  obtain ⟨⟨va, vc, rfl, hvc, -⟩, -, hll⟩ := id hv
  unfold maxLen at hll
  cases hov : overB ls 20 2000 with
  | true =>
    rw [hov] at HO
    have HO := Lib.hid HO
    clear hE hv
    go_enter Tryz.func6, Tryz.ntmps6
    go_wp2_with fail
    refine HO.out.mono ?_
    rintro e w1 ⟨rfl, hww⟩
    obtain rfl := hww.symm
    go_wp2_with fail
    refine (awake45 _ HE.out).mono ?_
    rintro e w2 ⟨rfl, hb2⟩
    go_wp2_with fail
    go_ret
    exact ⟨rfl, hb2⟩
  | false =>
  rw [hov] at HO
  have HO := Lib.hid HO
  have HSm := Lib.hid (small45 ls hov)
  have hn20 := HSm.out.1
  obtain ⟨n, hn⟩ : ∃ n, ls.length = n := ⟨_, rfl⟩
  rw [hn] at hvc HV HO hll hn20 ⊢
  have HNN := Lib.hid hn
  obtain ⟨k, hk⟩ : ∃ k, c % (n + 1) = k := ⟨_, rfl⟩
  have hkn : k ≤ n := by rw [← hk]; have := Nat.mod_lt c (show 0 < n + 1 by omega); omega
  have hkI : Int.tmod (c : Int) ((n : Int) + 1) = (k : Int) := by rw [← hk]; exact (Int.ofNat_tmod c (n + 1)).symm
  have hcI : IntKind.i64.wrap (c : Int) = (c : Int) := by rw [IntKind.wrap_i64]; omega
  have HPn := Lib.hid (fun W => feed_put_nil ⟨#[120]⟩ W)
  have HEn := Lib.hid (fun W => feed_end_nil W)
  have HRn := Lib.hid (fun W => feed_rest_nil W)
  have HFn := Lib.hid (fun W => feed_fork_nil W)
  clear hn hE hv hov hk
  go_enter Tryz.func6, Tryz.ntmps6
  go_wp2_with fail
  refine HO.out.mono ?_
  rintro e w1 ⟨rfl, hww⟩
  obtain rfl := hww.symm
  clear hww HO
  go_wp2_with fail
  refine (HPn.out _).mono ?_
  rintro e w1 ⟨rfl, hww⟩
  obtain rfl := hww.symm
  clear hww
  go_wp2_with fail
  have hz : (w.alloc (.cells #[.bool false, .int .i64 0, .slice none 0 0, .int .i64 0] 55)).cell? ⟨w.heap.size, 0, none⟩ = some (.bool false) := by
    unfold World.cell?; rw [heap_alloc_new]; rfl
  have HPz := Lib.hid (feed_put_zero w.heap.size ⟨#[120]⟩ _ hz)
  have HBz := Lib.hid (feed_bad_zero w.heap.size _ hz)
  have HB1 : Hid (Below w.heap.size w (w.alloc (.cells #[.bool false, .int .i64 0, .slice none 0 0, .int .i64 0] 55))) := Lib.hid ((Below.refl _ _).alloc (Nat.le_refl _) _)
  clear hz HPn
  generalize w.alloc (.cells #[.bool false, .int .i64 0, .slice none 0 0, .int .i64 0] 55) = W1 at HPz HBz HB1 ⊢
  refine HPz.out.mono ?_
  rintro e w1 ⟨rfl, hww⟩
  obtain rfl := hww.symm
  clear hww
  go_wp2_with fail
  refine (HEn.out _).mono ?_
  rintro e w1 ⟨rfl, hww⟩
  obtain rfl := hww.symm
  clear hww
  go_wp2_with fail
  refine (HRn.out _).mono ?_
  rintro e w1 ⟨rfl, hww⟩
  obtain rfl := hww.symm
  clear hww
  go_wp2_with fail
  refine (HFn.out _).mono ?_
  rintro e w1 ⟨rfl, hww⟩
  obtain rfl := hww.symm
  clear hww
  go_wp2_with fail
  refine HBz.out.mono ?_
  rintro e w1 ⟨rfl, hww⟩
  obtain rfl := hww.symm
  clear hww
  go_wp2_with fail
  have HN := Lib.hid (feed_new 300 W1 (by decide) (by decide))
  clear HPz HBz HEn HRn HFn
  refine HN.out.mono ?_
  rintro e w2 ⟨rfl, hf2, hb2⟩
  have HF2 := Lib.hid (FNew.new (R := w.heap.size) hf2 HB1.out.size rfl)
  have HB2 := Lib.hid (bstep HB1.out hb2)
  generalize W1.heap.size = p at HF2 ⊢
  clear hf2 hb2 HN HB1
  go_wp2_with fail
  have HT : Hid (FNew w.heap.size w2 p 300 [] 0 (.slice none 0 0) ∧ Below w.heap.size w w2) := Lib.hid ⟨HF2.out, HB2.out⟩
  clear HF2 HB2 hkI hcI
  go_loopg [14] k (fun gk s14 wr => ∃ (j : Nat) (l : List UInt8) (e : Nat) (v : Value), s14 = .int .i64 (j : Int) ∧ j + gk = k ∧ l.length ≤ offF ls j ∧ Hid (FNew w.heap.size wr p 300 l e v ∧ Below w.heap.size w wr))
  case atStart => exact ⟨0, [], 0, _, by simp, by omega, Nat.zero_le _, HT⟩
  case round =>
    obtain ⟨j, l, e, v, rfl, hgj, hlj, HTr⟩ := hrel
    by_cases hj : j < k
    · obtain ⟨g', rfl⟩ : ∃ g', gk = g' + 1 := ⟨gk - 1, by omega⟩
      have hkl : j < ls.length := by rw [HNN.out]; omega
      obtain ⟨⟨va', vc', hv1, -, hx⟩, hsz, -⟩ := HV.out
      obtain ⟨bb, ob, rfl, hbl, hcell⟩ := hx (fun e => by rw [e] at hkl; exact absurd hkl (Nat.not_lt_zero _))
      injection hv1 with hv1 hv2 hv3
      subst hv1
      clear hv2 hv3
      have c1 : wr.cell? ⟨bb, ob + j, none⟩ = some (.string (bs ls[j])) := (HTr.out.2.cell (p := ⟨bb, ob + j, none⟩) hbl).trans (hcell j hkl)
      have hoff := offF_succ ls j hkl
      have hofl := offF_le ls (j + 1)
      have hsm := HSm.out.2
      obtain ⟨s, hs⟩ : ∃ s, ls[j] = s := ⟨_, rfl⟩
      rw [hs] at c1 hoff
      obtain ⟨rs, l', e', hR⟩ : ∃ rs l' e', putR 300 l e s = (rs, l', e') := ⟨_, _, _, rfl⟩
      have hcnt := (putR_count 300 l e s).1
      rw [hR] at hcnt
      have HP := Lib.hid (feed_put_is s HTr.out.1 HE.out HTr.out.2 (by omega) hR)
      have HL' : Hid (l'.length ≤ offF ls (j + 1)) := Lib.hid (by simp only at hcnt; omega)
      obtain ⟨S, hS⟩ : ∃ S, bs s = S := ⟨_, rfl⟩
      rw [hS] at c1 HP
      have tk : decide ((j : Int) < (k : Int)) = true := decide_eq_true (by omega)
      have hjn : (j : Int) < (n : Int) := by omega
      clear hx hsz hcell hoff hofl hsm hs hR hcnt hS HT hkl
      go_wp2_with fail
      refine HP.out.mono ?_
      rintro r w3 ⟨a3, c3, v3, rfl, hf3, -, hb3, -, -⟩
      have HTn : Hid (FNew w.heap.size w3 p 300 l' e' v3 ∧ Below w.heap.size w w3) := Lib.hid ⟨hf3, hb3⟩
      clear hf3 hb3 HP c1 HTr
      go_wp2_with fail
      go_roundg g'
      case measure => omega
      case rel => exact ⟨j + 1, l', e', v3, by simp, by omega, HL'.out, HTn⟩
    · obtain rfl : j = k := by omega
      have tk : decide ((j : Int) < (j : Int)) = false := decide_eq_false (by omega)
      have HFk := Lib.hid (feed_fork_at HTr.out.1.fat (by have := offF_le ls j; have := HSm.out.2; omega))
      clear HT
      go_wp2_with fail
      refine HFk.out.mono ?_
      rintro r w4 ⟨rfl, v4, hf4, hb4, hn4⟩
      obtain ⟨D, hD⟩ : ∃ D, ls.drop j = D := ⟨_, rfl⟩
      have HK : Hid (FK w w4 p wr.heap.size (l, e) (l, e) v v4 (.slice none 0 0) 0 (toldF 300 (l, e) D)) := Lib.hid (FK.start HTr.out.1 HTr.out.2 hf4 hb4 hn4)
      have HDl : Hid (D.length = n - j) := Lib.hid (by rw [← hD, List.length_drop, HNN.out])
      have HDg : Hid (∀ i (hi : i < D.length) (hi2 : j + i < ls.length), D[i] = ls[j + i]) := Lib.hid (fun i hi hi2 => by subst hD; rw [List.getElem_drop])
      have HDo : Hid (∀ i, i ≤ D.length → l.length + offF D i ≤ 2000) := Lib.hid (fun i hi => by
        have h1 : offF D i ≤ D.flatten.length := offF_le D i
        have h2 : offF ls j + D.flatten.length = ls.flatten.length := by
          unfold offF
          rw [← hD, ← List.length_append, ← List.flatten_append, List.take_append_drop]
        have := HSm.out.2
        omega)
      have HSt : Hid (e ≠ 0 → l = []) := Lib.hid HTr.out.1.st
      generalize wr.heap.size = q at HK ⊢
      clear hf4 hb4 hn4 HFk HTr hD hlj tk
      go_wp2_with fail
      go_loopg [16, 17] (n - j) (fun gk s16 s17 wr => ∃ (i : Nat) (vg : Value), s17 = .int .i64 ((j : Int) + (i : Int)) ∧ i + gk = n - j ∧ Hid (FK w wr p q (l, e) (stF 300 (l, e) (D.take i)) v vg s16 i (toldF 300 (l, e) D)))
      case atStart => exact ⟨0, v4, by simp, by omega, HK⟩
      case round =>
        obtain ⟨i, vg, rfl, hgi, HKr⟩ := hrel
        by_cases hi : i < n - j
        · obtain ⟨g', rfl⟩ : ∃ g', gk = g' + 1 := ⟨gk - 1, by omega⟩
          have hiD : i < D.length := by rw [HDl.out]; exact hi
          have hkl : j + i < ls.length := by rw [HNN.out]; omega
          obtain ⟨⟨va', vc', hv1, -, hx⟩, hsz, -⟩ := HV.out
          obtain ⟨bb, ob, rfl, hbl, hcell⟩ := hx (fun e => by rw [e] at hkl; exact absurd hkl (Nat.not_lt_zero _))
          injection hv1 with hv1 hv2 hv3
          subst hv1
          clear hv2 hv3
          have hDi := HDg.out i hiD hkl
          have c1 : wr.cell? ⟨bb, ob + (j + i), none⟩ = some (.string (bs D[i])) := by rw [hDi]; exact (HKr.out.b.cell (p := ⟨bb, ob + (j + i), none⟩) hbl).trans (hcell (j + i) hkl)
          have hst := stF_len 300 (l, e) D i (by omega)
          have hdo := HDo.out (i + 1) (by omega)
          have hds := offF_succ D i hiD
          have hR := toldF_of 300 (l, e) D i hiD
          have hcnt := (putR_count 300 (stF 300 (l, e) (D.take i)).1 (stF 300 (l, e) (D.take i)).2 D[i]).1
          obtain ⟨s, hs⟩ : ∃ s, D[i] = s := ⟨_, rfl⟩
          rw [hs] at c1 hds hR hcnt
          have HP := Lib.hid (feed_put_is s HKr.out.g HE.out HKr.out.b (by simp only at hst; omega) hR)
          obtain ⟨S, hS⟩ : ∃ S, bs s = S := ⟨_, rfl⟩
          obtain ⟨NR, hNR⟩ : ∃ NR, (toldF 300 (l, e) D i).length = NR := ⟨_, rfl⟩
          rw [hS, hNR] at HP
          rw [hS] at c1
          have tk : decide ((j : Int) + (i : Int) < (n : Int)) = true := decide_eq_true (by omega)
          have HNi : Hid (i < 2147483648) := Lib.hid (by omega)
          clear hx hsz hcell hDi hst hdo hds hR hcnt hs hS hNR HK hkl hiD
          go_wp2_with fail
          refine HP.out.mono ?_
          rintro r w5 ⟨a5, c5, v5, rfl, hf5, hr5, hb5, ht5, hn5⟩
          have HK5 := Lib.hid (HKr.out.putG (xg' := stF 300 (l, e) (D.take (i + 1))) hf5 hb5 ht5 hn5)
          have HR5 := Lib.hid hr5
          clear hf5 hr5 hb5 ht5 hn5 HP c1 HKr
          go_wp2_with (at_builtin; go_loud (refine append_told w5 (by rfl) _ _ (by rfl) w.heap.size i u16 (toldF 300 (l, e) D) (by rfl) HK5.out.t _ NR c5 a5 HR5.out (by rfl) HNi.out HK5.out.b.size ?_); intro g6 n6 c6 w6 ho6 hg6; have HO6 := Lib.hid ho6; have HG6 := Lib.hid hg6; clear ho6 hg6)
          have HKn := Lib.hid (HK5.out.tell HO6.out HG6.out)
          go_roundg g'
          case measure => omega
          case rel => exact ⟨i + 1, v5, by simp; omega, by omega, HKn⟩
        · obtain rfl : i = n - j := by omega
          have tk : decide ((j : Int) + ((n - j : Nat) : Int) < (n : Int)) = false := decide_eq_false (by omega)
          obtain ⟨M, hM⟩ : ∃ M, n - j = M := ⟨_, rfl⟩
          rw [hM] at HKr HDl tk ⊢
          obtain ⟨vs0, ht1, ht2, ht3⟩ := id HKr.out.t
          obtain ⟨aT, cT, rfl⟩ : ∃ a c, u16 = .slice a M c := by
            rcases ht2.2 with ⟨rfl, h0⟩ | ⟨g, cap, cur, rfl, -⟩
            · rw [h0]; exact ⟨_, _, rfl⟩
            · exact ⟨_, _, rfl⟩
          have HDM : Hid (D.take M = D) := Lib.hid (by rw [← HDl.out, List.take_length])
          have hjM : j + M = n := by omega
          have HK3 : Hid (FK w wr p q (stF 300 (l, e) (D.take 0)) (stF 300 (l, e) (D.take M)) v vg (.slice aT M cT) M (toldF 300 (l, e) D)) := Lib.hid HKr.out
          clear ht1 ht2 ht3 HKr HK hM hi hgi
          go_wp2_with fail
          go_loopg [20] M (fun gk s20 wr => ∃ (i : Nat) (vf : Value), s20 = .int .i64 ((j : Int) + (i : Int)) ∧ i + gk = M ∧ Hid (FK w wr p q (stF 300 (l, e) (D.take i)) (stF 300 (l, e) (D.take M)) vf vg (.slice aT M cT) M (toldF 300 (l, e) D)))
          case atStart => exact ⟨0, v, by simp, by omega, HK3⟩
          case round =>
            obtain ⟨i, vf, rfl, hgi, HKr⟩ := hrel
            by_cases hi : i < M
            · obtain ⟨go', rfl⟩ : ∃ go', gk = go' + 1 := ⟨gk - 1, by omega⟩
              have hiD : i < D.length := by rw [HDl.out]; exact hi
              have hkl : j + i < ls.length := by rw [HNN.out]; omega
              obtain ⟨⟨va', vc', hv1, -, hx⟩, hsz, -⟩ := HV.out
              obtain ⟨bb, ob, rfl, hbl, hcell⟩ := hx (fun e => by rw [e] at hkl; exact absurd hkl (Nat.not_lt_zero _))
              injection hv1 with hv1 hv2 hv3
              subst hv1
              clear hv2 hv3
              have hDi := HDg.out i hiD hkl
              have c1 : wr.cell? ⟨bb, ob + (j + i), none⟩ = some (.string (bs D[i])) := by rw [hDi]; exact (HKr.out.b.cell (p := ⟨bb, ob + (j + i), none⟩) hbl).trans (hcell (j + i) hkl)
              have hst := stF_len 300 (l, e) D i (by omega)
              have hdo := HDo.out (i + 1) (by omega)
              have hds := offF_succ D i hiD
              have hR := toldF_of 300 (l, e) D i hiD
              have hcnt := putR_count 300 (stF 300 (l, e) (D.take i)).1 (stF 300 (l, e) (D.take i)).2 D[i]
              obtain ⟨s, hs⟩ : ∃ s, D[i] = s := ⟨_, rfl⟩
              rw [hs] at c1 hds hR hcnt
              rw [hR] at hcnt
              have HP := Lib.hid (feed_put_is s HKr.out.f HE.out HKr.out.b (by simp only at hst; omega) hR)
              obtain ⟨S, hS⟩ : ∃ S, bs s = S := ⟨_, rfl⟩
              obtain ⟨rs, hrs⟩ : ∃ rs, toldF 300 (l, e) D i = rs := ⟨_, rfl⟩
              obtain ⟨NR, hNR⟩ : ∃ NR, rs.length = NR := ⟨_, rfl⟩
              rw [hrs] at hcnt
              have HSz : Hid (NR ≤ 2000 ∧ ∀ r ∈ rs, r.2.1.length ≤ 1000000) := Lib.hid ⟨by have := hcnt.1; simp only at this hst; omega, hcnt.2⟩
              rw [hS, hrs, hNR] at HP
              rw [hS] at c1
              have HRS := Lib.hid hrs
              have HNR := Lib.hid hNR
              have tk3 : decide ((j : Int) + (i : Int) < (n : Int)) = true := decide_eq_true (by omega)
              have tsub : (j : Int) + (i : Int) - (j : Int) = (i : Int) := by omega
              have hiM : (i : Int) < (M : Int) := by omega
              clear hx hsz hcell hDi hst hdo hds hR hcnt hs hS hrs hNR HK3 hkl hiD
              go_wp2_with fail
              refine HP.out.mono ?_
              rintro r w5 ⟨a5, c5, v5, rfl, hf5, hr5, hb5, ht5, hn5⟩
              have HK5 := Lib.hid (HKr.out.putF (xf' := stF 300 (l, e) (D.take (i + 1))) hf5 hb5 ht5 hn5)
              have HR5 := Lib.hid hr5
              obtain ⟨gT, a6, c6, rfl, x6, hr6, hgT⟩ := HK5.out.t.at hi
              rw [HRS.out, HNR.out] at x6 hr6
              have HR6 := Lib.hid hr6
              have HX6 := Lib.hid x6
              clear hf5 hr5 hb5 ht5 hn5 HP c1 HKr hr6
              go_wp2_with fail
              have HA := Lib.hid (HR5.out.holds)
              have HC := Lib.hid (HR6.out.holds)
              clear x6 HR5 HR6 hgT
              go_loopg [23] NR (fun gk s23 wr => ∃ x : Nat, s23 = .int .i64 (x : Int) ∧ x + gk = NR ∧ Hid (Below w5.heap.size w5 wr))
              case atStart => exact ⟨0, by simp, by omega, Lib.hid (Below.refl _ _)⟩
              case round =>
                obtain ⟨x, rfl, hgx, HBy⟩ := hrel
                by_cases hx : x < NR
                · obtain ⟨gi', rfl⟩ : ∃ g', gk = g' + 1 := ⟨gk - 1, by omega⟩
                  have hxl : x < rs.length := by rw [HNR.out]; exact hx
                  obtain ⟨b1, o1, fa, fc, rfl, H1⟩ := HA.out.at x hxl
                  obtain ⟨b2, o2, fb, fd, rfl, H2⟩ := HC.out.at x hxl
                  have hfl := HSz.out.2 _ (List.getElem_mem hxl)
                  obtain ⟨C, hC⟩ : ∃ C, rs[x].1 = C := ⟨_, rfl⟩
                  obtain ⟨F, hFF⟩ : ∃ F, rs[x].2.1 = F := ⟨_, rfl⟩
                  obtain ⟨B, hBB⟩ : ∃ B, bs rs[x].2.2 = B := ⟨_, rfl⟩
                  rw [hC, hFF, hBB] at H1 H2
                  rw [hFF] at hfl
                  obtain ⟨fl, hfl2⟩ : ∃ fl, F.length = fl := ⟨_, rfl⟩
                  have HFL := Lib.hid hfl2
                  rw [hfl2] at H1 H2
                  have HFl := Lib.hid hfl
                  have HX := Lib.hid (fun W hW => H1 W (bstep HBy.out hW))
                  have HY := Lib.hid (fun W hW => H2 W (bstep HBy.out hW))
                  have hgT2 : gT < w5.heap.size := by obtain ⟨gT', a', c', e1, -, -, h4⟩ := HK5.out.t.at hi; injection e1 with e1; injection e1 with e1; omega
                  have HT6 := Lib.hid (fun W (hW : Below wr.heap.size wr W) => ((bstep HBy.out hW).cell (p := ⟨gT, i, none⟩) hgT2).trans HX6.out)
                  have HDr : Hid (Below wr.heap.size wr wr.drew) := Lib.hid (Below.refl _ _).drew
                  have HS : Hid (∀ W, Below wr.heap.size wr W → W.cell? ⟨gT, i, none⟩ = some (.slice (some ⟨b2, o2, none⟩) NR c6) ∧ W.cell? ⟨b1, o1 + x * 3, none⟩ = some (.int .i64 C) ∧ W.cell? ⟨b1, o1 + x * 3 + 1, none⟩ = some (.slice fa fl fc) ∧ W.cell? ⟨b1, o1 + x * 3 + 2, none⟩ = some (.string B) ∧ W.cell? ⟨b2, o2 + x * 3, none⟩ = some (.int .i64 C) ∧ W.cell? ⟨b2, o2 + x * 3 + 1, none⟩ = some (.slice fb fl fd) ∧ W.cell? ⟨b2, o2 + x * 3 + 2, none⟩ = some (.string B)) := Lib.hid (fun W hW =>
                    let ⟨x0, x1, x2, _⟩ := HX.out W hW
                    let ⟨y0, y1, y2, _⟩ := HY.out W hW
                    ⟨HT6.out W hW, x0, x1, x2, y0, y1, y2⟩)
                  have HRm : Hid (∀ W, Below wr.heap.size wr W → Calls Tryz.prog 19 #[.agg #[.int .i64 C, .slice fa fl fc, .string B], .agg #[.int .i64 C, .slice fb fl fd, .string B]] W fun e w' => e = .returned (.bool true) ∧ Below W.heap.size W w') := Lib.hid (fun W hW => by
                    have := reply_same C C B B (.slice fa fl fc) (.slice fb fl fd) F F W (HX.out _ hW).2.2.2 (HY.out _ hW).2.2.2 HFl.out HFl.out
                    rw [sameR_refl] at this
                    exact this)
                  have tk4 : decide ((x : Int) < (NR : Int)) = true := decide_eq_true (by omega)
                  have tw1 : IntKind.i64.wrap (i : Int) = (i : Int) := by rw [IntKind.wrap_i64]; omega
                  have tw2 : IntKind.i64.wrap ((j : Int) + (i : Int) - (j : Int)) = (i : Int) := by rw [IntKind.wrap_i64]; omega
                  clear H1 H2 hfl hfl2 hC hFF hBB HA HC hxl hgT2 HT6 HX6
                  go_wp2_with fail
                  go_region_held3 (fun w' => w'.cell? ⟨gT, i, none⟩ = some (.slice (some ⟨b2, o2, none⟩) NR c6) ∧ w'.cell? ⟨b1, o1 + x * 3, none⟩ = some (.int .i64 C) ∧ w'.cell? ⟨b1, o1 + x * 3 + 1, none⟩ = some (.slice fa fl fc) ∧ w'.cell? ⟨b1, o1 + x * 3 + 2, none⟩ = some (.string B) ∧ w'.cell? ⟨b2, o2 + x * 3, none⟩ = some (.int .i64 C) ∧ w'.cell? ⟨b2, o2 + x * 3 + 1, none⟩ = some (.slice fb fl fd) ∧ w'.cell? ⟨b2, o2 + x * 3 + 2, none⟩ = some (.string B)) (first | exact HS.out _ HDr.out | exact HS.out _ HA2.out)
                    (first | (go_at_call 19; refine (HRm.out _ HDr.out).mono ?_; rintro e wa ⟨rfl, hba⟩; have HA2 : Hid (Below wr.heap.size wr wa) := Lib.hid (bstep HDr.out hba); clear hba))
                  have HBn := Lib.hid (bstep HBy.out HA2.out)
                  have hNb : NR ≤ 2000 := HSz.out.1
                  clear HS HDr HA2 HRm HX HY HBy
                  go_wp2_with fail
                  go_roundg gi'
                  case measure => omega
                  case rel => exact ⟨x + 1, by simp, by omega, HBn⟩
                · obtain rfl : x = NR := by omega
                  have tk4 : decide ((x : Int) < (x : Int)) = false := decide_eq_false (by omega)
                  have HKn := Lib.hid (HK5.out.below HBy.out)
                  clear HA HC HBy HK5 HX6
                  go_wp2_with fail
                  go_roundg go'
                  case measure => omega
                  case rel => exact ⟨i + 1, v5, by simp; omega, by omega, HKn⟩
            · obtain rfl : i = M := by omega
              have tk3 : decide ((j : Int) + (i : Int) < (n : Int)) = false := decide_eq_false (by omega)
              have HBf := Lib.hid (feed_bad_at HKr.out.f.fat)
              have HBg := Lib.hid (feed_bad_at HKr.out.g.fat)
              have HRf := Lib.hid (feed_rest_at HKr.out.f.fat)
              have HRg := Lib.hid (feed_rest_at HKr.out.g.fat)
              have HBw := Lib.hid HKr.out.b
              obtain ⟨E9, hE9⟩ : ∃ E9, (stF 300 (l, e) (D.take i)).2 = E9 := ⟨_, rfl⟩
              obtain ⟨L9, hL9⟩ : ∃ L9, (stF 300 (l, e) (D.take i)).1.length = L9 := ⟨_, rfl⟩
              rw [hE9] at HBf HBg
              rw [hL9] at HRf HRg
              clear hE9 hL9 HKr HK3
              go_wp2_with fail
              refine HBf.out.mono ?_
              rintro e9 wx ⟨rfl, hww⟩
              obtain rfl := hww.symm
              clear hww
              go_wp2_with fail
              refine HBg.out.mono ?_
              rintro e9 wx ⟨rfl, hww⟩
              obtain rfl := hww.symm
              clear hww
              go_wp2_with fail
              refine HRf.out.mono ?_
              rintro e9 wx ⟨rfl, hww⟩
              obtain rfl := hww.symm
              clear hww
              go_wp2_with fail
              refine HRg.out.mono ?_
              rintro e9 wx ⟨rfl, hww⟩
              obtain rfl := hww.symm
              clear hww
              go_wp2_with fail
              refine (awake45 _ (HE.out.below HBw.out)).mono ?_
              rintro r wz ⟨rfl, hbz⟩
              go_wp2_with fail
              go_ret
              exact ⟨rfl, bstep HBw.out hbz⟩
end Go.Proofs.YtdihhbkajcngeaaGreatDoor
namespace Go.Proofs.YtdihhbkajcngeaaGreatDoor
open Go.RowKit
theorem feedForks_go {W : World} (v : Value) (ls : List (List UInt8)) (c : Int) (hv : StrArg W v ls) (hc : (Lit.int .u8 c).wf = true) (hL : laidMetH Tryz.prog Rows.feedForksRow.laid W) (hsh : W.ShapedOpen Tryz.prog) :
    Calls Tryz.prog 6 #[v, .int .u8 c] W fun e W' => e = .returned (.bool true) ∧ Below W.heap.size W W' := by
  rw [MakeChecks.laidMetH_plain _ _ _ (by kernel_rfl)] at hL
  have hb0 : IntKind.u8.min ≤ c ∧ c ≤ IntKind.u8.max := by simpa [Lit.wf] using hc
  have hb : 0 ≤ c ∧ c ≤ 255 := hb0
  obtain ⟨m, rfl⟩ : ∃ m : Nat, c = (m : Int) := ⟨c.toNat, by omega⟩
  exact feedForks_walk v ls m (by omega) W (env_of hL (by simp) hsh) hv
end Go.Proofs.YtdihhbkajcngeaaGreatDoor
