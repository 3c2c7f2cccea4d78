/- The law PoolOnce returns true. -/
import Derived.Test.YtjeeedbbdgjgeaaPoolOnce
namespace Go.Proofs.Ytjeeedbbdgjgeaa
open Go.RowKit Go.Maps PoolPlain
theorem small_of (ls : List (List UInt8)) (h1 : ¬ 60 < ls.length) (h2 : longB ls 3000 = false) : Small ls := ⟨by omega, by unfold longB at h2; have := of_decide_eq_false h2; omega⟩
set_option maxRecDepth 100000 in
set_option maxHeartbeats 8000000 in
theorem poolOnce_walk (v : Value) (ls : List (List UInt8)) (w : World) (hv : StrArg w v ls) :
    Calls Try.prog 8 #[v] w fun e w' => e = .returned (.bool true) ∧ Below w.heap.size w w' := by
  have HNew := Lib.hid (fun W => PoolAt.new W)
  obtain ⟨⟨va, vc, rfl, hvc, hx⟩, hsz, hll⟩ := id hv
  unfold maxLen at hll
  have HX := Lib.hid hx
  have HV := Lib.hid hv
  clear hx hsz hv
  by_cases h60 : 60 < ls.length
  · have t0 : decide ((60 : Int) < (ls.length : Int)) = true := decide_eq_true (by omega)
    go_enter Try.func8, Try.ntmps8
    go_wp2_with fail
    refine (awake11 _).mono ?_
    rintro e W2 ⟨rfl, hb2⟩
    go_wp2_with fail
    go_ret
    exact ⟨rfl, hb2⟩
  · have t0 : decide ((60 : Int) < (ls.length : Int)) = false := decide_eq_false (by omega)
    cases hlg : longB ls 3000 with
    | true =>
      have HLg := Lib.hid (long11 _ ls 3000 w (by omega) HV.out)
      rw [hlg] at HLg
      clear hlg
      go_enter Try.func8, Try.ntmps8
      go_wp2_with fail
      refine HLg.out.mono ?_
      rintro e W2 ⟨rfl, rfl⟩
      go_wp2_with fail
      refine (awake11 _).mono ?_
      rintro e W2 ⟨rfl, hb2⟩
      go_wp2_with fail
      go_ret
      exact ⟨rfl, hb2⟩
    | false =>
      have HLg := Lib.hid (long11 _ ls 3000 w (by omega) HV.out)
      rw [hlg] at HLg
      have HSm := Lib.hid (small_of ls h60 hlg)
      clear hlg h60
      have h60 : ls.length ≤ 60 := HSm.out.1
      have hf3 : ls.flatten.length ≤ 3000 := HSm.out.2
      have HF3 := Lib.hid hf3
      clear hf3
      go_enter Try.func8, Try.ntmps8
      go_wp2_with fail
      refine HLg.out.mono ?_
      rintro e W2 ⟨rfl, rfl⟩
      go_wp2_with fail
      refine (pool_new W2).mono ?_
      rintro e W1 ⟨rfl, hw1⟩
      have P1 := HNew.out W2
      have B1 : Below W2.heap.size W2 W1 := by rw [hw1]; exact own_new W2 _ _ (Nat.le_refl _)
      rw [← hw1] at P1
      have hS1 : ∀ g, (fun g => g = W2.heap.size) g → W2.heap.size ≤ g := fun g hg => by have : g = W2.heap.size := hg; omega
      generalize (fun g => g = W2.heap.size) = S1 at P1 hS1
      have HK1 : Hid (OnceSt W2 W2.heap.size ls (addAll ls 0) 0 S1 (.slice none 0 0) W1) := Lib.hid ⟨P1, hS1, World.ownsRow_nil _ _ _ _, fun g hg => (by cases hg), B1, B1.size⟩
      clear P1 B1 hS1 hw1 HNew HLg
      go_wp2_with fail
      go_loopw [4, 5, 6, 7] (fun t s u i wr => ∃ (k : Nat) (S : Nat → Prop), k ≤ ls.length ∧ i = .int .i64 k ∧ s = .int .i64 ((addAll ls k).flatten.length : Nat) ∧ u = .int .i64 ((addAll ls k).length : Nat) ∧ Hid (OnceSt W2 W2.heap.size ls (addAll ls k) k S t wr)) (fun _ _ _ i _ => ls.length - (intOf i).toNat)
      case atStart => exact ⟨0, S1, by omega, rfl, rfl, rfl, HK1⟩
      case round =>
        obtain ⟨k, S, hk, rfl, rfl, rfl, HK⟩ := hrel
        clear HK1
        by_cases hlt : k < ls.length
        · obtain ⟨b, q, rfl, hbl, hcell⟩ := HX.out (fun e => by rw [e] at hlt; exact absurd hlt (Nat.not_lt_zero _))
          have HC : Hid (∀ W', Below W2.heap.size W2 W' → W'.cell? ⟨b, q + k, none⟩ = some (.string (bs ls[k]))) := Lib.hid (fun W' hb => (hb.cell (p := ⟨b, q + k, none⟩) hbl).trans (hcell k hlt))
          have hok := addAll_ok ls k
          have hfl := okL_flat _ hok
          have hlk := addAll_len ls k (by omega)
          obtain ⟨st1, st2⟩ := once_step ls k hlt
          have Hst := Lib.hid (And.intro st1 st2)
          have Hsc := Lib.hid (addAll_succ ls k hlt)
          have Hct := Lib.hid (cont_at ls k hlt)
          have hsl := small_len ls HSm.out k hlt
          obtain ⟨m, hm⟩ : ∃ m, ls[k] = m := ⟨_, rfl⟩
          rw [hm] at HC Hst Hsc Hct hsl
          have hmd := Lib.hid (bs_data m)
          have hms := bs_size m
          obtain ⟨sB, hsB⟩ : ∃ sB, bs m = sB := ⟨_, rfl⟩
          rw [hsB] at HC hmd hms
          clear hm hsB hcell HX st1 st2 hok
          obtain ⟨N, hN⟩ : ∃ N, N = (addAll ls k).flatten.length := ⟨_, rfl⟩
          rw [← hN] at Hst hfl ⊢
          obtain ⟨U, hU⟩ : ∃ U, U = (addAll ls k).length := ⟨_, rfl⟩
          rw [← hU] at Hst hlk ⊢
          clear hN hU
          have c0 := HC.out _ HK.out.2.2.2.2.1
          go_wp2_with fail
          refine (pool_add _ _ _ sB wr (by omega) HK.out.1).mono ?_
          rintro e w1 ⟨he, hA⟩
          rw [hmd.out] at he hA
          obtain ⟨S', K1⟩ := HK.out.add hA
          have HK1 := Lib.hid K1
          have c0 := HC.out _ HK1.out.2.2.2.2.1
          have hbl1 := Nat.lt_of_lt_of_le hbl HK1.out.2.2.2.2.2
          subst he
          obtain ⟨X1, X2, hXX⟩ := addC_pair (addAll ls k) m
          have HXX := Lib.hid hXX
          rw [hXX]
          cases hI : addIs (addAll ls k) m with
          | true =>
            have HI := Lib.hid hI
            clear hA K1 hXX hI
            go_wp2_with (at_builtin; (refine append_cont (w1.alloc (.cells #[.int .u64 (X1 : Nat), .int .u32 (X2 : Nat)] 39)) rfl _ _ rfl u4 rfl (HK1.out.alloc _) X1 X2 (Hct.out.trans HXX.out) (w1.heap.size + 1) (World.size_alloc _ _) rfl (by omega) ?_); intro v3 w3 hst3; have HK3 := Lib.hid hst3; clear hst3; have c0 := HC.out _ HK3.out.2.2.2.2.1; have hbl3 := Nat.lt_of_lt_of_le hbl HK3.out.2.2.2.2.2)
            go_roundw
            case rel => exact ⟨k + 1, S', by omega, by go_num, by rw [Hst.out.1, HI.out]; congr 1, by rw [Hst.out.2, HI.out]; congr 1, by rw [Hsc.out]; exact HK3⟩
            case measure => simp [intOf]; omega
          | false =>
            have HI := Lib.hid hI
            clear hA K1 hXX hI
            go_wp2_with (at_builtin; (refine append_cont (w1.alloc (.cells #[.int .u64 (X1 : Nat), .int .u32 (X2 : Nat)] 39)) rfl _ _ rfl u4 rfl (HK1.out.alloc _) X1 X2 (Hct.out.trans HXX.out) (w1.heap.size + 1) (World.size_alloc _ _) rfl (by omega) ?_); intro v3 w3 hst3; have HK3 := Lib.hid hst3; clear hst3; have c0 := HC.out _ HK3.out.2.2.2.2.1; have hbl3 := Nat.lt_of_lt_of_le hbl HK3.out.2.2.2.2.2)
            go_roundw
            case rel => exact ⟨k + 1, S', by omega, by go_num, by rw [Hst.out.1, HI.out]; congr 1, by rw [Hst.out.2, HI.out]; congr 1, by rw [Hsc.out]; exact HK3⟩
            case measure => simp [intOf]; omega
        · obtain rfl : k = ls.length := by omega
          have hok := addAll_ok ls ls.length
          have HOk := Lib.hid hok
          have hfl := okL_flat _ hok
          have hln : (addAll ls ls.length).length ≤ 2048 := hok.1
          have HTx := Lib.hid (pool_text _ _ _ wr HK.out.1)
          have HLn := Lib.hid (fun W (h : PoolAt W W2.heap.size (addAll ls ls.length) S) => pool_len _ _ _ W h)
          obtain ⟨T, hT⟩ : ∃ T, bs (addAll ls ls.length).flatten = T := ⟨_, rfl⟩
          have hTs : T.size = (addAll ls ls.length).flatten.length := by rw [← hT, bs_size]
          obtain ⟨N, hN⟩ : ∃ N, (addAll ls ls.length).flatten.length = N := ⟨_, rfl⟩
          obtain ⟨U, hU⟩ : ∃ U, (addAll ls ls.length).length = U := ⟨_, rfl⟩
          rw [hT] at HTx
          rw [hU] at HLn hln ⊢
          rw [hN] at hTs hfl ⊢
          have HT := Lib.hid hT
          have HN := Lib.hid (And.intro hN hU)
          clear hT hN hU hok
          go_wp2_with fail
          refine HTx.out.mono ?_
          rintro e w1 ⟨rfl, hb1⟩
          have HK1 := Lib.hid (HK.out.below hb1)
          clear hb1 HK HTx
          go_wp2_with fail
          have HK1B := Lib.hid HK1.out.2.2.2.2.1
          have HVr := Lib.hid (HX.out)
          rcases Nat.eq_zero_or_pos ls.length with hz | hpos
          · have hNz : Hid (N = 0 ∧ U = 0) := Lib.hid (by
              have e : ls = [] := List.length_eq_zero_iff.1 hz
              subst e
              exact ⟨HN.out.1.symm, HN.out.2.symm⟩)
            obtain ⟨rfl, rfl⟩ := hNz.out
            rw [hz]
            refine wp_loop_rounds 1 ?_
            rw [rounds_succ]
            go_wp2_with (first
              | (go_at_call 26; refine (HLn.out _ HK1.out.1).mono ?_; rintro e w' ⟨rfl, rfl⟩)
              | (go_at_call 21; refine (awake11 _).mono ?_; rintro e w12 ⟨rfl, hb⟩; have HB12 := Lib.hid (HK1B.out.trans (hb.mono HK1B.out.size)); clear hb))
            go_ret
            exact ⟨rfl, HB12.out⟩
          · obtain ⟨g, cap, rfl, hgl, hcell⟩ := HK1.out.read hpos
            obtain ⟨b, q, rfl, hbl, hcl⟩ := HX.out (fun e => by rw [e] at hpos; exact absurd hpos (Nat.lt_irrefl _))
            have HCt := Lib.hid hcell
            have HCl := Lib.hid hcl
            clear hcell hcl HX HVr
            go_loopw [12] (fun i wr => ∃ k : Nat, k ≤ ls.length ∧ i = .int .i64 k ∧ Hid (Below w1.heap.size w1 wr)) (fun i _ => ls.length - (intOf i).toNat)
            case atStart => exact ⟨0, by omega, rfl, Lib.hid (Below.refl _ _)⟩
            case round =>
              obtain ⟨i, hi, rfl, HB⟩ := hrel
              by_cases hlt2 : i < ls.length
              · have hbw := HK1B.out.trans (HB.out.mono HK1B.out.size)
                have HKr := Lib.hid (HK1.out.below HB.out)
                have c0 := (hbw.cell (p := ⟨b, q + i, none⟩) hbl).trans (HCl.out i hlt2)
                have hbr : b < wr.heap.size := Nat.lt_of_lt_of_le hbl hbw.size
                have hgr : g < wr.heap.size := Nat.lt_of_lt_of_le hgl HB.out.size
                have d0 := (HB.out.cell (p := ⟨g, i * 2, none⟩) hgl).trans (HCt.out i hlt2).1
                have d1 := (HB.out.cell (p := ⟨g, i * 2 + 1, none⟩) hgl).trans (HCt.out i hlt2).2
                have HBw := Lib.hid hbw
                clear hbw
                by_cases hem : ls[i] = []
                · have hcn := spot_nil ls i hlt2 hem
                  rw [hcn] at d0 d1
                  rw [hem] at c0
                  have HG := Lib.hid (pool_get _ (addAll ls ls.length) S 0 0 wr HKr.out.1)
                  unfold GetR at HG
                  rw [none_at _ HOk.out 0] at HG
                  have HGs : Hid (bs (getS (addAll ls ls.length) 0 0) = bs (getS (addAll ls ls.length) 0 0)) := Lib.hid rfl
                  generalize bs (getS (addAll ls ls.length) 0 0) = G at HG HGs
                  have tE : (bs ([] : List UInt8)).toList = [] := by rw [ByteArray.toList_eq, bs_data]
                  clear hcn hem
                  go_wp2_with fail
                  refine HG.out.mono ?_
                  rintro e w3 ⟨rfl, hb3⟩
                  have c0 := (hb3.cell (p := ⟨b, q + i, none⟩) hbr).trans c0
                  have HB3 := Lib.hid (bstep HB.out hb3)
                  clear d0 d1 hb3
                  go_wp2_with fail
                  go_roundw
                  case rel => exact ⟨i + 1, by omega, by go_num, HB3⟩
                  case measure => simp [intOf]; omega
                · obtain ⟨k, hk, e1, e2⟩ := spot ls HSm.out i hlt2 hem
                  have hso := some_at _ HOk.out k hk
                  have hend := off_end _ k hk
                  have hsub := sub_at _ k hk
                  have HEq := Lib.hid (fun j hj => cont_eq ls HSm.out j i hj hlt2 hem)
                  have HG := Lib.hid (pool_get _ (addAll ls ls.length) S (off (addAll ls ls.length) k) (addAll ls ls.length)[k].length wr HKr.out.1)
                  unfold GetR at HG
                  rw [hso.1, hso.2] at HG
                  rw [e1] at HG hend hsub
                  have HE2 := Lib.hid e2
                  rw [e2] at d0 d1
                  have hT : T.extract (off (addAll ls ls.length) k) (off (addAll ls ls.length) k + ls[i].length) = bs ls[i] := by
                    rw [extract_bs, ← HT.out, bs_data]
                    congr 1
                    rw [← hsub, List.drop_take, List.length_take, List.length_drop]
                    congr 1
                    have := HN.out.1
                    omega
                  rw [HN.out.1] at hend
                  have t1 : (bs ls[i]).toList.isEmpty = false := by
                    rw [ByteArray.toList_eq, bs_data]
                    cases hq : ls[i] with
                    | nil => exact absurd hq hem
                    | cons a t => rfl
                  have hms := bs_size ls[i]
                  have hsl := small_len ls HSm.out i hlt2
                  obtain ⟨m, hm⟩ : ∃ m, ls[i] = m := ⟨_, rfl⟩
                  have HM := Lib.hid hm
                  rw [hm] at c0 HG hend hT t1 hms d0 d1 hsl HE2
                  obtain ⟨X, hX⟩ : ∃ X, bs m = X := ⟨_, rfl⟩
                  rw [hX] at c0 HG hT t1 hms
                  obtain ⟨o, ho⟩ : ∃ o, off (addAll ls ls.length) k = o := ⟨_, rfl⟩
                  rw [ho] at HG hend hT d0 HE2
                  obtain ⟨n, hn⟩ : ∃ n, m.length = n := ⟨_, rfl⟩
                  rw [hn] at HG hend hT d1 hms hsl HE2
                  have HX2 := Lib.hid hX
                  clear hem e1 e2 hso hsub hm hX ho hn
                  go_wp2_with fail
                  refine HG.out.mono ?_
                  rintro e w3 ⟨rfl, hb3⟩
                  have c0 := (hb3.cell (p := ⟨b, q + i, none⟩) hbr).trans c0
                  have d0 := (hb3.cell (p := ⟨g, i * 2, none⟩) hgr).trans d0
                  have d1 := (hb3.cell (p := ⟨g, i * 2 + 1, none⟩) hgr).trans d1
                  have hbr3 := Nat.lt_of_lt_of_le hbr hb3.size
                  have hgr3 := Nat.lt_of_lt_of_le hgr hb3.size
                  have HB3 := Lib.hid (bstep HB.out hb3)
                  clear hb3
                  go_wp2_with fail
                  have f1 : IntKind.u64.wrap (n : Int) = (n : Int) := u64_nat n (by omega)
                  have f2 : IntKind.u64.wrap ((o : Int) + (n : Int)) = (o : Int) + (n : Int) := IntWalk.u64_in _ (by omega)
                  have f3 : IntKind.i64.wrap (n : Int) = (n : Int) := IntWalk.i64_in _ (by omega)
                  have f4 : IntKind.u64.wrap (N : Int) = (N : Int) := u64_nat N (by omega)
                  have t2 : decide ((N : Int) < (o : Int) + (n : Int)) = false := decide_eq_false (by omega)
                  have t3 : decide ((o : Int) + (n : Int) < (o : Int)) = false := decide_eq_false (by omega)
                  have g0 : (0 : Int) ≤ (o : Int) := by omega
                  have g1 : (o : Int) ≤ (o : Int) + (n : Int) := by omega
                  have g2 : (o : Int) + (n : Int) ≤ (N : Int) := by omega
                  have i0 : (0 : Int) ≤ (i : Int) := by omega
                  have i1 : (i : Int) < (ls.length : Int) := by omega
                  have k0 : ∀ p : BelowOf w3, p.world.cell? ⟨g, i * 2, none⟩ = some (.int .u64 (o : Nat)) := fun p => cell_of p hgr3 d0
                  have k1 : ∀ p : BelowOf w3, p.world.cell? ⟨g, i * 2 + 1, none⟩ = some (.int .u32 (n : Nat)) := fun p => cell_of p hgr3 d1
                  refine wp_region_quiet_below (by kernel_rfl) (by kernel_rfl) ?_
                  repeat (go_big_quiet_step (fail))
                  refine wpQuiet_nil ?_
                  intro w4 hw'
                  have hb4 := of_class hw'
                  have c0 := (hb4.cell (p := ⟨b, q + i, none⟩) hbr3).trans c0
                  have d0 := (hb4.cell (p := ⟨g, i * 2, none⟩) hgr3).trans d0
                  have d1 := (hb4.cell (p := ⟨g, i * 2 + 1, none⟩) hgr3).trans d1
                  have hbr4 := Nat.lt_of_lt_of_le hbr3 hb4.size
                  have hgr4 := Nat.lt_of_lt_of_le hgr3 hb4.size
                  have HB4 := Lib.hid (bstep HB3.out hb4)
                  clear hw' hb4 k0 k1
                  go_wp2_with fail
                  have k0 : ∀ p : BelowOf w4, p.world.cell? ⟨g, i * 2, none⟩ = some (.int .u64 (o : Nat)) := fun p => cell_of p hgr4 d0
                  have k1 : ∀ p : BelowOf w4, p.world.cell? ⟨g, i * 2 + 1, none⟩ = some (.int .u32 (n : Nat)) := fun p => cell_of p hgr4 d1
                  have k2 : ∀ p : BelowOf w4, p.world.cell? ⟨b, q + i, none⟩ = some (.string X) := fun p => cell_of p hbr4 c0
                  refine wp_region_quiet_below (by kernel_rfl) (by kernel_rfl) ?_
                  repeat (go_big_quiet_step (fail))
                  refine wpQuiet_nil ?_
                  intro w5 hw'
                  have hb5 := of_class hw'
                  have HB5 := Lib.hid (bstep HB4.out hb5)
                  clear hw' hb5 k0 k1 k2 c0 d0 d1
                  go_wp2_with fail
                  clear t1 t2 t3 g0 g1 g2 f1 f2 f3 f4 hT hms
                  go_loopw [16] (fun jv wx => ∃ j : Nat, j ≤ i ∧ jv = .int .i64 j ∧ Hid (Below w1.heap.size w1 wx)) (fun jv _ => i - (intOf jv).toNat)
                  case atStart => exact ⟨0, by omega, rfl, HB5⟩
                  case round =>
                    obtain ⟨j, hj, rfl, HBx⟩ := hrel
                    obtain ⟨wx, rfl⟩ : ∃ wx : World, wx = wr := ⟨_, rfl⟩
                    by_cases hji : j < i
                    · have hbx := HK1B.out.trans (HBx.out.mono HK1B.out.size)
                      have hgx : g < wx.heap.size := Nat.lt_of_lt_of_le hgl HBx.out.size
                      have hbbx : b < wx.heap.size := Nat.lt_of_lt_of_le hbl hbx.size
                      have hjl : j < ls.length := by omega
                      have q0 := (HBx.out.cell (p := ⟨g, j * 2, none⟩) hgl).trans (HCt.out j hjl).1
                      have q1 := (HBx.out.cell (p := ⟨g, j * 2 + 1, none⟩) hgl).trans (HCt.out j hjl).2
                      have q2 := (HBx.out.cell (p := ⟨g, i * 2, none⟩) hgl).trans (HCt.out i hlt2).1
                      have q3 := (HBx.out.cell (p := ⟨g, i * 2 + 1, none⟩) hgl).trans (HCt.out i hlt2).2
                      have q4 := (hbx.cell (p := ⟨b, q + j, none⟩) hbl).trans (HCl.out j hjl)
                      have q5 := (hbx.cell (p := ⟨b, q + i, none⟩) hbl).trans (HCl.out i hlt2)
                      rw [HM.out, HX2.out] at q5
                      rw [HE2.out] at q2 q3
                      obtain ⟨o2, n2, hc2⟩ : ∃ o2 n2, cont ls j = (o2, n2) := ⟨_, _, rfl⟩
                      rw [hc2] at q0 q1
                      have heq := eq_content o2 n2 o n
                      have hst := bs_beq ls[j] m
                      have hiff : decide (o = o2 ∧ n = n2) = decide (ls[j] = m) := by
                        have h := HEq.out j hjl
                        rw [hc2, HE2.out, HM.out] at h
                        rw [Bool.eq_iff_iff, decide_eq_true_iff, decide_eq_true_iff, ← h, Prod.mk.injEq]
                        omega
                      rw [HX2.out] at hst
                      rw [hiff] at heq
                      generalize decide (ls[j] = m) = B at heq hst
                      generalize bs ls[j] = Y at q4 hst
                      have k0 : ∀ p : BelowOf wx, p.world.cell? ⟨g, j * 2, none⟩ = some (.int .u64 (o2 : Nat)) := fun p => cell_of p hgx q0
                      have k1 : ∀ p : BelowOf wx, p.world.cell? ⟨g, j * 2 + 1, none⟩ = some (.int .u32 (n2 : Nat)) := fun p => cell_of p hgx q1
                      have k2 : ∀ p : BelowOf wx, p.world.cell? ⟨g, i * 2, none⟩ = some (.int .u64 (o : Nat)) := fun p => cell_of p hgx q2
                      have k3 : ∀ p : BelowOf wx, p.world.cell? ⟨g, i * 2 + 1, none⟩ = some (.int .u32 (n : Nat)) := fun p => cell_of p hgx q3
                      have k4 : ∀ p : BelowOf wx, p.world.cell? ⟨b, q + j, none⟩ = some (.string Y) := fun p => cell_of p hbbx q4
                      have k5 : ∀ p : BelowOf wx, p.world.cell? ⟨b, q + i, none⟩ = some (.string X) := fun p => cell_of p hbbx q5
                      have j0 : (0 : Int) ≤ (j : Int) := by omega
                      have j1 : (j : Int) < (ls.length : Int) := by omega
                      clear hiff hc2 q0 q1 q2 q3 q4 q5 hbx
                      go_wp2_with fail
                      refine wp_region_quiet_below (by kernel_rfl) (by kernel_rfl) ?_
                      repeat (go_big_quiet_step (fail))
                      refine wpQuiet_nil ?_
                      intro wy hw'
                      have hby := of_class hw'
                      have HBy := Lib.hid (bstep HBx.out hby)
                      clear hw' hby k0 k1 k2 k3 k4 k5
                      cases B with
                      | true =>
                        go_wp2_with fail
                        go_roundw
                        case rel => exact ⟨j + 1, by omega, by go_num, HBy⟩
                        case measure => simp [intOf]; omega
                      | false =>
                        go_wp2_with fail
                        go_roundw
                        case rel => exact ⟨j + 1, by omega, by go_num, HBy⟩
                        case measure => simp [intOf]; omega
                    · go_wp2_with fail
                      go_roundw
                      case rel => exact ⟨i + 1, by omega, by go_num, HBx⟩
                      case measure => simp [intOf]; omega
              · obtain rfl : i = ls.length := by omega
                have HKe := Lib.hid (HK1.out.below HB.out)
                go_wp2_with (first
                  | (go_at_call 26; refine (HLn.out _ HKe.out.1).mono ?_; rintro e w' ⟨rfl, rfl⟩)
                  | (go_at_call 21; refine (awake11 _).mono ?_; rintro e w12 ⟨rfl, hb⟩; have HB12 := Lib.hid (HKe.out.2.2.2.2.1.trans (hb.mono HKe.out.2.2.2.2.1.size)); clear hb))
                go_ret
                exact ⟨rfl, HB12.out⟩
end Go.Proofs.Ytjeeedbbdgjgeaa
