/- The law PoolForks returns true. -/
import Derived.Test.YtjeeedbbdgjgeaaPoolForksPl
namespace Go.Proofs.Ytjeeedbbdgjgeaa
open Go.RowKit Go.Maps PoolPlain
theorem neq_pcontent (a b : Nat) (w : World) : (binOp .neq 39 (.agg #[.int .u64 (a : Int), .int .u32 (b : Int)]) (.agg #[.int .u64 (a : Int), .int .u32 (b : Int)])).run Try.prog w = .ok (.bool false) w := by
  have u1 := Try.underlying22
  have u2 := Try.underlying33
  have hS : Try.prog.underlying 39 = some (.struct (Try.prog.fieldsOf 39)) := by kernel_rfl
  have hp : Try.prog.stoodInHeld 39 = false := by kernel_rfl
  rw [run_neq_struct, show (10000 : Nat) = 9998 + 2 from rfl, run_equalIn_agg w (9998 + 1) 39 _ _ hS hp]
  simp only [Program.fieldsOf, Try.underlying39]
  go_simp
set_option maxRecDepth 100000 in
set_option maxHeartbeats 2000000 in
theorem poolForks_walk (v v2 : Value) (ls ms : List (List UInt8)) (w : World) (hv : StrArg w v ls) (hv2 : StrArg w v2 ms) :
    Calls Try.prog 9 #[v, v2] w fun e w' => e = .returned (.bool true) ∧ Below w.heap.size w w' := by
  obtain ⟨⟨va, vc, rfl, hvc, hx⟩, hsz, hll⟩ := id hv
  obtain ⟨⟨va2, vc2, rfl, hvc2, hx2⟩, hsz2, hll2⟩ := id hv2
  unfold maxLen at hll hll2
  have HX := Lib.hid hx
  have HX2 := Lib.hid hx2
  have HV := Lib.hid hv
  have HV2 := Lib.hid hv2
  clear hx hx2 hsz hsz2 hv hv2
  by_cases h40 : 40 < ls.length
  · have t0 : decide ((40 : Int) < (ls.length : Int)) = true := decide_eq_true (by omega)
    go_enter Try.func9, Try.ntmps9
    go_wp2_with fail
    refine (awake11 _).mono ?_
    rintro e W2 ⟨rfl, hb2⟩
    go_wp2_with fail
    go_ret
    exact ⟨rfl, hb2⟩
  have t0 : decide ((40 : Int) < (ls.length : Int)) = false := decide_eq_false (by omega)
  by_cases h41 : 40 < ms.length
  · have t1 : decide ((40 : Int) < (ms.length : Int)) = true := decide_eq_true (by omega)
    go_enter Try.func9, Try.ntmps9
    go_wp2_with fail
    refine (awake11 _).mono ?_
    rintro e W2 ⟨rfl, hb2⟩
    go_wp2_with fail
    go_ret
    exact ⟨rfl, hb2⟩
  have t1 : decide ((40 : Int) < (ms.length : Int)) = false := decide_eq_false (by omega)
  have HLg := Lib.hid (long11 _ ls 2000 w (by omega) HV.out)
  have HLg2 := Lib.hid (long11 _ ms 2000 w (by omega) HV2.out)
  cases hlg : longB ls 2000 with
  | true =>
    rw [hlg] at HLg
    clear hlg
    go_enter Try.func9, Try.ntmps9
    go_wp2_with fail
    refine HLg.out.mono ?_
    rintro e W2 ⟨rfl, rfl⟩
    go_wp2_with fail
    refine (awake11 _).mono ?_
    rintro e W2 ⟨rfl, hb2⟩
    go_wp2_with fail
    go_ret
    exact ⟨rfl, hb2⟩
  | false =>
    rw [hlg] at HLg
    cases hlg2 : longB ms 2000 with
    | true =>
      rw [hlg2] at HLg2
      clear hlg hlg2
      go_enter Try.func9, Try.ntmps9
      go_wp2_with fail
      refine HLg.out.mono ?_
      rintro e W2 ⟨rfl, rfl⟩
      go_wp2_with fail
      refine HLg2.out.mono ?_
      rintro e W2 ⟨rfl, rfl⟩
      go_wp2_with fail
      refine (awake11 _).mono ?_
      rintro e W2 ⟨rfl, hb2⟩
      go_wp2_with fail
      go_ret
      exact ⟨rfl, hb2⟩
    | false =>
      rw [hlg2] at HLg2
      have HFl : Hid (ls.flatten.length ≤ 2000 ∧ ms.flatten.length ≤ 2000) := Lib.hid (by unfold longB at hlg hlg2; have := of_decide_eq_false hlg; have := of_decide_eq_false hlg2; omega)
      clear hlg hlg2
      have HLs : Hid (∀ k (hk : k < ls.length), ls[k].length ≤ 65536) := Lib.hid (fun k hk => by have := off_end ls k hk; have := HFl.out.1; omega)
      have HMs : Hid (∀ k (hk : k < ms.length), ms[k].length ≤ 65536) := Lib.hid (fun k hk => by have := off_end ms k hk; have := HFl.out.2; omega)
      obtain ⟨K0, N0⟩ := two_new w
      have HK0 := Lib.hid (And.intro K0 (fun (_ : (addAll ls 0) = []) => N0))
      have hz1 := World.size_alloc w (.cells #[.slice none 0 0, .slice none 0 0, .map none] 61)
      clear K0 N0
      go_enter Try.func9, Try.ntmps9
      go_wp2_with fail
      refine HLg.out.mono ?_
      rintro e W2 ⟨rfl, rfl⟩
      go_wp2_with fail
      refine HLg2.out.mono ?_
      rintro e W2 ⟨rfl, rfl⟩
      clear HLg HLg2 HV HV2
      go_wp2_with fail
      refine (pool_new _).mono ?_
      rintro e W1 ⟨rfl, hw1⟩
      go_wp2_with fail
      refine (pool_new _).mono ?_
      rintro e W3 ⟨rfl, hw3⟩
      (try rw [hw1] at hw3)
      rw [← hw3] at HK0
      clear hz1
      generalize hq : (W2.alloc (.cells #[.slice none 0 0, .slice none 0 0, .map none] 61)).heap.size = q at HK0 ⊢
      generalize hp : W2.heap.size = p at HK0 ⊢
      clear hw1 hw3 hp hq
      have h40 : ls.length ≤ 40 := by omega
      have h41 : ms.length ≤ 40 := by omega
      go_wp2_with fail
      go_loopw [7] (fun i wr => ∃ (k : Nat) (S T : Nat → Prop), k ≤ ls.length ∧ i = .int .i64 k ∧ Hid (TwoSt W2 p q (addAll ls k) (addAll ls k) S T wr ∧ (addAll ls k = [] → NilAt wr p))) (fun i _ => ls.length - (intOf i).toNat)
      case atStart => exact ⟨0, _, _, by omega, rfl, HK0⟩
      case round =>
        obtain ⟨k, S, T, hk, rfl, HK⟩ := hrel
        clear HK0
        by_cases hlt : k < ls.length
        · obtain ⟨b, o, rfl, hbl, hcell⟩ := HX.out (fun e => by rw [e] at hlt; exact absurd hlt (Nat.not_lt_zero _))
          have HC : Hid (∀ W', Below W2.heap.size W2 W' → W'.cell? ⟨b, o + k, none⟩ = some (.string (bs ls[k])) ∧ b < W'.heap.size) := Lib.hid (fun W' hb => ⟨(hb.cell (p := ⟨b, o + k, none⟩) hbl).trans (hcell k hlt), Nat.lt_of_lt_of_le hbl hb.size⟩)
          have Hsc := Lib.hid (addAll_succ ls k hlt)
          have hsl := HLs.out k hlt
          have HA1 := Lib.hid (HK.out.1.adds HK.out.2 ls[k] hsl)
          have HA2 := Lib.hid (fun W S' m' (h : TwoSt W2 p q m' (addAll ls k) S' T W) (hN : m' = [] → NilAt W p) => h.addq hN ls[k] hsl)
          rw [← Hsc.out] at HA1 HA2
          have hbz := bs_size ls[k]
          generalize bs ls[k] = X at HC HA1 HA2 hbz
          clear hcell hsl
          obtain ⟨c0, hb0⟩ := HC.out _ HK.out.1.2.2.2.2.2.1
          go_wp2_with fail
          refine HA1.out.mono ?_
          rintro e w1 ⟨⟨e1, e2, e3, e4, rfl⟩, S1, k1, k2, -⟩
          have HK1 := Lib.hid (And.intro k1 k2)
          clear k1 k2 c0 hb0
          obtain ⟨c0, hb0⟩ := HC.out _ HK1.out.1.2.2.2.2.2.1
          go_wp2_with fail
          refine (HA2.out _ _ _ HK1.out.1 HK1.out.2).mono ?_
          rintro e w3 ⟨⟨d1, d2, d3, d4, rfl⟩, T1, k1, k2⟩
          have HK3 := Lib.hid (And.intro k1 k2)
          clear k1 k2 c0 hb0
          go_wp2_with fail
          go_roundw
          case rel => exact ⟨k + 1, S1, T1, by omega, by go_num, HK3⟩
          case measure => simp [intOf]; omega
        · obtain rfl : k = ls.length := by omega
          have HF := Lib.hid (pool_fork p _ S wr HK.out.1.1 HK.out.2)
          have HOk := Lib.hid (addAll_ok ls ls.length)
          have hL4 : (addAll ls ls.length).length ≤ 40 := Nat.le_trans (addAll_len ls ls.length (Nat.le_refl _)) h40
          generalize addAll ls ls.length = L at HF HOk hL4 HK
          clear hlt
          go_wp2_with fail
          refine HF.out.mono ?_
          rintro e w1 ⟨f, U, rfl, k1, k2, k3⟩
          have HK1 := Lib.hid (ThreeSt.of_fork HK.out.1 k1 k2 k3).rot.rot
          clear HF HK k1 k2 k3
          go_wp2_with fail
          go_loopw [9] (fun i wr => ∃ (k : Nat), k ≤ ms.length ∧ i = .int .i64 k ∧ Hid (ThreeSt W2 f p q (addOn L ms k) L L wr)) (fun i _ => ms.length - (intOf i).toNat)
          case atStart => exact ⟨0, by omega, rfl, HK1⟩
          case round =>
            obtain ⟨k, hk, rfl, HK⟩ := hrel
            clear HK1
            by_cases hlt : k < ms.length
            · obtain ⟨b, o, rfl, hbl, hcell⟩ := HX2.out (fun e => by rw [e] at hlt; exact absurd hlt (Nat.not_lt_zero _))
              have Hsc := Lib.hid (addOn_succ L ms k hlt)
              have hsl := HMs.out k hlt
              have hbz := bs_size ms[k]
              have HA1 := Lib.hid (HK.out.adds (bs ms[k]) (by omega))
              rw [bs_data, ← Hsc.out] at HA1
              obtain ⟨S, T, U', -, -, -, -, -, -, -, -, -, hB, hBz⟩ := HK.out
              have c0 := (hB.cell (p := ⟨b, o + k, none⟩) hbl).trans (hcell k hlt)
              have hb0 : b < wr.heap.size := Nat.lt_of_lt_of_le hbl hBz
              generalize bs ms[k] = X at c0 HA1 hbz
              clear hcell hsl hB
              go_wp2_with fail
              refine HA1.out.mono ?_
              rintro e w2 ⟨⟨e1, e2, e3, e4, rfl⟩, k1⟩
              have HK2 := Lib.hid k1
              clear k1 c0 hb0
              go_wp2_with fail
              go_roundw
              case rel => exact ⟨k + 1, by omega, by go_num, HK2⟩
              case measure => simp [intOf]; omega
            · obtain rfl : k = ms.length := by omega
              clear hlt
              go_wp2_with fail
              have HTf := Lib.hid HK.out.text
              have HTp := Lib.hid HK.out.rot.text
              have HTq := Lib.hid HK.out.rot.rot.text
              have HLp := Lib.hid HK.out.rot.len
              have HLq := Lib.hid HK.out.rot.rot.len
              obtain ⟨t, ht⟩ := forks_text L ms
              rw [ht] at HTf
              have hTz : (bs L.flatten).size = L.flatten.length := bs_size _
              have hFz : (bs (L.flatten ++ t)).size = L.flatten.length + t.length := by rw [bs_size, List.length_append]
              have hfl := okL_flat L HOk.out
              obtain ⟨N, hN⟩ : ∃ N, L.flatten.length = N := ⟨_, rfl⟩
              obtain ⟨M, hM⟩ : ∃ M, t.length = M := ⟨_, rfl⟩
              rw [hN] at hTz hFz hfl
              rw [hM] at hFz
              have hex : (bs (L.flatten ++ t)).extract 0 N = bs L.flatten := by rw [extract_bs, bs_data, List.drop_zero, ← hN, List.take_left']; rfl
              have hM4 : M ≤ 134217728 := by
                have := okL_flat _ (addOn_ok L ms ms.length HOk.out)
                rw [ht, List.length_append] at this
                omega
              clear hM hN ht
              generalize bs L.flatten = TP at *
              generalize bs (L.flatten ++ t) = TF at *
              have g1 : decide ((TF.size : Int) < (TP.size : Int)) = false := decide_eq_false (by omega)
              have g2 : decide (((N : Int) + (M : Int)) < (N : Int)) = false := decide_eq_false (by omega)
              have g3 : decide (((N + M : Nat) : Int) < (N : Int)) = false := decide_eq_false (by omega)
              refine wp_region_quiet_below (by kernel_rfl) (by kernel_rfl) ?_
              repeat (go_big_quiet_step (first
                | (go_at_call 29; with_reducible exact below_of (HTp.out _ (by rename_i q; exact q.below)))
                | (go_at_call 29; with_reducible exact below_of (HTq.out _ (by rename_i q; exact q.below)))
                | (go_at_call 29; with_reducible exact below_of (HTf.out _ (by rename_i q; exact q.below)))
                | (go_at_call 26; with_reducible exact below_of (HLp.out _ (by rename_i q; exact q.below)))
                | (go_at_call 26; with_reducible exact below_of (HLq.out _ (by rename_i q; exact q.below)))))
              refine wpQuiet_nil ?_
              intro w4 hw'
              have HK4 := Lib.hid (HK.out.rot.below (of_class hw'))
              clear HTp HTq HTf HLp HLq HK hex hTz hFz g1 g2 g3 hw' hM4
              have HAo := Lib.hid (HK4.out.adds ⟨#[111, 119, 110]⟩ (by decide))
              generalize addL L (⟨#[111, 119, 110]⟩ : ByteArray).data.toList = L2 at HAo
              go_wp2_with fail
              refine HAo.out.mono ?_
              rintro e w5 ⟨⟨e1, e2, e3, e4, rfl⟩, k5⟩
              have HK5 := Lib.hid k5.rot
              clear HAo HK4 k5
              go_wp2_with fail
              go_loopw [10] (fun i wr => ∃ (k : Nat), k ≤ ms.length ∧ i = .int .i64 k ∧ Hid (ThreeSt W2 q f p L (addOn L ms ms.length) L2 wr)) (fun i _ => ms.length - (intOf i).toNat)
              case atStart => exact ⟨0, by omega, rfl, HK5⟩
              case round =>
                obtain ⟨k, hk, rfl, HK⟩ := hrel
                clear HK5
                by_cases hlt : k < ms.length
                · obtain ⟨b, o, rfl, hbl, hcell⟩ := HX2.out (fun e => by rw [e] at hlt; exact absurd hlt (Nat.not_lt_zero _))
                  have hsl := HMs.out k hlt
                  obtain ⟨o1, n1, B, o2, n2, B2, f1, f2, f3⟩ := forks_three L ms HOk.out hL4 h41 k hlt hsl
                  have HF1 := Lib.hid (HK.out.rot.find ms[k] hsl f1)
                  have HF2 := Lib.hid (HK.out.find ms[k] hsl f2)
                  obtain ⟨S, T, U', -, -, -, -, -, -, -, -, -, hB, hBz⟩ := HK.out
                  have c0 := (hB.cell (p := ⟨b, o + k, none⟩) hbl).trans (hcell k hlt)
                  have hb0 : b < wr.heap.size := Nat.lt_of_lt_of_le hbl hBz
                  generalize bs ms[k] = X at c0 HF1 HF2 f3
                  clear hcell hsl hB f1 f2
                  rcases f3 with ⟨hXe, rfl, rfl⟩ | ⟨hXe, rfl, rfl⟩ | ⟨hXe, rfl, rfl, rfl, rfl⟩
                  all_goals
                    go_wp2_with fail
                    refine (HF1.out _ (Below.refl _ _)).mono ?_
                    rintro e w6 ⟨rfl, hb6⟩
                    have c0 := (hb6.cell (p := ⟨b, o + k, none⟩) hb0).trans c0
                    have hb0 := Nat.lt_of_lt_of_le hb0 hb6.size
                    have HB6 := Lib.hid hb6
                    clear hb6
                    go_wp2_with fail
                    have C7 := Cell2.new (w := w6) (S := fun _ => False) (fun g hg => hg.elim) (.int .u64 (o1 : Nat)) (.int .u32 (n1 : Nat)) 39
                    have B7 := HB6.out.alloc HB6.out.size (.cells #[.int .u64 (o1 : Nat), .int .u32 (n1 : Nat)] 39)
                    have c0 := ((own_new w6 (.cells #[.int .u64 (o1 : Nat), .int .u32 (n1 : Nat)] 39) w6.heap.size (Nat.le_refl _)).cell (p := ⟨b, o + k, none⟩) hb0).trans c0
                    have hb0 := Nat.lt_of_lt_of_le hb0 (show w6.heap.size ≤ (w6.alloc (.cells #[.int .u64 (o1 : Nat), .int .u32 (n1 : Nat)] 39)).heap.size by rw [World.size_alloc]; omega)
                    generalize w6.alloc (.cells #[.int .u64 (o1 : Nat), .int .u32 (n1 : Nat)] 39) = w7 at C7 B7 c0 hb0 ⊢
                    have HB7 := Lib.hid B7
                    clear B7
                    refine (HF2.out _ HB7.out).mono ?_
                    rintro e w8 ⟨rfl, hb8⟩
                    have C8 := C7.below hb8
                    have c0 := (hb8.cell (p := ⟨b, o + k, none⟩) hb0).trans c0
                    have hb0 := Nat.lt_of_lt_of_le hb0 hb8.size
                    have HB8 := Lib.hid (bstep HB7.out hb8)
                    obtain ⟨x0, x1, -, -⟩ := cells2 C8.1
                    have l8 := C8.2.2
                    have nq := fun W => neq_pcontent o1 n1 W
                    clear hb8 C7 C8
                    go_wp2_with fail
                    go_roundw
                    case rel => exact ⟨k + 1, by omega, by go_num, Lib.hid ((HK.out.below HB8.out).below (own_new w8 _ _ (Nat.le_refl _)))⟩
                    case measure => simp [intOf]; omega
                · obtain rfl : k = ms.length := by omega
                  obtain ⟨S, T, U', -, -, -, -, -, -, -, -, -, hB, hBz⟩ := HK.out
                  have HB := Lib.hid hB
                  clear hB hlt
                  go_wp2_with fail
                  refine (awake11 _).mono ?_
                  rintro e w9 ⟨rfl, hb9⟩
                  have HB9 := Lib.hid (HB.out.trans (hb9.mono HB.out.size))
                  clear hb9
                  go_wp2_with fail
                  go_ret
                  exact ⟨rfl, HB9.out⟩
end Go.Proofs.Ytjeeedbbdgjgeaa
