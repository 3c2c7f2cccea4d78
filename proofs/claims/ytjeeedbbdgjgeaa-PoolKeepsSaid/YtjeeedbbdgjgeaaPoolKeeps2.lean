/- The law PoolKeeps returns true. -/
import Derived.Test.YtjeeedbbdgjgeaaPoolKeeps
namespace Go.Proofs.Ytjeeedbbdgjgeaa
open Go.RowKit Go.Maps PoolPlain
set_option maxRecDepth 100000 in
set_option maxHeartbeats 4000000 in
theorem poolKeeps_walk (v : Value) (ls : List (List UInt8)) (o n : Nat) (w : World) (hv : StrArg w v ls) :
    Calls Try.prog 7 #[v, .agg #[.int .u64 (o : Nat), .int .u32 (n : Nat)]] w fun e w' => e = .returned (.bool true) ∧ Below w.heap.size w w' := by
  have B0 : Below w.heap.size w (w.alloc (.cells #[.int .u64 (o : Nat), .int .u32 (n : Nat)] 35)) := own_new w _ _ (Nat.le_refl _)
  have HX0 := Lib.hid (block_alloc w (.cells #[.int .u64 (o : Nat), .int .u32 (n : Nat)] 35))
  have HNew := Lib.hid (fun W => PoolAt.new W)
  obtain ⟨⟨va, vc, rfl, hvc, hx⟩, hsz, hll⟩ := id hv
  unfold maxLen at hll
  have HX := Lib.hid hx
  have HZ := Lib.hid hsz
  have HV := Lib.hid hv
  have HS : Hid (ls.length ≤ 60 → longB ls 3000 = false → ∀ k, k ≤ ls.length → OkL (addAll ls k)) := Lib.hid (fun _ _ k _ => by
    unfold addAll
    generalize ls.take k = xs
    have gen : ∀ (xs l : List (List UInt8)), OkL l → OkL (xs.foldl addL l) := by
      intro xs
      induction xs with
      | nil => intro l h; exact h
      | cons x t ih => intro l h; exact ih _ (okL_add l x h)
    exact gen xs [] okL_nil)
  clear hx hsz hv
  have hz0 : (w.alloc (.cells #[.int .u64 (o : Nat), .int .u32 (n : Nat)] 35)).heap.size = w.heap.size + 1 := World.size_alloc _ _
  have HVB : Hid (∀ W', Below w.heap.size w W' → StrArg W' (.slice va ls.length vc) ls) := Lib.hid (fun W' hb => ⟨HV.out.1.below hb, HV.out.2.1, HV.out.2.2⟩)
  go_enter Try.func7, Try.ntmps7
  go_wp2_with fail
  generalize w.alloc (.cells #[.int .u64 (o : Nat), .int .u32 (n : Nat)] 35) = W0 at B0 HX0 hz0 ⊢
  refine (pool_new W0).mono ?_
  rintro e W1 ⟨rfl, hw1⟩
  have P1 := HNew.out W0
  have B1 : Below w.heap.size w W1 := by rw [hw1]; exact B0.trans (own_new W0 _ _ B0.size)
  have X1 : W1.heap[w.heap.size]? = some (.cells #[.int .u64 (o : Nat), .int .u32 (n : Nat)] 35 (0, 0)) := by rw [hw1]; exact (heap_alloc_old W0 _ (by omega)).trans HX0.out
  have z1 : W1.heap.size = w.heap.size + 2 := by rw [hw1, World.size_alloc, hz0]
  rw [← hw1] at P1
  clear hw1
  rw [hz0] at P1 ⊢
  have hS1 : ∀ g, (fun g => g = w.heap.size + 1) g → w.heap.size < g := fun g hg => by have : g = w.heap.size + 1 := hg; omega
  generalize (fun g => g = w.heap.size + 1) = S1 at P1 hS1
  have HK1 : Hid (KeepSt w (w.heap.size + 1) [] [] (.slice none 0 0) (.int .u64 (o : Nat)) (.int .u32 (n : Nat)) S1 W1) := Lib.hid ⟨P1, fun g hg => Nat.le_of_lt (hS1 g hg), HoldsA.nil _ _, B1, by omega, X1, fun h => by have := hS1 _ h; omega, by omega⟩
  have HB1 := Lib.hid B1
  clear P1 B1 X1 hS1 HX0 HNew B0 hz0 z1
  by_cases h60 : 60 < ls.length
  · have t0 : decide ((60 : Int) < (ls.length : Int)) = true := decide_eq_true (by omega)
    go_wp2_with fail
    refine (awake11 _).mono ?_
    rintro e W2 ⟨rfl, hb2⟩
    go_wp2_with fail
    go_ret
    exact ⟨rfl, HB1.out.trans (hb2.mono HB1.out.size)⟩
  · have t0 : decide ((60 : Int) < (ls.length : Int)) = false := decide_eq_false (by omega)
    cases hlg : longB ls 3000 with
    | true =>
      have HLg := Lib.hid (long11 _ ls 3000 W1 (by omega) (HVB.out _ HB1.out))
      rw [hlg] at HLg
      clear hlg
      go_wp2_with fail
      refine HLg.out.mono ?_
      rintro e W2 ⟨rfl, rfl⟩
      go_wp2_with fail
      refine (awake11 _).mono ?_
      rintro e W2 ⟨rfl, hb2⟩
      go_wp2_with fail
      go_ret
      exact ⟨rfl, HB1.out.trans (hb2.mono HB1.out.size)⟩
    | false =>
      have HLg := Lib.hid (long11 _ ls 3000 W1 (by omega) (HVB.out _ HB1.out))
      rw [hlg] at HLg
      have HOk := Lib.hid (HS.out (by omega) hlg)
      clear hlg HS
      go_wp2_with fail
      refine HLg.out.mono ?_
      rintro e W2 ⟨rfl, rfl⟩
      go_wp2_with fail
      go_loopw [6, 7] (fun t i wr => ∃ (k : Nat) (S : Nat → Prop), k ≤ ls.length ∧ i = .int .i64 k ∧ Hid (KeepSt w (w.heap.size + 1) (addAll ls k) (addAll ls k) t (.int .u64 (o : Nat)) (.int .u32 (n : Nat)) S wr)) (fun _ i _ => ls.length - (intOf i).toNat)
      case atStart => exact ⟨0, S1, by omega, rfl, HK1⟩
      case round =>
        obtain ⟨k, S, hk, rfl, HK⟩ := hrel
        clear HK1 HLg HB1
        by_cases hlt : k < ls.length
        · obtain ⟨b, q, rfl, hbl, hcell⟩ := HX.out (fun e => by rw [e] at hlt; exact absurd hlt (Nat.not_lt_zero _))
          have HC : Hid (∀ W', Below w.heap.size w W' → W'.cell? ⟨b, q + k, none⟩ = some (.string (bs ls[k]))) := Lib.hid (fun W' hb => (hb.cell (p := ⟨b, q + k, none⟩) hbl).trans (hcell k hlt))
          have hok := HOk.out k (by omega)
          have hok2 := HOk.out (k + 1) (by omega)
          have hsc := addAll_succ ls k hlt
          have hzz := HZ.out ls[k] (List.getElem_mem hlt)
          unfold maxLen at hzz
          rw [hsc] at hok2
          have Hsc := Lib.hid hsc
          obtain ⟨m, hm⟩ : ∃ m, m = ls[k] := ⟨_, rfl⟩
          rw [← hm] at HC hzz Hsc hok2
          have hms : (bs m).size ≤ 9223372036854775807 := by rw [bs_size]; omega
          have hmd := bs_data m
          generalize addAll ls k = cur at HK hok hok2 Hsc
          obtain ⟨sB, hsB⟩ : ∃ sB, bs m = sB := ⟨_, rfl⟩
          rw [hsB] at HC hms hmd
          have HM := Lib.hid hmd
          have HO1 := Lib.hid hok
          have HO2 := Lib.hid hok2
          clear hm hsB hcell HX hsc hmd hok hok2
          have c0 := HC.out _ HK.out.2.2.2.1
          go_wp2_with fail
          refine (pool_add _ _ _ sB wr hms HK.out.1).mono ?_
          rintro e w1 ⟨he, hA⟩
          rw [HM.out] at he hA
          obtain ⟨S1, K1, -⟩ := HK.out.add hA
          have HK1 := Lib.hid K1
          have c0 := HC.out _ HK1.out.2.2.2.1
          have hbl1 := Nat.lt_of_lt_of_le hbl HK1.out.2.2.2.2.1
          subst he
          obtain ⟨X1, hX1⟩ : ∃ X1, (addC cur m).1 = X1 := ⟨_, rfl⟩
          obtain ⟨X2, hX2⟩ : ∃ X2, (addC cur m).2 = X2 := ⟨_, rfl⟩
          obtain ⟨X3, hX3⟩ : ∃ X3, addIs cur m = X3 := ⟨_, rfl⟩
          obtain ⟨X4, hX4⟩ : ∃ X4, addE cur m = X4 := ⟨_, rfl⟩
          rw [hX1, hX2, hX3, hX4]
          have HXX := Lib.hid (And.intro hX1 (And.intro hX2 (And.intro hX3 hX4)))
          clear hA K1 hX1 hX2 hX3 hX4
          go_wp2_with fail
          have C8 := Cell2.new (S := S1) HK1.out.1.2.1 (.int .u64 (X1 : Nat)) (.int .u32 (X2 : Nat)) 39
          have K2 := HK1.out.alloc (.cells #[.int .u64 (X1 : Nat), .int .u32 (X2 : Nat)] 39)
          generalize w1.alloc (.cells #[.int .u64 (X1 : Nat), .int .u32 (X2 : Nat)] 39) = w2 at C8 K2 ⊢
          refine (ref_add _ cur sB _ w2 hms K2.2.2.1 HO1.out).mono ?_
          rintro e w3 ⟨v3, he, hv3, hb3⟩
          rw [HM.out, HXX.out.1, HXX.out.2.1, HXX.out.2.2.1, HXX.out.2.2.2] at he
          rw [HM.out] at hv3
          subst he
          have HK3 := Lib.hid (K2.ref hv3 hb3)
          have HC8 := Lib.hid (C8.below hb3)
          have c0 := HC.out _ HK3.out.2.2.2.1
          have hbl3 := Nat.lt_of_lt_of_le hbl HK3.out.2.2.2.2.1
          clear C8 K2 hv3 hb3
          go_wp2_with fail
          have C8 := HC8.out.alloc (.cells #[.int .u64 (X1 : Nat), .int .u32 (X2 : Nat)] 35)
          have C12 := Cell2.new (S := S1) HK3.out.1.2.1 (.int .u64 (X1 : Nat)) (.int .u32 (X2 : Nat)) 35
          have K4 := HK3.out.alloc (.cells #[.int .u64 (X1 : Nat), .int .u32 (X2 : Nat)] 35)
          generalize w3.alloc (.cells #[.int .u64 (X1 : Nat), .int .u32 (X2 : Nat)] 35) = w4 at C8 C12 K4 ⊢
          refine (pool_find _ _ _ sB w4 hms K4.1).mono ?_
          rintro e w5 ⟨he, hb5⟩
          rw [HM.out] at he
          subst he
          have HK5 := Lib.hid (K4.below hb5)
          have HC8 := Lib.hid (C8.below hb5)
          have HC12 := Lib.hid (C12.below hb5)
          have c0 := HC.out _ HK5.out.2.2.2.1
          have hbl5 := Nat.lt_of_lt_of_le hbl HK5.out.2.2.2.2.1
          obtain ⟨Y1, hY1⟩ : ∃ Y1, (fnd (addL cur m) m).1 = Y1 := ⟨_, rfl⟩
          obtain ⟨Y2, hY2⟩ : ∃ Y2, (fnd (addL cur m) m).2.1 = Y2 := ⟨_, rfl⟩
          obtain ⟨Y3, hY3⟩ : ∃ Y3, (fnd (addL cur m) m).2.2 = Y3 := ⟨_, rfl⟩
          rw [hY1, hY2, hY3]
          have HYY := Lib.hid (And.intro hY1 (And.intro hY2 hY3))
          clear C8 C12 K4 hb5 hY1 hY2 hY3
          go_wp2_with fail
          have C8 := HC8.out.alloc (.cells #[.int .u64 (Y1 : Nat), .int .u32 (Y2 : Nat)] 39)
          have C12 := HC12.out.alloc (.cells #[.int .u64 (Y1 : Nat), .int .u32 (Y2 : Nat)] 39)
          have C15 := Cell2.new (S := S1) HK5.out.1.2.1 (.int .u64 (Y1 : Nat)) (.int .u32 (Y2 : Nat)) 39
          have K6 := HK5.out.alloc (.cells #[.int .u64 (Y1 : Nat), .int .u32 (Y2 : Nat)] 39)
          generalize w5.alloc (.cells #[.int .u64 (Y1 : Nat), .int .u32 (Y2 : Nat)] 39) = w6 at C8 C12 C15 K6 ⊢
          have hl2 : (addL cur m).length ≤ 2048 := HO2.out.1
          have hfl2 := okL_flat _ HO2.out
          refine (ref_find _ _ sB w6 K6.2.2.1.holds (by omega) (by omega)).mono ?_
          rintro e w7 ⟨he, hb7⟩
          rw [HM.out, HYY.out.1, HYY.out.2.1, HYY.out.2.2] at he
          subst he
          have HK7 := Lib.hid (K6.below hb7)
          have HC8 := Lib.hid (C8.below hb7)
          have HC12 := Lib.hid (C12.below hb7)
          have HC15 := Lib.hid (C15.below hb7)
          obtain ⟨x0, x1, -, -⟩ := cells2 HC8.out.1
          obtain ⟨x2, x3, -, -⟩ := cells2 HC12.out.1
          obtain ⟨x4, x5, -, -⟩ := cells2 HC15.out.1
          have l8 := HC8.out.2.2
          have l12 := HC12.out.2.2
          have l15 := HC15.out.2.2
          have n1 := fun W => neq_rcontent X1 X2 W
          have n2 := fun W => neq_rcontent Y1 Y2 W
          obtain ⟨a3, c3, hv3, -, -, -⟩ := id HK7.out.2.2.1
          obtain ⟨L, hL⟩ : ∃ L, (addL cur m).length = L := ⟨_, rfl⟩
          have HLen := Lib.hid (fun W (h : PoolAt W (w.heap.size + 1) (addL cur m) S1) => pool_len _ _ _ W h)
          rw [hL] at HLen hv3
          subst hv3
          clear C8 C12 C15 K6 hb7 hl2 hfl2 hL
          go_wp2_with (go_at_call 26; refine (HLen.out _ (HK7.out.1.alloc _)).mono ?_; rintro e w' ⟨rfl, rfl⟩)
          go_roundw
          case rel => exact ⟨k + 1, S1, by omega, by go_num, Lib.hid (by rw [Hsc.out]; exact HK7.out.alloc _)⟩
          case measure => simp [intOf]; omega
        · obtain rfl : k = ls.length := by omega
          have hok := HOk.out ls.length (Nat.le_refl _)
          generalize addAll ls ls.length = cur at HK hok
          have HG1 := Lib.hid (pool_get _ cur S o n wr HK.out.1)
          have HG2 := Lib.hid (fun W (h : HoldsS W u6 cur) => ref_get u6 cur o n W h hok)
          have hfl := okL_flat _ hok
          have hll2 : cur.length ≤ 2048 := hok.1
          have HT1 := Lib.hid (fun W (h : PoolAt W (w.heap.size + 1) cur S) => pool_text _ cur S W h)
          have HT2 := Lib.hid (fun W (h : HoldsS W u6 cur) => ref_text u6 cur W h (by omega) (by omega))
          unfold GetR at HG1 HG2
          obtain ⟨G, hG⟩ : ∃ G, bs (getS cur o n) = G := ⟨_, rfl⟩
          obtain ⟨I, hI⟩ : ∃ I, isIn cur o n = I := ⟨_, rfl⟩
          obtain ⟨T, hT⟩ : ∃ T, bs cur.flatten = T := ⟨_, rfl⟩
          rw [hG, hI] at HG1 HG2
          rw [hT] at HT1 HT2
          obtain ⟨x0, x1, -, -⟩ := cells2 HK.out.2.2.2.2.2.1
          have hlx := HK.out.2.2.2.2.2.2.2
          clear hG hI hT hok hfl HX HZ HOk
          go_wp2_with fail
          refine HG1.out.mono ?_
          rintro e w1 ⟨rfl, hb1⟩
          have HK1 := Lib.hid (HK.out.below hb1)
          obtain ⟨x0, x1, -, -⟩ := cells2 HK1.out.2.2.2.2.2.1
          have hlx := HK1.out.2.2.2.2.2.2.2
          clear hb1
          go_wp2_with fail
          refine (HG2.out _ HK1.out.2.2.1.holds).mono ?_
          rintro e w2 ⟨rfl, hb2⟩
          have HK2 := Lib.hid (HK1.out.below hb2)
          clear hb2
          go_wp2_with (first
            | (go_at_call 29; refine (HT1.out _ HK2.out.1).mono ?_; rintro e w3 ⟨rfl, hb3⟩; have HK3 := Lib.hid (HK2.out.below hb3); clear hb3)
            | (go_at_call 30; refine (HT2.out _ HK3.out.2.2.1.holds).mono ?_; rintro e w4 ⟨rfl, hb4⟩; have HK4 := Lib.hid (HK3.out.below hb4); clear hb4)
            | (go_at_call 21; refine (awake11 _).mono ?_; rintro e w5 ⟨rfl, hb5⟩; have HK5 := Lib.hid (HK4.out.below hb5); clear hb5))
          go_ret
          exact ⟨rfl, HK5.out.2.2.2.1⟩
end Go.Proofs.Ytjeeedbbdgjgeaa
