/- What fnv.Sum, fnv.Bucket and the reference's functions return, and the law functions of layer 10 return true. -/
import Derived.Test.YtjeeedbbdgjgeaaFnvWalk
import Derived.Deep.DeepMust
import Derived.OpenShut
namespace Go.Proofs.Ytjeeedbbdgjgeaa
open Go.RowKit

theorem bstep {w0 w w' : World} (h : Below w0.heap.size w0 w) (k : Below w.heap.size w w') : Below w0.heap.size w0 w' := h.trans (k.mono h.size)

theorem fnv_sum (s : ByteArray) (w : World) (hs : s.size ≤ 9223372036854775807) :
    Calls Try.prog 13 #[.string s] w fun e w' => e = .returned (.int .u64 (FnvPlain.sum s.data.toList : Nat)) ∧ Below w.heap.size w w' := by
  go_enter Try.func13, Try.ntmps13
  go_wp2_with (go_at_call 33; refine (fnv_fold _ _ hs).mono ?_; rintro e w' ⟨rfl, hb⟩)
  go_ret
  exact ⟨rfl, by assumption⟩

theorem sum_a : ((FnvPlain.sum [97] : Nat) : Int) = 12638187200555641996 := by decide +kernel
theorem sum_nil : ((FnvPlain.sum [] : Nat) : Int) = 14695981039346656037 := by decide +kernel
theorem add_a : ((FnvPlain.add 14695981039346656037 97 : Nat) : Int) = 12638187200555641996 := by decide +kernel

def bucketOf (l : List UInt8) (n : Int) : Int := if n < 1 then 0 else (FnvPlain.sum l : Int) % n
theorem bucketOf_lt (l : List UInt8) (n : Int) (h : n < 1) : bucketOf l n = 0 := if_pos h
theorem bucketOf_ge (l : List UInt8) (n : Int) (h : ¬ n < 1) : bucketOf l n = (FnvPlain.sum l : Int) % n := if_neg h
theorem u64_pos (n : Int) (h : 1 ≤ n) (h2 : n ≤ 9223372036854775807) : IntKind.u64.wrap n = n := IntWalk.u64_in n (by omega)

theorem fnv_bucket (s : ByteArray) (n : Int) (w : World) (hs : s.size ≤ 9223372036854775807) (hn : n ≤ 9223372036854775807) :
    Calls Try.prog 17 #[.string s, .int .i64 n] w fun e w' => e = .returned (.int .i64 (bucketOf s.data.toList n)) ∧ Below w.heap.size w w' := by
  by_cases h : n < 1
  · have Hb := Lib.hid (bucketOf_lt s.data.toList n h)
    go_enter Try.func17, Try.ntmps17
    go_wp2_with fail
    go_ret
    exact ⟨ret_int Hb.out.symm, Below.refl _ _⟩
  · have hl := FnvPlain.sum_lt s.data.toList
    have h1 : 1 ≤ n := by omega
    have Hb := Lib.hid (bucketOf_ge s.data.toList n h)
    clear h
    have hm : 0 ≤ (FnvPlain.sum s.data.toList : Int) % n ∧ (FnvPlain.sum s.data.toList : Int) % n < n := ⟨Int.emod_nonneg _ (by omega), Int.emod_lt_of_pos _ (by omega)⟩
    obtain ⟨m1, m2⟩ := hm
    go_enter Try.func17, Try.ntmps17
    go_wp2_with (go_at_call 13; refine (fnv_sum _ _ hs).mono ?_; rintro e w' ⟨rfl, hb⟩)
    go_ret
    refine ⟨ret_int ?_, by assumption⟩
    rw [Hb.out]

/-! The reference's functions. -/
theorem step1 (s b i : Nat) (h : b / 2 ^ i % 2 = 1) (hs : s / 2 ^ i % 2 = 1) : (s ^^^ b % 2 ^ i) - 2 ^ i = s ^^^ b % 2 ^ (i + 1) := by
  rw [FnvPlain.step s b i h, if_pos hs]
theorem step1' (s b i : Nat) (hs : s / 2 ^ i % 2 = 1) : 2 ^ i ≤ s ^^^ b % 2 ^ i := by
  rcases Nat.lt_or_ge (s ^^^ b % 2 ^ i) (2 ^ i) with h | h
  · have h1 := Nat.div_eq_of_lt h
    rw [Nat.xor_div_two_pow, Nat.div_eq_of_lt (Nat.mod_lt b (Nat.two_pow_pos i)), Nat.xor_zero] at h1
    omega
  · exact h
theorem step2 (s b i : Nat) (h : b / 2 ^ i % 2 = 1) (hs : ¬ s / 2 ^ i % 2 = 1) : (s ^^^ b % 2 ^ i) + 2 ^ i = s ^^^ b % 2 ^ (i + 1) := by
  rw [FnvPlain.step s b i h, if_neg hs]
theorem xlt (s b i : Nat) (hs : s < 18446744073709551616) (hb : b < 256) : s ^^^ b % 2 ^ i < 18446744073709551616 :=
  FnvPlain.xor_lt _ _ hs (Nat.lt_of_le_of_lt (Nat.mod_le _ _) (by omega))

theorem div_bd (s O : Nat) (h : s < 18446744073709551616) : 0 ≤ (s : Int) / (O : Int) ∧ (s : Int) / (O : Int) ≤ 18446744073709551615 := by
  have := Nat.div_le_self s O; rw [← Int.natCast_ediv]; generalize s / O = q at *; omega
theorem div_odd (s O : Nat) (h : s / O % 2 = 1) : (s : Int) / (O : Int) % 2 = 1 := by
  rw [← Int.natCast_ediv]; generalize s / O = q at *; omega
theorem div_even (s O : Nat) (h : ¬ s / O % 2 = 1) : ((s : Int) / (O : Int) % 2 == 1) = false := by
  rw [← Int.natCast_ediv, beq_eq_false_iff_ne]; generalize s / O = q at *; omega
theorem nat_even (s : Nat) (h : ¬ s % 2 = 1) : ((s : Int) % 2 == 1) = false := by
  rw [beq_eq_false_iff_ne]; omega

set_option maxHeartbeats 1000000 in
theorem ref_add (s b : Nat) (w : World) (h0 : s < 18446744073709551616) (h1 : b < 256) :
    Calls Try.prog 16 #[.int .u64 s, .int .u8 b] w fun e w' => e = .returned (.int .u64 (FnvPlain.add s b : Nat)) ∧ w' = w := by
  go_enter Try.func16, Try.ntmps16
  go_wp2_with fail
  go_loop [1, 5, 6, 7] (fun bb x one i => ∃ k : Nat, k ≤ 8 ∧ bb = .int .u8 (b / 2 ^ k : Nat) ∧ x = .int .u64 (s ^^^ b % 2 ^ k : Nat) ∧ one = .int .u64 (2 ^ k : Nat) ∧ i = .int .i64 k) (fun _ _ _ i => 8 - (intOf i).toNat)
  case atStart => exact ⟨0, by decide, by simp, by simp [Nat.mod_one], by simp, rfl⟩
  case round =>
    obtain ⟨k, hk, rfl, rfl, rfl, rfl⟩ := hrel
    by_cases hlt : k < 8
    · have hp : 1 ≤ 2 ^ k := Nat.two_pow_pos k
      have hp2 : 2 ^ k ≤ 128 := by
        have := Nat.pow_le_pow_right (n := 2) (by decide) (show k ≤ 7 by omega)
        omega
      have hx := xlt s b k h0 h1
      have hx' := xlt s b (k + 1) h0 h1
      have hb1 : b / 2 ^ k ≤ 255 := Nat.le_trans (Nat.div_le_self _ _) (by omega)
      have hd : b / 2 ^ k / 2 = b / 2 ^ (k + 1) := by rw [Nat.div_div_eq_div_mul, Nat.pow_succ]
      have h2p : 2 * 2 ^ k = 2 ^ (k + 1) := by rw [Nat.pow_succ, Nat.mul_comm]
      have hso : s / 2 ^ k ≤ s := Nat.div_le_self _ _
      obtain ⟨hs1, hs2⟩ := div_bd s (2 ^ k) h0
      have fin : ∀ X2 B2 O2 : Nat, X2 = s ^^^ b % 2 ^ (k + 1) → B2 = b / 2 ^ (k + 1) → O2 = 2 ^ (k + 1) → ∃ k_1 : Nat, k_1 ≤ 8 ∧ Value.int IntKind.u8 (B2 : Int) = Value.int IntKind.u8 (b / 2 ^ k_1 : Nat) ∧ Value.int IntKind.u64 (X2 : Int) = Value.int IntKind.u64 (s ^^^ b % 2 ^ k_1 : Nat) ∧
          Value.int IntKind.u64 (O2 : Int) = Value.int IntKind.u64 (2 ^ k_1 : Nat) ∧ Value.int IntKind.i64 ((k : Int) + 1) = Value.int IntKind.i64 k_1 := fun X2 B2 O2 e1 e2 e3 => ⟨k + 1, by omega, by rw [e2], by rw [e1], by rw [e3], by go_num⟩
      by_cases hb : b / 2 ^ k % 2 = 1
      · have hbI : ((b / 2 ^ k : Nat) : Int) % 2 = 1 := by omega
        by_cases hc : s / 2 ^ k % 2 = 1
        · have e1 := step1 s b k hb hc
          have e2 := step1' s b k hc
          have hcI := div_odd s (2 ^ k) hc
          have E := Lib.hid (fin _ _ _ e1 hd h2p)
          clear hd h2p hb hc fin e1 hso hx'
          generalize 2 ^ k = O at *
          generalize b / O = B at *
          generalize (s ^^^ b % O) = X at *
          go_wp2
          go_round
          case rel => rw [show (X : Int) - O = ((X - O : Nat) : Int) by omega]; exact E.out
          case measure => simp [intOf]; omega
        · have e1 := step2 s b k hb hc
          have hcI := div_even s (2 ^ k) hc
          have hov : (s ^^^ b % 2 ^ k) + 2 ^ k < 18446744073709551616 := by rw [e1]; exact hx'
          have E := Lib.hid (fin _ _ _ e1 hd h2p)
          clear hd h2p hb hc fin e1 hso hx'
          generalize 2 ^ k = O at *
          generalize b / O = B at *
          generalize (s ^^^ b % O) = X at *
          go_wp2
          go_round
          case rel => exact E.out
          case measure => simp [intOf]; omega
      · have e1 := FnvPlain.step0 s b k hb
        have hbI := nat_even (b / 2 ^ k) hb
        have E := Lib.hid (fin _ _ _ e1.symm hd h2p)
        clear hd h2p hb fin e1 hso hx' hs1 hs2
        generalize 2 ^ k = O at *
        generalize b / O = B at *
        generalize (s ^^^ b % O) = X at *
        go_wp2
        go_round
        case rel => exact E.out
        case measure => simp [intOf]; omega
    · obtain rfl : k = 8 := by omega
      go_wp2
      go_ret
      refine ⟨ret_int ?_, rfl⟩
      rw [Nat.mod_eq_of_lt (show b < 2 ^ 8 from h1)]
      exact mul64 _

set_option maxHeartbeats 1000000 in
theorem ref_sum (s : ByteArray) (w : World) (hs : s.size ≤ 9223372036854775807) :
    Calls Try.prog 14 #[.string s] w fun e w' => e = .returned (.int .u64 (FnvPlain.sum s.data.toList : Nat)) ∧ w' = w := by
  go_enter Try.func14, Try.ntmps14
  go_wp2_with fail
  go_loop [3, 4] (fun x i => ∃ k : Nat, k ≤ s.size ∧ i = .int .i64 k ∧ x = .int .u64 (foldS 14695981039346656037 (s.data.toList.take k) : Nat)) (fun _ i => s.size - (intOf i).toNat)
  case atStart => exact ⟨0, Nat.zero_le _, rfl, by simp [foldS]⟩
  case round =>
    obtain ⟨k, hk, rfl, rfl⟩ := hrel
    by_cases hlt : k < s.size
    · have hS := foldS_lt 14695981039346656037 (s.data.toList.take k) (by decide)
      have Hn := Lib.hid (foldS_succ s k hlt 14695981039346656037)
      generalize foldS 14695981039346656037 (s.data.toList.take k) = S at *
      go_wp2_with (go_at_call 16; refine (ref_add S s[k].toNat _ hS (by exact s[k].toNat_lt)).mono ?_; rintro e w' ⟨rfl, rfl⟩)
      go_round
      case rel => exact ⟨k + 1, by omega, by go_num, by rw [Hn.out]⟩
      case measure => simp [intOf]; omega
    · go_wp2_with fail
      go_ret
      refine ⟨ret_int ?_, rfl⟩
      rw [List.take_of_length_le (by simp; omega)]; rfl

theorem ref_bucket (s : ByteArray) (n : Int) (w : World) (hs : s.size ≤ 9223372036854775807) (hn : n ≤ 9223372036854775807) :
    Calls Try.prog 18 #[.string s, .int .i64 n] w fun e w' => e = .returned (.int .i64 (bucketOf s.data.toList n)) ∧ w' = w := by
  by_cases h : n < 1
  · have Hb := Lib.hid (bucketOf_lt s.data.toList n h)
    go_enter Try.func18, Try.ntmps18
    go_wp2_with fail
    go_ret
    exact ⟨ret_int Hb.out.symm, rfl⟩
  · have hl := FnvPlain.sum_lt s.data.toList
    have h1 : 1 ≤ n := by omega
    have Hb := Lib.hid (bucketOf_ge s.data.toList n h)
    clear h
    have hm : 0 ≤ (FnvPlain.sum s.data.toList : Int) % n ∧ (FnvPlain.sum s.data.toList : Int) % n < n := ⟨Int.emod_nonneg _ (by omega), Int.emod_lt_of_pos _ (by omega)⟩
    obtain ⟨m1, m2⟩ := hm
    go_enter Try.func18, Try.ntmps18
    go_wp2_with (go_at_call 14; refine (ref_sum _ _ hs).mono ?_; rintro e w' ⟨rfl, rfl⟩)
    go_ret
    exact ⟨ret_int Hb.out.symm, rfl⟩

def addI (s b : Int) : Int := (FnvPlain.add s.toNat b.toNat : Nat)
theorem fnv_addI (s b : Int) (w : World) (h0 : 0 ≤ s ∧ s < 18446744073709551616) (h1 : 0 ≤ b ∧ b < 256) :
    Calls Try.prog 15 #[.int .u64 s, .int .u8 b] w fun e w' => e = .returned (.int .u64 (addI s b)) ∧ w' = w := by
  have h := fnv_add s.toNat b.toNat w (by omega) (by omega)
  rwa [Int.toNat_of_nonneg h0.1, Int.toNat_of_nonneg h1.1] at h
theorem ref_addI (s b : Int) (w : World) (h0 : 0 ≤ s ∧ s < 18446744073709551616) (h1 : 0 ≤ b ∧ b < 256) :
    Calls Try.prog 16 #[.int .u64 s, .int .u8 b] w fun e w' => e = .returned (.int .u64 (addI s b)) ∧ w' = w := by
  have h := ref_add s.toNat b.toNat w (by omega) (by omega)
  rwa [Int.toNat_of_nonneg h0.1, Int.toNat_of_nonneg h1.1] at h

theorem bucket_a : bucketOf [97] 10 = 6 := by decide +kernel
theorem bucket_0 : bucketOf [97] 0 = 0 := by decide +kernel

set_option maxHeartbeats 1000000 in
theorem awake10 (w : World) :
    Calls Try.prog 12 #[] w fun e w' => e = .returned (.bool true) ∧ Below w.heap.size w w' := by
  have k1 := sum_a
  have k2 := sum_nil
  have k3 := add_a
  have k4 := bucket_a
  have k5 := bucket_0
  have hb := Below.refl w.heap.size w
  go_enter Try.func12, Try.ntmps12
  go_wp2_with (first
    | (go_at_call 13; refine (fnv_sum _ _ (by decide)).mono ?_; rintro e w' ⟨rfl, hb1⟩; have hb := bstep hb hb1; clear hb1)
    | (go_at_call 17; refine (fnv_bucket _ _ _ (by decide) (by decide)).mono ?_; rintro e w' ⟨rfl, hb1⟩; have hb := bstep hb hb1; clear hb1)
    | (go_at_call 15; refine (fnv_add _ _ _ (by decide) (by decide)).mono ?_; rintro e w' ⟨rfl, rfl⟩))
  go_ret
  exact ⟨rfl, by assumption⟩

set_option maxHeartbeats 1000000 in
theorem fnvTells_walk (s : ByteArray) (sum n : Int) (w : World) (hs : s.size ≤ 9223372036854775807) (h1 : 0 ≤ sum ∧ sum < 18446744073709551616) (hn : -9223372036854775808 ≤ n ∧ n ≤ 9223372036854775807) :
    Calls Try.prog 3 #[.string s, .int .u64 sum, .int .i64 n] w fun e w' => e = .returned (.bool true) ∧ Below w.heap.size w w' := by
  have hb := Below.refl w.heap.size w
  by_cases hl : (500 : Int) < (s.size : Int)
  · go_enter Try.func3, Try.ntmps3
    go_wp2_with (go_at_call 12; refine (awake10 _).mono ?_; rintro e w' ⟨rfl, hb1⟩; have hb := bstep hb hb1; clear hb1)
    go_ret
    exact ⟨rfl, by assumption⟩
  · obtain ⟨c1, c2⟩ : 0 ≤ IntKind.u8.wrap n ∧ IntKind.u8.wrap n < 256 := by rw [IntKind.wrap_u8]; omega
    obtain ⟨n1, n2⟩ := hn
    go_enter Try.func3, Try.ntmps3
    go_wp2_with (first
      | (go_at_call 13; refine (fnv_sum _ _ hs).mono ?_; rintro e w' ⟨rfl, hb1⟩; have hb := bstep hb hb1; clear hb1)
      | (go_at_call 14; refine (ref_sum _ _ hs).mono ?_; rintro e w' ⟨rfl, rfl⟩)
      | (go_at_call 17; refine (fnv_bucket _ _ _ hs n2).mono ?_; rintro e w' ⟨rfl, hb1⟩; have hb := bstep hb hb1; clear hb1)
      | (go_at_call 18; refine (ref_bucket _ _ _ hs n2).mono ?_; rintro e w' ⟨rfl, rfl⟩)
      | (go_at_call 15; refine (fnv_addI _ _ _ h1 ⟨c1, c2⟩).mono ?_; rintro e w' ⟨rfl, rfl⟩)
      | (go_at_call 16; refine (ref_addI _ _ _ h1 ⟨c1, c2⟩).mono ?_; rintro e w' ⟨rfl, rfl⟩)
      | (go_at_call 12; refine (awake10 _).mono ?_; rintro e w' ⟨rfl, hb1⟩; have hb := bstep hb hb1; clear hb1))
    go_ret
    exact ⟨rfl, by assumption⟩

theorem foldS_app (s0 : Nat) (l m : List UInt8) : foldS s0 (l ++ m) = foldS (foldS s0 l) m := List.foldl_append

set_option maxHeartbeats 1000000 in
theorem fnvParts_walk (s t : ByteArray) (w : World) (hs : s.size ≤ 9223372036854775807) (ht : t.size ≤ 9223372036854775807) :
    Calls Try.prog 4 #[.string s, .string t] w fun e w' => e = .returned (.bool true) ∧ Below w.heap.size w w' := by
  have hb := Below.refl w.heap.size w
  by_cases hl : (500 : Int) < (s.size : Int)
  · go_enter Try.func4, Try.ntmps4
    go_wp2_with (go_at_call 12; refine (awake10 _).mono ?_; rintro e w' ⟨rfl, hb1⟩; have hb := bstep hb hb1; clear hb1)
    go_ret
    exact ⟨rfl, by assumption⟩
  · by_cases hl2 : (500 : Int) < (t.size : Int)
    · go_enter Try.func4, Try.ntmps4
      go_wp2_with (go_at_call 12; refine (awake10 _).mono ?_; rintro e w' ⟨rfl, hb1⟩; have hb := bstep hb hb1; clear hb1)
      go_ret
      exact ⟨rfl, by assumption⟩
    · go_enter Try.func4, Try.ntmps4
      go_wp2_with (go_at_call 13; refine (fnv_sum _ _ hs).mono ?_; rintro e w' ⟨rfl, hb1⟩; have hb := bstep hb hb1; clear hb1)
      go_loop [5, 6] (fun x i => ∃ k : Nat, k ≤ t.size ∧ i = .int .i64 k ∧ x = .int .u64 (foldS (FnvPlain.sum s.data.toList) (t.data.toList.take k) : Nat)) (fun _ i => t.size - (intOf i).toNat)
      case atStart => exact ⟨0, Nat.zero_le _, rfl, by simp [foldS]⟩
      case round =>
        obtain ⟨k, hk, rfl, rfl⟩ := hrel
        by_cases hlt : k < t.size
        · have hS := foldS_lt (FnvPlain.sum s.data.toList) (t.data.toList.take k) (FnvPlain.sum_lt _)
          have Hn := Lib.hid (foldS_succ t k hlt (FnvPlain.sum s.data.toList))
          generalize foldS (FnvPlain.sum s.data.toList) (t.data.toList.take k) = S at *
          go_wp2_with (go_at_call 15; refine (fnv_add S t[k].toNat _ hS (by exact t[k].toNat_lt)).mono ?_; rintro e w' ⟨rfl, rfl⟩)
          go_round
          case rel => exact ⟨k + 1, by omega, by go_num, by rw [Hn.out]⟩
          case measure => simp [intOf]; omega
        · have e1 : foldS (FnvPlain.sum s.data.toList) (t.data.toList.take k) = FnvPlain.sum (s.data.toList ++ t.data.toList) := by
            rw [List.take_of_length_le (by simp; omega), ← foldS_sum, ← foldS_sum, foldS_app]
          rw [e1]
          clear e1
          have hst : (s ++ t).size ≤ 9223372036854775807 := by rw [ByteArray.size_append]; omega
          go_wp2_with (first
            | (go_at_call 13; refine (fnv_sum _ _ hst).mono ?_; rintro e w' ⟨rfl, hb1⟩; have hb := bstep hb hb1; clear hb1)
            | (go_at_call 12; refine (awake10 _).mono ?_; rintro e w' ⟨rfl, hb1⟩; have hb := bstep hb hb1; clear hb1))
          go_ret
          exact ⟨rfl, by assumption⟩
theorem mod_bd (l : List UInt8) (n : Int) (h : 1 ≤ n) : 0 ≤ (FnvPlain.sum l : Int) % n ∧ (FnvPlain.sum l : Int) % n < n := ⟨Int.emod_nonneg _ (by omega), Int.emod_lt_of_pos _ (by omega)⟩
set_option maxHeartbeats 1000000 in
theorem fnvBuckets_walk (s : ByteArray) (n : Int) (w : World) (hs : s.size ≤ 9223372036854775807) (hn : -9223372036854775808 ≤ n ∧ n ≤ 9223372036854775807) :
    Calls Try.prog 6 #[.string s, .int .i64 n] w fun e w' => e = .returned (.bool true) ∧ Below w.heap.size w w' := by
  have hb := Below.refl w.heap.size w
  obtain ⟨n1, n2⟩ := hn
  by_cases hl : (500 : Int) < (s.size : Int)
  · go_enter Try.func6, Try.ntmps6
    go_wp2_with (go_at_call 12; refine (awake10 _).mono ?_; rintro e w' ⟨rfl, hb1⟩; have hb := bstep hb hb1; clear hb1)
    go_ret
    exact ⟨rfl, by assumption⟩
  · have e1 : bucketOf s.data.toList 1 = 0 := by rw [bucketOf_ge _ _ (by decide)]; omega
    by_cases hn1 : n < 1
    · have e0 := bucketOf_lt s.data.toList n hn1
      go_enter Try.func6, Try.ntmps6
      go_wp2_with (first
        | (go_at_call 17; refine (fnv_bucket _ _ _ hs (by omega)).mono ?_; rintro e w' ⟨rfl, hb1⟩; have hb := bstep hb hb1; clear hb1)
        | (go_at_call 12; refine (awake10 _).mono ?_; rintro e w' ⟨rfl, hb1⟩; have hb := bstep hb hb1; clear hb1))
      go_ret
      exact ⟨rfl, by assumption⟩
    · obtain ⟨b1, b2⟩ : 0 ≤ bucketOf s.data.toList n ∧ bucketOf s.data.toList n < n := by
        rw [bucketOf_ge _ _ hn1]; exact mod_bd _ n (by omega)
      go_enter Try.func6, Try.ntmps6
      go_wp2_with (first
        | (go_at_call 17; refine (fnv_bucket _ _ _ hs (by omega)).mono ?_; rintro e w' ⟨rfl, hb1⟩; have hb := bstep hb hb1; clear hb1)
        | (go_at_call 12; refine (awake10 _).mono ?_; rintro e w' ⟨rfl, hb1⟩; have hb := bstep hb hb1; clear hb1))
      go_ret
      exact ⟨rfl, by assumption⟩

theorem add_zero_plain (b : Nat) (j : Nat) : (⟨b, 0, none⟩ : Addr).add j = ⟨b, j, none⟩ := by unfold Addr.add; split <;> simp_all
theorem bits8 (x c : UInt8) : bits BinOp.xor IntKind.u8 (x.toNat : Int) (c.toNat : Int) = ((x ^^^ c).toNat : Int) := by
  have e1 : (BitVec.ofInt IntKind.u8.bits (x.toNat : Int) ^^^ BitVec.ofInt IntKind.u8.bits (c.toNat : Int)).toNat = (x ^^^ c).toNat := by
    show (BitVec.ofInt 8 (x.toNat : Int) ^^^ BitVec.ofInt 8 (c.toNat : Int)).toNat = _
    rw [BitVec.ofInt_natCast, BitVec.ofInt_natCast, BitVec.toNat_xor, BitVec.toNat_ofNat, BitVec.toNat_ofNat, Nat.mod_eq_of_lt x.toNat_lt, Nat.mod_eq_of_lt c.toNat_lt, UInt8.toNat_xor]
  show IntKind.u8.wrap (((BitVec.ofInt IntKind.u8.bits (x.toNat : Int) ^^^ BitVec.ofInt IntKind.u8.bits (c.toNat : Int)).toNat : Nat) : Int) = _
  rw [e1]
  have := (x ^^^ c).toNat_lt
  exact IntWalk.u8_in _ (by omega)
theorem unlike_set (s : ByteArray) (n : Nat) (h : n < s.size) (c : UInt8) (hc : c ≠ 0) : FnvPlain.sum (s.data.toList.set n (s.data[n]'h ^^^ c)) ≠ FnvPlain.sum s.data.toList := by
  intro he
  have hl : n < s.data.toList.length := by simpa using h
  have e1 : s.data.toList = s.data.toList.take n ++ s.data[n]'h :: s.data.toList.drop (n + 1) := by
    have := List.take_append_drop n s.data.toList
    rw [List.drop_eq_getElem_cons hl] at this
    exact this.symm
  have e2 : s.data.toList.set n (s.data[n]'h ^^^ c) = s.data.toList.take n ++ (s.data[n]'h ^^^ c) :: s.data.toList.drop (n + 1) := by
    rw [List.set_eq_take_append_cons_drop, if_pos hl]
  rw [e2] at he
  have he2 := he.trans (congrArg FnvPlain.sum e1)
  have h3 := FnvPlain.unlike _ _ _ _ he2
  apply hc
  have h4 := congrArg (s.data[n]'h ^^^ ·) h3
  simpa [← UInt8.xor_assoc] using h4

set_option maxRecDepth 100000 in
set_option maxHeartbeats 1000000 in
theorem fnvUnlike_walk (s : ByteArray) (n : Int) (c : UInt8) (w : World) (hs : s.size ≤ 9223372036854775807) (hn : -9223372036854775808 ≤ n ∧ n ≤ 9223372036854775807) :
    Calls Try.prog 5 #[.string s, .int .i64 n, .int .u8 (c.toNat : Int)] w fun e w' => e = .returned (.bool true) ∧ Below w.heap.size w w' := by
  have hb := Below.refl w.heap.size w
  obtain ⟨n1, n2⟩ := hn
  by_cases hl : (500 : Int) < (s.size : Int)
  · go_enter Try.func5, Try.ntmps5
    go_wp2_with (go_at_call 12; refine (awake10 _).mono ?_; rintro e w' ⟨rfl, hb1⟩; have hb := bstep hb hb1; clear hb1)
    go_ret
    exact ⟨rfl, by assumption⟩
  · by_cases h2 : n < 0
    · go_enter Try.func5, Try.ntmps5
      go_wp2_with (go_at_call 12; refine (awake10 _).mono ?_; rintro e w' ⟨rfl, hb1⟩; have hb := bstep hb hb1; clear hb1)
      go_ret
      exact ⟨rfl, by assumption⟩
    · obtain ⟨n, rfl⟩ := Int.eq_ofNat_of_zero_le (show 0 ≤ n by omega)
      by_cases h3 : s.size ≤ n
      · go_enter Try.func5, Try.ntmps5
        go_wp2_with (go_at_call 12; refine (awake10 _).mono ?_; rintro e w' ⟨rfl, hb1⟩; have hb := bstep hb hb1; clear hb1)
        go_ret
        exact ⟨rfl, by assumption⟩
      · by_cases h4 : c = 0
        · subst h4
          go_enter Try.func5, Try.ntmps5
          go_wp2_with (go_at_call 12; refine (awake10 _).mono ?_; rintro e w' ⟨rfl, hb1⟩; have hb := bstep hb hb1; clear hb1)
          go_ret
          exact ⟨rfl, by assumption⟩
        · have hconv := run_bytes_of_string (P := Try.prog) w 9 29 5 s Try.underlying9 Try.underlying29 Try.underlying5
          generalize grownCap w s.size 0 5 = cap at hconv
          have hlt : n < s.size := by omega
          have hc0 : c ≠ 0 := h4
          have hne : ((c.toNat : Int) == 0) = false := by
            rw [beq_eq_false_iff_ne]; intro h; exact h4 (UInt8.toNat_inj.1 (by simpa using h))
          clear h4
          generalize hW1 : w.drew.alloc (.cells (bytesRow s cap) 5 ((bytesRow s cap).size, (bytesRow s cap).size + 1)) = W1 at hconv
          have hcell : ∀ j (hj : j < s.data.size), W1.cell? ⟨w.heap.size, j, none⟩ = some (.int .u8 (s.data[j].toNat : Int)) := fun j hj => by
            rw [← hW1]
            exact (World.cell?_alloc_mark w.drew _ _ _ j).trans (bytesRow_at s cap j hj)
          have hfr : W1.frozen? ⟨w.heap.size, n, none⟩ = false := by
            rw [← hW1]
            refine (World.frozen?_alloc_mark w.drew _ _ _ _ n).trans ?_
            have : n < (bytesRow s cap).size := by simp [bytesRow]; exact Nat.lt_of_lt_of_le hlt (Nat.le_add_right _ _)
            simp; omega
          have hcn := hcell n (by simpa using hlt)
          have hbW : Below w.heap.size w W1 := by rw [← hW1]; exact (Below.refl _ _).drew.alloc (Nat.le_refl _) _
          clear hW1
          have hxor := bits8 s.data[n] c
          have hun := Lib.hid (unlike_set s n hlt c hc0)
          generalize s.data[n] ^^^ c = X at hxor hun
          have hback := run_convert_bytes_back (P := Try.prog) (W1.setCell ⟨w.heap.size, n, none⟩ (.int .u8 (X.toNat : Int))) 29 9 5 ⟨w.heap.size, 0, none⟩ cap (s.data.toList.set n X) Try.underlying29 Try.underlying5 Try.underlying9 (fun j hj => by
            rw [add_zero_plain]
            by_cases hjn : j = n
            · subst hjn
              rw [List.getElem_set_self]
              exact World.cell?_setCell_same _ _ _ hcn
            · rw [World.cell?_setCell_other _ _ _ _ (by simp <;> omega), List.getElem_set_ne (by omega)]
              exact hcell j (by simpa using hj))
          rw [show (s.data.toList.set n X).length = s.size by simp] at hback
          have hbW2 := hbW.setCell (p := ⟨w.heap.size, n, none⟩) (Nat.le_refl _) (.int .u8 (X.toNat : Int))
          have hRs : (⟨(s.data.toList.set n X).toArray⟩ : ByteArray).size ≤ 9223372036854775807 := by
            show ((s.data.toList.set n X).toArray).size ≤ _
            rw [List.size_toArray, List.length_set]; exact hs
          generalize (s.data.toList.set n X) = R at *
          have hneq : (((FnvPlain.sum R : Nat) : Int) == ((FnvPlain.sum s.data.toList : Nat) : Int)) = false := by
            rw [beq_eq_false_iff_ne]; have := hun.out; omega
          have hneq' : (((FnvPlain.sum R : Nat) : Int) != ((FnvPlain.sum s.data.toList : Nat) : Int)) = true := by
            rw [bne_iff_ne]; have := hun.out; omega
          clear hcell hbW
          go_enter Try.func5, Try.ntmps5
          go_wp2_with (first
            | (go_at_call_of 13 (Value.string s); refine (fnv_sum _ _ hs).mono ?_; rintro e w' ⟨rfl, hb1⟩; have hb := bstep hb hb1; clear hb1)
            | (go_at_call 13; refine (fnv_sum _ _ hRs).mono ?_; rintro e w' ⟨rfl, hb1⟩; have hb := bstep hbW2 hb1; clear hb1)
            | (go_at_call 12; refine (awake10 _).mono ?_; rintro e w' ⟨rfl, hb1⟩; have hb := bstep hb hb1; clear hb1))
          go_ret
          exact ⟨rfl, by assumption⟩

theorem wf_u8 {b : Int} (h : (Lit.int .u8 b).wf = true) : ∃ c : UInt8, b = (c.toNat : Int) := by
  have hb := bounds_u8 h
  refine ⟨UInt8.ofNat b.toNat, ?_⟩
  rw [UInt8.toNat_ofNat', Nat.mod_eq_of_lt (by omega)]
  omega
theorem fnvTells_go (a0 : ByteArray) (a1 a2 : Int) (w0 : a0.size ≤ maxLen) (w1 : (Lit.int .u64 a1).wf = true) (w2 : (Lit.int .i64 a2).wf = true) (w : World) :
    Calls Try.prog 3 #[.string a0, .int .u64 a1, .int .i64 a2] w fun e w' => e = .returned (.bool true) ∧ Below w.heap.size w w' :=
  fnvTells_walk a0 a1 a2 w (by unfold maxLen at w0; omega) (by have := bounds_u64 w1; omega) (by have := bounds_i64 w2; omega)
theorem fnvParts_go (a0 a1 : ByteArray) (w0 : a0.size ≤ maxLen) (w1 : a1.size ≤ maxLen) (w : World) :
    Calls Try.prog 4 #[.string a0, .string a1] w fun e w' => e = .returned (.bool true) ∧ Below w.heap.size w w' :=
  fnvParts_walk a0 a1 w (by unfold maxLen at w0; omega) (by unfold maxLen at w1; omega)
theorem fnvBuckets_go (a0 : ByteArray) (a1 : Int) (w0 : a0.size ≤ maxLen) (w1 : (Lit.int .i64 a1).wf = true) (w : World) :
    Calls Try.prog 6 #[.string a0, .int .i64 a1] w fun e w' => e = .returned (.bool true) ∧ Below w.heap.size w w' :=
  fnvBuckets_walk a0 a1 w (by unfold maxLen at w0; omega) (by have := bounds_i64 w1; omega)
theorem fnvUnlike_go (a0 : ByteArray) (a1 a2 : Int) (w0 : a0.size ≤ maxLen) (w1 : (Lit.int .i64 a1).wf = true) (w2 : (Lit.int .u8 a2).wf = true) (w : World) :
    Calls Try.prog 5 #[.string a0, .int .i64 a1, .int .u8 a2] w fun e w' => e = .returned (.bool true) ∧ Below w.heap.size w w' := by
  obtain ⟨c, rfl⟩ := wf_u8 w2
  exact fnvUnlike_walk a0 a1 c w (by unfold maxLen at w0; omega) (by have := bounds_i64 w1; omega)
end Go.Proofs.Ytjeeedbbdgjgeaa
