/- What Print, Parse and their helpers of package status, and of its reference, return. -/
import Derived.Test.YtnfadmdndefanaaDoorStatusWalk
import Derived.Test.YtnfadmdndefanaaDoorShelf
namespace Go.Proofs.YtnfadmdndefanaaDoor
open Go.RowKit

theorem below_grow (w : World) (k : Nat) (os : Array Obj) : Below w.heap.size w (Go.Sort.grow (w.drewN k) os) := by
  refine ⟨rfl, rfl, rfl, ?_, fun j hj => ?_⟩
  · show w.heap.size ≤ (w.heap ++ os).size
    simp
  · show (w.heap ++ os)[j]? = w.heap[j]?
    rw [Array.getElem?_append_left hj]

theorem itoa_any (n : Int) (h0 : -9223372036854775808 ≤ n) (h1 : n ≤ 9223372036854775807) (w : World) (hE : Env w) :
    Calls Tryd.prog 59 #[.int .i64 n] w fun e w' => e = .returned (.string (bs (Go.Lib.itoa n))) ∧ Below w.heap.size w w' :=
  (Tryd.strconv_Itoa n h0 h1 w hE.tab).mono fun _ _ ⟨he, k, os, hw⟩ => ⟨he, hw ▸ below_grow w k os⟩

theorem decDigits_len (n : Nat) (h : n < 18446744073709551616) : (Go.Lib.decDigits n).length ≤ 20 := by
  rw [Go.Lib.decDigits_length]
  have h1 := Go.Lib.numDigits_eq n
  rcases Nat.eq_zero_or_pos n with h0 | h0
  · subst h0; rw [Go.Lib.nDigits_small (by decide)]; decide
  · obtain ⟨h2, h3⟩ := h1 h0 h
    rw [← h2]; split <;> omega
theorem itoa_len (n : Int) (h0 : -9223372036854775808 ≤ n) (h1 : n ≤ 9223372036854775807) : (Go.Lib.itoa n).length ≤ 21 := by
  unfold Go.Lib.itoa
  split
  · have := decDigits_len n.natAbs (by omega); simp; omega
  · have := decDigits_len n.toNat (by omega); omega

theorem status_print (code : Int) (w : World) (hE : Env w) (h0 : -9223372036854775808 ≤ code) (h1 : code ≤ 9223372036854775807) :
    Calls Tryd.prog 30 #[.int .i64 code] w fun e w' => e = .returned (.tuple #[.string (printOf code), .int .i64 (printErr code)]) ∧ Below w.heap.size w w' := by
  by_cases hc : classOf code = 0
  · have hP : Hid (printOf code = ⟨#[]⟩ ∧ printErr code = 8) := Lib.hid ⟨if_pos hc, if_pos hc⟩
    go_enter Tryd.func30, Tryd.ntmps30
    go_wp2_with (go_at_call 34; refine (status_class _ _).mono ?_; rintro e w' ⟨rfl, rfl⟩)
    go_ret2
    exact ⟨by rw [hP.out.1, hP.out.2]; rfl, Below.refl _ _⟩
  · have hP : Hid (printOf code = statusLine code ∧ printErr code = 0) := Lib.hid ⟨if_neg hc, if_neg hc⟩
    have hcb : (classOf code == 0) = false := by rw [beq_eq_false_iff_ne]; exact hc
    have hl := itoa_len code h0 h1
    have hr := reason_size code
    obtain ⟨I, hI⟩ : ∃ I, I = bs (Go.Lib.itoa code) := ⟨_, rfl⟩
    have hIs : I.size ≤ 21 := by rw [hI, bs_size]; exact hl
    have y1 : (ByteArray.mk #[72, 84, 84, 80, 47, 49, 46, 49, 32]).size + I.size ≤ 9223372036854775807 := by show 9 + _ ≤ _; omega
    have y2 : ((ByteArray.mk #[72, 84, 84, 80, 47, 49, 46, 49, 32]) ++ I).size + (ByteArray.mk #[32]).size ≤ 9223372036854775807 := by rw [ByteArray.size_append]; show 9 + _ + 1 ≤ _; omega
    have y3 : ((ByteArray.mk #[72, 84, 84, 80, 47, 49, 46, 49, 32]) ++ I ++ ByteArray.mk #[32]).size + (reasonOf code).size ≤ 9223372036854775807 := by rw [ByteArray.size_append, ByteArray.size_append]; show 9 + _ + 1 + _ ≤ _; omega
    have HI := Lib.hid hI
    have HE := Lib.hid hE
    clear hc hI hE
    go_enter Tryd.func30, Tryd.ntmps30
    go_wp2_with (go_at_call 34; refine (status_class _ _).mono ?_; rintro e w' ⟨rfl, rfl⟩)
    refine (itoa_any code h0 h1 _ HE.out).mono ?_
    rw [← HI.out]
    rintro e w1 ⟨rfl, hb⟩
    go_wp2_with (go_at_call 32; refine (status_reason _ _).mono ?_; rintro e w' ⟨rfl, rfl⟩)
    go_ret2
    refine ⟨?_, hb⟩
    rw [hP.out.1, hP.out.2]
    unfold statusLine
    rw [HI.out]
    rfl

theorem bs_cat (a b : List UInt8) : bs a ++ bs b = bs (a ++ b) := by
  have : (bs a ++ bs b).data.toList = a ++ b := by simp [bs]
  rw [← this, bs_self]
theorem digit_slice (n : Nat) (h : n < 10) : (ByteArray.mk #[48, 49, 50, 51, 52, 53, 54, 55, 56, 57]).extract n (n + 1) = bs (Go.Lib.decDigits n) := by
  rw [extract_bs, Go.Lib.decDigits_one h]
  congr 1
  have : ∀ k : Fin 10, (((ByteArray.mk #[48, 49, 50, 51, 52, 53, 54, 55, 56, 57]).data.toList.take (k.val + 1)).drop k.val) = [UInt8.ofNat (48 + k.val)] := by decide +kernel
  exact this ⟨n, h⟩
theorem dec_split (n : Nat) (h : ¬ n < 10) : bs (Go.Lib.decDigits (n / 10)) ++ bs (Go.Lib.decDigits (n % 10)) = bs (Go.Lib.decDigits n) := by
  rw [bs_cat, Go.Lib.decDigits_one (show n % 10 < 10 by omega)]
  conv => rhs; rw [Go.Lib.decDigits, dif_neg h]

theorem ref_digits (k : Nat) : ∀ (n : Nat) (w : World), n ≤ k → n ≤ 9223372036854775807 →
    Calls Tryd.prog 44 #[.int .i64 n] w fun e w' => e = .returned (.string (bs (Go.Lib.decDigits n))) ∧ w' = w := by
  induction k using Nat.strongRecOn with
  | _ k ih =>
    intro n w hk hn
    by_cases h : n < 10
    · have hd := digit_slice n h
      have Hd := Lib.hid hd
      clear hd
      go_enter Tryd.func44, Tryd.ntmps44
      go_wp2_with fail
      go_ret
      exact ⟨ret_str Hd.out, rfl⟩
    · have Hs := Lib.hid (dec_split n h)
      have l1 := decDigits_len (n / 10) (by omega)
      have l2 := decDigits_len (n % 10) (by omega)
      obtain ⟨A, hA⟩ : ∃ A, A = bs (Go.Lib.decDigits (n / 10)) := ⟨_, rfl⟩
      obtain ⟨B, hB⟩ : ∃ B, B = bs (Go.Lib.decDigits (n % 10)) := ⟨_, rfl⟩
      have hAB : A.size + B.size ≤ 9223372036854775807 := by rw [hA, hB, bs_size, bs_size]; omega
      have HA := Lib.hid hA
      have HB := Lib.hid hB
      have h10 : 10 ≤ n := by omega
      have i1 := ih (n / 10) (by omega) (n / 10) w (Nat.le_refl _) (by omega)
      have i2 := ih (n % 10) (by omega) (n % 10) w (Nat.le_refl _) (by omega)
      rw [← hA] at i1
      rw [← hB] at i2
      have I1 := Lib.hid i1
      have I2 := Lib.hid i2
      clear hA hB i1 i2 h l1 l2
      go_enter Tryd.func44, Tryd.ntmps44
      go_wp2_with fail
      rw [show ((n : Int) / 10) = ((n / 10 : Nat) : Int) by omega]
      refine I1.out.mono ?_
      rintro e w' ⟨rfl, rfl⟩
      go_wp2_with fail
      rw [show ((n : Int) % 10) = ((n % 10 : Nat) : Int) by omega]
      refine I2.out.mono ?_
      rintro e w' ⟨rfl, rfl⟩
      go_wp2_with fail
      go_ret
      refine ⟨ret_str ?_, rfl⟩
      rw [HA.out, HB.out, Hs.out]

theorem itoa_nonneg (n : Int) (h : 0 ≤ n) : Go.Lib.itoa n = Go.Lib.decDigits n.toNat := by
  unfold Go.Lib.itoa; rw [if_neg (by omega)]

set_option maxHeartbeats 1000000 in
theorem ref_print (code : Int) (w : World) (h0 : -9223372036854775808 ≤ code) (h1 : code ≤ 9223372036854775807) :
    Calls Tryd.prog 31 #[.int .i64 code] w fun e w' => e = .returned (.tuple #[.string (printOf code), .int .i64 (printErr code)]) ∧ Below w.heap.size w w' := by
  by_cases hc : classOf code = 0
  · have hP : Hid (printOf code = ⟨#[]⟩ ∧ printErr code = 8) := Lib.hid ⟨if_pos hc, if_pos hc⟩
    go_enter Tryd.func31, Tryd.ntmps31
    go_wp2_with (go_at_call 35; refine (ref_class _ _).mono ?_; rintro e w' ⟨rfl, rfl⟩)
    go_ret2
    exact ⟨by rw [hP.out.1, hP.out.2]; rfl, Below.refl _ _⟩
  · have hP : Hid (printOf code = statusLine code ∧ printErr code = 0) := Lib.hid ⟨if_neg hc, if_neg hc⟩
    have hcb : (classOf code == 0) = false := by rw [beq_eq_false_iff_ne]; exact hc
    have hin : 100 ≤ code ∧ code ≤ 599 := by
      rcases Classical.em (code < 100 ∨ 599 < code) with h | h
      · exact absurd (class_out code h) hc
      · omega
    obtain ⟨n, rfl⟩ := Int.eq_ofNat_of_zero_le (show 0 ≤ code by omega)
    have hl := itoa_len (n : Int) h0 h1
    have hit := itoa_nonneg (n : Int) (by omega)
    rw [Int.toNat_natCast] at hit
    have hr := reason_size (n : Int)
    obtain ⟨I, hI⟩ : ∃ I, I = bs (Go.Lib.decDigits n) := ⟨_, rfl⟩
    have hIs : I.size ≤ 21 := by rw [hI, bs_size, ← hit]; exact hl
    have y1 : (ByteArray.mk #[72, 84, 84, 80, 47, 49, 46, 49, 32]).size + I.size ≤ 9223372036854775807 := by show 9 + _ ≤ _; omega
    have y2 : ((ByteArray.mk #[72, 84, 84, 80, 47, 49, 46, 49, 32]) ++ I).size + (ByteArray.mk #[32]).size ≤ 9223372036854775807 := by rw [ByteArray.size_append]; show 9 + _ + 1 ≤ _; omega
    have y3 : ((ByteArray.mk #[72, 84, 84, 80, 47, 49, 46, 49, 32]) ++ I ++ ByteArray.mk #[32]).size + (reasonOf (n : Int)).size ≤ 9223372036854775807 := by rw [ByteArray.size_append, ByteArray.size_append]; show 9 + _ + 1 + _ ≤ _; omega
    have hdg := ref_digits n n w (Nat.le_refl _) (by omega)
    rw [← hI] at hdg
    have Hdg := Lib.hid hdg
    have HI := Lib.hid (hI.trans (congrArg bs hit.symm))
    clear hc hI hit hdg hl
    go_enter Tryd.func31, Tryd.ntmps31
    go_wp2_with (go_at_call 35; refine (ref_class _ _).mono ?_; rintro e w' ⟨rfl, rfl⟩)
    refine Hdg.out.mono ?_
    rintro e w1 ⟨rfl, rfl⟩
    go_wp2_with (go_at_call 33; refine (ref_reason _ _).mono ?_; rintro e w' ⟨rfl, hb⟩)
    go_ret2
    refine ⟨?_, by assumption⟩
    rw [hP.out.1, hP.out.2]
    unfold statusLine
    rw [HI.out]
    rfl
end Go.Proofs.YtnfadmdndefanaaDoor
