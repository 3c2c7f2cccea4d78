/- What name and plain of the reference of fields return. -/
import Derived.Test.YtnfadmdndefanaaGreatDoorFieldsWalk2
namespace Go.Proofs.YtnfadmdndefanaaGreatDoor
open Go.RowKit

theorem all_at (q : UInt8 → Bool) (s : ByteArray) (k : Nat) (h : k < s.size) (hq : q s[k] = false) : s.data.toList.all q = false := by
  rw [List.all_eq_false]
  exact ⟨s[k], List.getElem_mem (by rw [size_len]; exact h), by simp [hq]⟩
theorem all_of (q : UInt8 → Bool) (s : ByteArray) (h : ∀ j (hj : j < s.size), q s[j] = true) : s.data.toList.all q = true := by
  rw [List.all_eq_true]
  intro c hc
  obtain ⟨k, hk, rfl⟩ := List.getElem_of_mem hc
  exact h k (by rw [← size_len]; exact hk)
theorem upto_step (q : UInt8 → Bool) (s : ByteArray) (k : Nat) (h : ∀ j, j < k → ∀ hj : j < s.size, q (s[j]'hj) = true) (hk : k < s.size) (hq : q s[k] = true) : ∀ j, j < k + 1 → ∀ hj : j < s.size, q (s[j]'hj) = true := by
  intro j hj hjs
  by_cases e : j = k
  · subst e; exact hq
  · exact h j (by omega) hjs

set_option maxHeartbeats 1000000 in
theorem ref_fplain (s : ByteArray) (w : World) (hs : s.size ≤ 9223372036854775807) :
    Calls Tryz.prog 26 #[.string s] w fun e w' => e = .returned (.bool (s.data.toList.all (fun c => plainB c.toNat))) ∧ w' = w := by
  obtain ⟨B, hB⟩ : ∃ B, B = s.data.toList.all (fun c => plainB c.toNat) := ⟨_, rfl⟩
  rw [← hB]
  have HB := Lib.hid hB
  clear hB
  go_enter Tryz.func26, Tryz.ntmps26
  go_wp2_with fail
  go_loop [3] (fun j => ∃ k : Nat, k ≤ s.size ∧ j = .int .i64 k ∧ Hid (∀ j, j < k → ∀ hj : j < s.size, plainB (s[j]'hj).toNat = true)) (fun j => s.size - (intOf j).toNat)
  case atStart => exact ⟨0, by omega, rfl, Lib.hid (fun j hj => by omega)⟩
  case round =>
    obtain ⟨k, hk, rfl, Hall⟩ := hrel
    by_cases hlt : k < s.size
    · have hcb : s[k].toNat < 256 := s[k].toNat_lt
      have HP := Lib.hid (fun w => ref_plain s[k].toNat w hcb)
      by_cases hpl : plainB s[k].toNat = false
      · have H := Lib.hid (HB.out.trans <| all_at (fun c => plainB c.toNat) s k hlt hpl)
        rw [hpl] at HP
        clear hpl Hall
        go_wp2_with fail
        refine (HP.out _).mono ?_
        rintro e w' ⟨rfl, rfl⟩
        go_wp2_with fail
        go_ret
        exact ⟨ret_bool H.out.symm, rfl⟩
      · have hpl' : plainB s[k].toNat = true := by simpa using hpl
        have H := Lib.hid (upto_step (fun c => plainB c.toNat) s k Hall.out hlt hpl')
        rw [hpl'] at HP
        clear hpl hpl' Hall
        go_wp2_with fail
        refine (HP.out _).mono ?_
        rintro e w' ⟨rfl, rfl⟩
        go_wp2_with fail
        go_round
        case rel => exact ⟨k + 1, by omega, by go_num, H⟩
        case measure => simp [intOf]; omega
    · have H := Lib.hid (HB.out.trans <| all_of (fun c => plainB c.toNat) s (fun j hj => Hall.out j (by omega) hj))
      clear Hall
      go_wp2_with fail
      go_ret
      exact ⟨ret_bool H.out.symm, rfl⟩

theorem named_cases (n : Nat) : (97 ≤ n ∧ n ≤ 122 ∧ namedN n = true) ∨ (48 ≤ n ∧ n ≤ 57 ∧ namedN n = true) ∨ (n = 45 ∧ namedN n = true) ∨ (n < 48 ∧ n ≠ 45 ∧ namedN n = false) ∨ (57 < n ∧ n < 97 ∧ namedN n = false) ∨ (122 < n ∧ namedN n = false) := by
  unfold namedN letN digN
  simp only [Bool.or_eq_true, Bool.and_eq_true, decide_eq_true_eq, beq_iff_eq, Bool.or_eq_false_iff, Bool.and_eq_false_iff, decide_eq_false_iff_not, beq_eq_false_iff_ne]
  omega
theorem nameL_not (l : List UInt8) (h : l.all (fun c => namedN c.toNat) = false) : nameL l = false := by unfold nameL; rw [h, Bool.and_false]
theorem nameL_len (s : ByteArray) (h : s.data.toList.all (fun c => namedN c.toNat) = true) : nameL s.data.toList = (decide (1 ≤ s.size) && decide (s.size ≤ 32)) := by
  unfold nameL
  rw [h, Bool.and_true, size_len]
  congr 1
  cases hl : s.data.toList with
  | nil => rw [decide_eq_false (by rw [← size_len, hl]; decide)]; rfl
  | cons a t => rw [decide_eq_true (by rw [← size_len, hl]; simp)]; rfl

set_option maxHeartbeats 2000000 in
theorem ref_name (s : ByteArray) (w : World) (hs : s.size ≤ 9223372036854775807) :
    Calls Tryz.prog 28 #[.string s] w fun e w' => e = .returned (.bool (nameL s.data.toList)) ∧ w' = w := by
  obtain ⟨B, hB⟩ : ∃ B, B = nameL s.data.toList := ⟨_, rfl⟩
  rw [← hB]
  have HB := Lib.hid hB
  clear hB
  go_enter Tryz.func28, Tryz.ntmps28
  go_wp2_with fail
  go_loop [3] (fun j => ∃ k : Nat, k ≤ s.size ∧ j = .int .i64 k ∧ Hid (∀ j, j < k → ∀ hj : j < s.size, namedN (s[j]'hj).toNat = true)) (fun j => s.size - (intOf j).toNat)
  case atStart => exact ⟨0, by omega, rfl, Lib.hid (fun j hj => by omega)⟩
  case round =>
    obtain ⟨k, hk, rfl, Hall⟩ := hrel
    by_cases hlt : k < s.size
    · have hN : ∀ hq : namedN s[k].toNat = true, Hid (∀ j, j < k + 1 → ∀ hj : j < s.size, namedN (s[j]'hj).toNat = true) := fun hq => Lib.hid (upto_step (fun c => namedN c.toNat) s k Hall.out hlt hq)
      have hF : ∀ hq : namedN s[k].toNat = false, Hid (B = false) := fun hq => Lib.hid (HB.out.trans (nameL_not _ (all_at (fun c => namedN c.toNat) s k hlt hq)))
      have hcase := named_cases s[k].toNat
      clear Hall HB
      rcases hcase with ⟨c1, c2, hq⟩ | ⟨c1, c2, hq⟩ | ⟨c1, hq⟩ | ⟨c1, c2, hq⟩ | ⟨c1, c2, hq⟩ | ⟨c1, hq⟩
      · have H := hN hq
        have t1 : decide ((s[k].toNat : Int) > 122) = false := by simp; omega
        have t2 : decide ((s[k].toNat : Int) < 97) = false := by simp; omega
        clear hN hF hq
        go_wp2_with fail
        go_round
        case rel => exact ⟨k + 1, by omega, by go_num, H⟩
        case measure => simp [intOf]; omega
      · have H := hN hq
        have t1 : decide ((s[k].toNat : Int) < 97) = true := by simp; omega
        have t2 : decide ((s[k].toNat : Int) < 48) = false := by simp; omega
        have t3 : decide ((s[k].toNat : Int) > 57) = false := by simp; omega
        clear hN hF hq
        go_wp2_with fail
        go_round
        case rel => exact ⟨k + 1, by omega, by go_num, H⟩
        case measure => simp [intOf]; omega
      · have H := hN hq
        have t1 : decide ((s[k].toNat : Int) < 97) = true := by simp; omega
        have t2 : decide ((s[k].toNat : Int) < 48) = true := by simp; omega
        have t3 : ((s[k].toNat : Int) != 45) = false := by rw [c1]; rfl
        clear hN hF hq
        go_wp2_with fail
        go_round
        case rel => exact ⟨k + 1, by omega, by go_num, H⟩
        case measure => simp [intOf]; omega
      · have H := hF hq
        have t1 : decide ((s[k].toNat : Int) < 97) = true := by simp; omega
        have t2 : decide ((s[k].toNat : Int) < 48) = true := by simp; omega
        have t3 : ((s[k].toNat : Int) != 45) = true := by rw [bne_iff_ne]; omega
        clear hN hF hq
        go_wp2_with fail
        go_ret
        exact ⟨ret_bool H.out.symm, rfl⟩
      · have H := hF hq
        have t1 : decide ((s[k].toNat : Int) < 97) = true := by simp; omega
        have t2 : decide ((s[k].toNat : Int) < 48) = false := by simp; omega
        have t3 : ((s[k].toNat : Int) != 45) = true := by rw [bne_iff_ne]; omega
        have t4 : decide ((s[k].toNat : Int) > 57) = true := by simp; omega
        clear hN hF hq
        go_wp2_with fail
        go_ret
        exact ⟨ret_bool H.out.symm, rfl⟩
      · have H := hF hq
        have t1 : decide ((s[k].toNat : Int) < 97) = false := by simp; omega
        have t2 : decide ((s[k].toNat : Int) < 48) = false := by simp; omega
        have t3 : ((s[k].toNat : Int) != 45) = true := by rw [bne_iff_ne]; omega
        have t4 : decide ((s[k].toNat : Int) > 57) = true := by simp; omega
        have t5 : decide ((s[k].toNat : Int) > 122) = true := by simp; omega
        clear hN hF hq
        go_wp2_with fail
        go_ret
        exact ⟨ret_bool H.out.symm, rfl⟩
    · have h := HB.out.trans (nameL_len s (all_of (fun c => namedN c.toNat) s (fun j hj => Hall.out j (by omega) hj)))
      by_cases h1 : s.size = 0
      · have H : Hid (B = false) := Lib.hid (by rw [h, decide_eq_false (by omega)]; rfl)
        clear h Hall HB
        go_wp2_with fail
        go_ret
        exact ⟨ret_bool H.out.symm, rfl⟩
      · by_cases h2 : s.size ≤ 32
        · have H : Hid (B = true) := Lib.hid (by rw [h, decide_eq_true (show 1 ≤ s.size by omega), decide_eq_true h2]; rfl)
          have t1 : decide ((s.size : Int) ≤ 32) = true := by simp; omega
          have t2 : 1 ≤ s.size := by omega
          clear h Hall HB
          go_wp2_with fail
          go_ret
          exact ⟨ret_bool H.out.symm, rfl⟩
        · have H : Hid (B = false) := Lib.hid (by rw [h, decide_eq_false h2, Bool.and_false])
          have t1 : decide ((s.size : Int) ≤ 32) = false := by simp; omega
          have t2 : 1 ≤ s.size := by omega
          clear h Hall HB
          go_wp2_with fail
          go_ret
          exact ⟨ret_bool H.out.symm, rfl⟩
end Go.Proofs.YtnfadmdndefanaaGreatDoor
