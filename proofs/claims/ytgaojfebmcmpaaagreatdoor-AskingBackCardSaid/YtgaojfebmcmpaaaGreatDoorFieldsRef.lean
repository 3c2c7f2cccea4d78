/- What name, plain, small and gap of the reference of fields return. -/
import Derived.Test.YtgaojfebmcmpaaaGreatDoorFieldsRefPl
namespace Go.Proofs.YtgaojfebmcmpaaaGreatDoor
open Go.RowKit
theorem ref_small (c : Nat) (w : World) (hc : c < 256) : Calls Tryz.prog 151 #[.int .u8 (c : Int)] w fun e w' => e = .returned (.int .u8 (smallN c : Nat)) ∧ w' = w := by
  by_cases h1 : c < 65
  · have H : Hid (smallN c = c) := Lib.hid (if_neg (by omega))
    have t : decide ((c : Int) ≥ 65) = false := by simp; omega
    go_enter Tryz.func151, Tryz.ntmps151
    go_wp2_with fail
    go_ret
    exact ⟨by rw [H.out]; rfl, rfl⟩
  · by_cases h2 : 90 < c
    · have H : Hid (smallN c = c) := Lib.hid (if_neg (by omega))
      have t : decide ((c : Int) ≤ 90) = false := by simp; omega
      go_enter Tryz.func151, Tryz.ntmps151
      go_wp2_with fail
      go_ret
      exact ⟨by rw [H.out]; rfl, rfl⟩
    · have H : Hid (smallN c = c + 32) := Lib.hid (if_pos (by omega))
      have t : decide ((c : Int) ≤ 90) = true := by simp; omega
      have h3 : 65 ≤ c := by omega
      go_enter Tryz.func151, Tryz.ntmps151
      go_wp2_with fail
      go_ret
      refine ⟨ret_int ?_, rfl⟩
      rw [H.out]; omega

theorem ref_gap (c : UInt8) (w : World) : Calls Tryz.prog 139 #[.int .u8 (c.toNat : Int)] w fun e w' => e = .returned (.bool (gapB c)) ∧ w' = w := by
  by_cases h1 : c = 32
  · subst h1
    go_enter Tryz.func139, Tryz.ntmps139
    go_wp2_with fail
    go_ret
    exact ⟨rfl, rfl⟩
  · have t1 : ((c.toNat : Int) == 32) = false := by
      rw [beq_eq_false_iff_ne]; intro e; exact h1 (UInt8.toNat_inj.1 (by show _ = 32; omega))
    have H : Hid (gapB c = (c == 9)) := Lib.hid (by unfold gapB; rw [beq_eq_false_iff_ne.2 h1, Bool.false_or])
    by_cases h2 : c = 9
    · subst h2
      go_enter Tryz.func139, Tryz.ntmps139
      go_wp2_with fail
      go_ret
      exact ⟨rfl, rfl⟩
    · have t2 : ((c.toNat : Int) == 9) = false := by
        rw [beq_eq_false_iff_ne]; intro e; exact h2 (UInt8.toNat_inj.1 (by show _ = 9; omega))
      have H2 : Hid (gapB c = false) := Lib.hid (H.out.trans (beq_eq_false_iff_ne.2 h2))
      clear H h1 h2
      go_enter Tryz.func139, Tryz.ntmps139
      go_wp2_with fail
      go_ret
      exact ⟨ret_bool H2.out.symm, rfl⟩


set_option maxHeartbeats 1000000 in
theorem ref_fplain (s : ByteArray) (w : World) (hs : s.size ≤ 9223372036854775807) :
    Calls Tryz.prog 138 #[.string s] w fun e w' => e = .returned (.bool (s.data.toList.all (fun c => plainB c.toNat))) ∧ w' = w := by
  obtain ⟨B, hB⟩ : ∃ B, B = s.data.toList.all (fun c => plainB c.toNat) := ⟨_, rfl⟩
  rw [← hB]
  have HB := Lib.hid hB
  clear hB
  go_enter Tryz.func138, Tryz.ntmps138
  go_wp2_with fail
  go_loop [3] (fun j => ∃ k : Nat, k ≤ s.size ∧ j = .int .i64 k ∧ Hid (∀ j, j < k → ∀ hj : j < s.size, plainB (s[j]'hj).toNat = true)) (fun j => s.size - (intOf j).toNat)
  case atStart => exact ⟨0, by omega, rfl, Lib.hid (fun j hj => by omega)⟩
  case round =>
    obtain ⟨k, hk, rfl, Hall⟩ := hrel
    by_cases hlt : k < s.size
    · have hcb : s[k].toNat < 256 := s[k].toNat_lt
      have HP := Lib.hid (fun w => ref_plain s[k].toNat w hcb)
      by_cases hpl : plainB s[k].toNat = false
      · have H := Lib.hid (HB.out.trans <| all_at (fun c => plainB c.toNat) s k hlt hpl)
        rw [hpl] at HP
        clear hpl Hall
        go_wp2_with fail
        refine (HP.out _).mono ?_
        rintro e w' ⟨rfl, rfl⟩
        go_wp2_with fail
        go_ret
        exact ⟨ret_bool H.out.symm, rfl⟩
      · have hpl' : plainB s[k].toNat = true := by simpa using hpl
        have H := Lib.hid (upto_step (fun c => plainB c.toNat) s k Hall.out hlt hpl')
        rw [hpl'] at HP
        clear hpl hpl' Hall
        go_wp2_with fail
        refine (HP.out _).mono ?_
        rintro e w' ⟨rfl, rfl⟩
        go_wp2_with fail
        go_round
        case rel => exact ⟨k + 1, by omega, by go_num, H⟩
        case measure => simp [intOf]; omega
    · have H := Lib.hid (HB.out.trans <| all_of (fun c => plainB c.toNat) s (fun j hj => Hall.out j (by omega) hj))
      clear Hall
      go_wp2_with fail
      go_ret
      exact ⟨ret_bool H.out.symm, rfl⟩

set_option maxHeartbeats 2000000 in
theorem ref_name (s : ByteArray) (w : World) (hs : s.size ≤ 9223372036854775807) :
    Calls Tryz.prog 137 #[.string s] w fun e w' => e = .returned (.bool (nameL s.data.toList)) ∧ w' = w := by
  obtain ⟨B, hB⟩ : ∃ B, B = nameL s.data.toList := ⟨_, rfl⟩
  rw [← hB]
  have HB := Lib.hid hB
  clear hB
  go_enter Tryz.func137, Tryz.ntmps137
  go_wp2_with fail
  go_loop [3] (fun j => ∃ k : Nat, k ≤ s.size ∧ j = .int .i64 k ∧ Hid (∀ j, j < k → ∀ hj : j < s.size, namedN (s[j]'hj).toNat = true)) (fun j => s.size - (intOf j).toNat)
  case atStart => exact ⟨0, by omega, rfl, Lib.hid (fun j hj => by omega)⟩
  case round =>
    obtain ⟨k, hk, rfl, Hall⟩ := hrel
    by_cases hlt : k < s.size
    · have hN : ∀ hq : namedN s[k].toNat = true, Hid (∀ j, j < k + 1 → ∀ hj : j < s.size, namedN (s[j]'hj).toNat = true) := fun hq => Lib.hid (upto_step (fun c => namedN c.toNat) s k Hall.out hlt hq)
      have hF : ∀ hq : namedN s[k].toNat = false, Hid (B = false) := fun hq => Lib.hid (HB.out.trans (nameL_not _ (all_at (fun c => namedN c.toNat) s k hlt hq)))
      have hcase := named_cases s[k].toNat
      clear Hall HB
      rcases hcase with ⟨c1, c2, hq⟩ | ⟨c1, c2, hq⟩ | ⟨c1, hq⟩ | ⟨c1, c2, hq⟩ | ⟨c1, c2, hq⟩ | ⟨c1, hq⟩
      · have H := hN hq
        have t1 : decide ((s[k].toNat : Int) > 122) = false := by simp; omega
        have t2 : decide ((s[k].toNat : Int) < 97) = false := by simp; omega
        clear hN hF hq
        go_wp2_with fail
        go_round
        case rel => exact ⟨k + 1, by omega, by go_num, H⟩
        case measure => simp [intOf]; omega
      · have H := hN hq
        have t1 : decide ((s[k].toNat : Int) < 97) = true := by simp; omega
        have t2 : decide ((s[k].toNat : Int) < 48) = false := by simp; omega
        have t3 : decide ((s[k].toNat : Int) > 57) = false := by simp; omega
        clear hN hF hq
        go_wp2_with fail
        go_round
        case rel => exact ⟨k + 1, by omega, by go_num, H⟩
        case measure => simp [intOf]; omega
      · have H := hN hq
        have t1 : decide ((s[k].toNat : Int) < 97) = true := by simp; omega
        have t2 : decide ((s[k].toNat : Int) < 48) = true := by simp; omega
        have t3 : ((s[k].toNat : Int) != 45) = false := by rw [c1]; rfl
        clear hN hF hq
        go_wp2_with fail
        go_round
        case rel => exact ⟨k + 1, by omega, by go_num, H⟩
        case measure => simp [intOf]; omega
      · have H := hF hq
        have t1 : decide ((s[k].toNat : Int) < 97) = true := by simp; omega
        have t2 : decide ((s[k].toNat : Int) < 48) = true := by simp; omega
        have t3 : ((s[k].toNat : Int) != 45) = true := by rw [bne_iff_ne]; omega
        clear hN hF hq
        go_wp2_with fail
        go_ret
        exact ⟨ret_bool H.out.symm, rfl⟩
      · have H := hF hq
        have t1 : decide ((s[k].toNat : Int) < 97) = true := by simp; omega
        have t2 : decide ((s[k].toNat : Int) < 48) = false := by simp; omega
        have t3 : ((s[k].toNat : Int) != 45) = true := by rw [bne_iff_ne]; omega
        have t4 : decide ((s[k].toNat : Int) > 57) = true := by simp; omega
        clear hN hF hq
        go_wp2_with fail
        go_ret
        exact ⟨ret_bool H.out.symm, rfl⟩
      · have H := hF hq
        have t1 : decide ((s[k].toNat : Int) < 97) = false := by simp; omega
        have t2 : decide ((s[k].toNat : Int) < 48) = false := by simp; omega
        have t3 : ((s[k].toNat : Int) != 45) = true := by rw [bne_iff_ne]; omega
        have t4 : decide ((s[k].toNat : Int) > 57) = true := by simp; omega
        have t5 : decide ((s[k].toNat : Int) > 122) = true := by simp; omega
        clear hN hF hq
        go_wp2_with fail
        go_ret
        exact ⟨ret_bool H.out.symm, rfl⟩
    · have h := HB.out.trans (nameL_len s (all_of (fun c => namedN c.toNat) s (fun j hj => Hall.out j (by omega) hj)))
      by_cases h1 : s.size = 0
      · have H : Hid (B = false) := Lib.hid (by rw [h, decide_eq_false (by omega)]; rfl)
        clear h Hall HB
        go_wp2_with fail
        go_ret
        exact ⟨ret_bool H.out.symm, rfl⟩
      · by_cases h2 : s.size ≤ 32
        · have H : Hid (B = true) := Lib.hid (by rw [h, decide_eq_true (show 1 ≤ s.size by omega), decide_eq_true h2]; rfl)
          have t1 : decide ((s.size : Int) ≤ 32) = true := by simp; omega
          have t2 : 1 ≤ s.size := by omega
          clear h Hall HB
          go_wp2_with fail
          go_ret
          exact ⟨ret_bool H.out.symm, rfl⟩
        · have H : Hid (B = false) := Lib.hid (by rw [h, decide_eq_false h2, Bool.and_false])
          have t1 : decide ((s.size : Int) ≤ 32) = false := by simp; omega
          have t2 : 1 ≤ s.size := by omega
          clear h Hall HB
          go_wp2_with fail
          go_ret
          exact ⟨ret_bool H.out.symm, rfl⟩
end Go.Proofs.YtgaojfebmcmpaaaGreatDoor
