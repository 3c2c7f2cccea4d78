/- What Path and Host of the reference of asking return. -/
import Derived.Test.YtgaojfebmcmpaaaGreatDoorAskWalk
namespace Go.Proofs.YtgaojfebmcmpaaaGreatDoor
open Go.RowKit

theorem all_iff (l : List UInt8) (p : Nat → Bool) (h : ∀ j (hj : j < l.length), p l[j].toNat = true) : l.all (fun c => p c.toNat) = true := by
  rw [List.all_eq_true]
  intro c hc
  obtain ⟨j, hj, rfl⟩ := List.getElem_of_mem hc
  exact h j hj
theorem all_not (l : List UInt8) (p : Nat → Bool) (j : Nat) (hj : j < l.length) (h : p l[j].toNat = false) : l.all (fun c => p c.toNat) = false := by
  rw [List.all_eq_false]
  exact ⟨l[j], List.getElem_mem hj, by rw [h]; decide⟩
theorem slash_iff (s : ByteArray) (h : 0 < s.size) : [47].isPrefixOf s.data.toList = (s[0] == 47) := by
  have := List.drop_eq_getElem_cons (l := s.data.toList) (i := 0) (by rw [size_len]; exact h)
  rw [List.drop_zero] at this
  rw [this]
  show ((47 : UInt8) == s[0] && true) = _
  rw [Bool.and_true, Bool.eq_iff_iff, beq_iff_eq, beq_iff_eq]
  exact ⟨fun e => e.symm, fun e => e.symm⟩
set_option maxRecDepth 100000 in
set_option maxHeartbeats 2000000 in
theorem ref_path (s : ByteArray) (w : World) (hs : s.size ≤ 9223372036854775807) :
    Calls Tryz.prog 73 #[.string s] w fun e w' => e = .returned (.bool (pathB s.data.toList)) ∧ w' = w := by
  obtain ⟨ANS, hANS⟩ : ∃ ANS, pathB s.data.toList = ANS := ⟨_, rfl⟩
  rw [hANS]
  have HANS := Lib.hid hANS
  clear hANS
  go_enter Tryz.func73, Tryz.ntmps73
  go_wp2_with fail
  go_loopg [3] s.size (fun gk s3 wx => ∃ k : Nat, s3 = .int .i64 (k : Int) ∧ wx = w ∧ k + gk = s.size ∧ Hid (∀ j (hj : j < s.data.toList.length), j < k → pathN s.data.toList[j].toNat = true))
  case atStart => exact ⟨0, by simp, rfl, by omega, Lib.hid (fun j hj h => absurd h (Nat.not_lt_zero _))⟩
  case round =>
    obtain ⟨k, rfl, rfl, hgk, HK⟩ := hrel
    by_cases hk : k < s.size
    · have tk : decide ((k : Int) < (s.size : Int)) = true := decide_eq_true (by omega)
      have hkl : k < s.data.toList.length := by rw [size_len]; exact hk
      have hge : s.data.toList[k] = s[k] := rfl
      by_cases hb : 33 ≤ s[k].toNat ∧ s[k].toNat ≤ 126
      · have t1 : decide ((s[k].toNat : Int) < 33) = false := decide_eq_false (by omega)
        have t2 : decide ((s[k].toNat : Int) > 126) = false := decide_eq_false (by omega)
        have HK2 : Hid (∀ j (hj : j < s.data.toList.length), j < k + 1 → pathN s.data.toList[j].toNat = true) := Lib.hid (fun j hj h => by
          by_cases e : j = k
          · subst e; rw [hge]; unfold pathN; rw [decide_eq_true hb.1, decide_eq_true hb.2]; rfl
          · exact HK.out j hj (by omega))
        obtain ⟨g', rfl⟩ : ∃ g', gk = g' + 1 := ⟨gk - 1, by omega⟩
        clear hge hb
        go_wp2_with fail
        go_roundg g'
        case measure => omega
        case rel => exact ⟨k + 1, by simp, rfl, by omega, HK2⟩
      · have HR : Hid (ANS = false) := Lib.hid (by
          rw [← HANS.out]; unfold pathB
          rw [all_not _ pathN k hkl (by
            rw [hge]; unfold pathN
            by_cases h1 : 33 ≤ s[k].toNat
            · rw [decide_eq_false (show ¬ s[k].toNat ≤ 126 from fun h => hb ⟨h1, h⟩), Bool.and_false]
            · rw [decide_eq_false h1]; rfl), Bool.and_false])
        by_cases h1 : s[k].toNat < 33
        · have t1 : decide ((s[k].toNat : Int) < 33) = true := decide_eq_true (by omega)
          clear hge hb
          go_wp2_with fail
          go_ret
          exact ⟨by rw [HR.out]; rfl, rfl⟩
        · have t1 : decide ((s[k].toNat : Int) < 33) = false := decide_eq_false (by omega)
          have t2 : decide ((s[k].toNat : Int) > 126) = true := decide_eq_true (by omega)
          clear hge hb
          go_wp2_with fail
          go_ret
          exact ⟨by rw [HR.out]; rfl, rfl⟩
    · obtain rfl : k = s.size := by omega
      have tk : decide ((s.size : Int) < (s.size : Int)) = false := decide_eq_false (by omega)
      have hall := all_iff s.data.toList pathN (fun j hj => HK.out j hj (by rw [size_len] at hj; exact hj))
      have hR : ANS = ([47].isPrefixOf s.data.toList && decide (s.size ≤ 64)) := by
        rw [← HANS.out]; unfold pathB; rw [hall, Bool.and_true, size_len]
      by_cases h0 : 0 < s.size
      · have t0 : decide ((s.size : Int) ≥ 1) = true := decide_eq_true (by omega)
        rw [slash_iff s h0] at hR
        by_cases h64 : s.size ≤ 64
        · have t64 : decide ((s.size : Int) ≤ 64) = true := decide_eq_true (by omega)
          rw [decide_eq_true h64, Bool.and_true] at hR
          have hq : ((s[0].toNat : Int) == 47) = ANS := by
            rw [hR, Bool.eq_iff_iff, beq_iff_eq, beq_iff_eq, ← UInt8.toNat_inj]
            exact ⟨fun h => by show _ = 47; omega, fun h => by have : s[0].toNat = 47 := h; omega⟩
          clear hR hall HK
          cases ANS
          all_goals
            go_wp2_with fail
            go_ret
            exact ⟨rfl, rfl⟩
        · have t64 : decide ((s.size : Int) ≤ 64) = false := decide_eq_false (by omega)
          rw [decide_eq_false h64, Bool.and_false] at hR
          have HR := Lib.hid hR
          clear hR hall HK
          go_wp2_with fail
          go_ret
          exact ⟨by rw [HR.out]; rfl, rfl⟩
      · have t0 : decide ((s.size : Int) ≥ 1) = false := decide_eq_false (by omega)
        have HR : Hid (ANS = false) := Lib.hid (by
          have hn : s.data.toList = [] := List.length_eq_zero_iff.1 (by rw [size_len]; omega)
          rw [hR, hn]; rfl)
        clear hR hall HK
        go_wp2_with fail
        go_ret
        exact ⟨by rw [HR.out]; rfl, rfl⟩
theorem dec_lt (x k : Nat) (a : Bool) (h : decide (k ≤ x) = a) : decide ((x : Int) < (k : Int)) = !a := by
  rw [← h, ← decide_not]; exact decide_eq_decide.2 (by omega)
theorem dec_gt (x k : Nat) (a : Bool) (h : decide (x ≤ k) = a) : decide ((x : Int) > (k : Int)) = !a := by
  rw [← h, ← decide_not]; exact decide_eq_decide.2 (by omega)
theorem bne_cast (x k : Nat) (a : Bool) (h : (x == k) = a) : ((x : Int) != (k : Int)) = !a := by
  rw [← beq_cast x k a h]; rfl
set_option maxRecDepth 100000 in
set_option maxHeartbeats 16000000 in
theorem ref_host (s : ByteArray) (w : World) (hs : s.size ≤ 9223372036854775807) :
    Calls Tryz.prog 68 #[.string s] w fun e w' => e = .returned (.bool (hostB s.data.toList)) ∧ w' = w := by
  obtain ⟨ANS, hANS⟩ : ∃ ANS, hostB s.data.toList = ANS := ⟨_, rfl⟩
  rw [hANS]
  have HANS := Lib.hid hANS
  clear hANS
  go_enter Tryz.func68, Tryz.ntmps68
  go_wp2_with fail
  go_loopg [3] s.size (fun gk s3 wx => ∃ k : Nat, s3 = .int .i64 (k : Int) ∧ wx = w ∧ k + gk = s.size ∧ Hid (∀ j (hj : j < s.data.toList.length), j < k → hostN s.data.toList[j].toNat = true))
  case atStart => exact ⟨0, by simp, rfl, by omega, Lib.hid (fun j hj h => absurd h (Nat.not_lt_zero _))⟩
  case round =>
    obtain ⟨k, rfl, rfl, hgk, HK⟩ := hrel
    by_cases hk : k < s.size
    · have tk : decide ((k : Int) < (s.size : Int)) = true := decide_eq_true (by omega)
      have hkl : k < s.data.toList.length := by rw [size_len]; exact hk
      have hge : s.data.toList[k] = s[k] := rfl
      obtain ⟨g', rfl⟩ : ∃ g', gk = g' + 1 := ⟨gk - 1, by omega⟩
      have HG : Hid (hostN s[k].toNat = true → ∀ j (hj : j < s.data.toList.length), j < k + 1 → hostN s.data.toList[j].toNat = true) := Lib.hid (fun hb j hj h => by
        by_cases e : j = k
        · subst e; rw [hge]; exact hb
        · exact HK.out j hj (by omega))
      have HF : Hid (hostN s[k].toNat = false → ANS = false) := Lib.hid (fun hb => by
        rw [← HANS.out]; unfold hostB
        rw [all_not _ hostN k hkl (by rw [hge]; exact hb), Bool.and_false])
      clear hge
      cases h1 : decide (97 ≤ s[k].toNat) <;> cases h2 : decide (s[k].toNat ≤ 122) <;> cases h3 : decide (48 ≤ s[k].toNat) <;> cases h4 : decide (s[k].toNat ≤ 57) <;> cases h5 : (s[k].toNat == 45) <;> cases h6 : (s[k].toNat == 46)
      all_goals
        have H := Lib.hid (hostN_of s[k].toNat _ _ _ _ _ _ h1 h2 h3 h4 h5 h6)
        have t1 : decide ((s[k].toNat : Int) < 97) = _ := dec_lt _ 97 _ h1
        have t2 : decide ((s[k].toNat : Int) > 122) = _ := dec_gt _ 122 _ h2
        have t3 : decide ((s[k].toNat : Int) < 48) = _ := dec_lt _ 48 _ h3
        have t4 : decide ((s[k].toNat : Int) > 57) = _ := dec_gt _ 57 _ h4
        have t5 : ((s[k].toNat : Int) != 45) = _ := bne_cast _ 45 _ h5
        have t6 : ((s[k].toNat : Int) != 46) = _ := bne_cast _ 46 _ h6
        simp only [Bool.not_false, Bool.not_true] at t1 t2 t3 t4 t5 t6
        clear h1 h2 h3 h4 h5 h6
        go_wp2_with fail
        first
          | (go_ret; exact ⟨by rw [HF.out (by rw [H.out]; rfl)]; rfl, rfl⟩)
          | skip
      all_goals
        go_roundg g'
        case measure => omega
        case rel => exact ⟨k + 1, by simp, rfl, by omega, Lib.hid (HG.out (by rw [H.out]; rfl))⟩
    · obtain rfl : k = s.size := by omega
      have tk : decide ((s.size : Int) < (s.size : Int)) = false := decide_eq_false (by omega)
      have hall := all_iff s.data.toList hostN (fun j hj => HK.out j hj (by rw [size_len] at hj; exact hj))
      have hR : ANS = (!s.data.toList.isEmpty && decide (s.size ≤ 32)) := by
        rw [← HANS.out]; unfold hostB; rw [hall, Bool.and_true, size_len]
      by_cases h0 : 0 < s.size
      · have t0 : decide ((s.size : Int) ≥ 1) = true := decide_eq_true (by omega)
        have hne : s.data.toList.isEmpty = false := by
          rw [List.isEmpty_eq_false_iff]; intro e; have := congrArg List.length e; rw [size_len, List.length_nil] at this; omega
        rw [hne] at hR
        by_cases h32 : s.size ≤ 32
        · have t32 : decide ((s.size : Int) ≤ 32) = true := decide_eq_true (by omega)
          rw [decide_eq_true h32] at hR
          have HR : Hid (ANS = true) := Lib.hid hR
          clear hR hall HK hne
          go_wp2_with fail
          go_ret
          exact ⟨by rw [HR.out]; rfl, rfl⟩
        · have t32 : decide ((s.size : Int) ≤ 32) = false := decide_eq_false (by omega)
          rw [decide_eq_false h32] at hR
          have HR : Hid (ANS = false) := Lib.hid hR
          clear hR hall HK hne
          go_wp2_with fail
          go_ret
          exact ⟨by rw [HR.out]; rfl, rfl⟩
      · have t0 : decide ((s.size : Int) ≥ 1) = false := decide_eq_false (by omega)
        have HR : Hid (ANS = false) := Lib.hid (by
          have hn : s.data.toList = [] := List.length_eq_zero_iff.1 (by rw [size_len]; omega)
          rw [hR, hn]; rfl)
        clear hR hall HK
        go_wp2_with fail
        go_ret
        exact ⟨by rw [HR.out]; rfl, rfl⟩
end Go.Proofs.YtgaojfebmcmpaaaGreatDoor
