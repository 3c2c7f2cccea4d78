/- What code of package jtext returns: the walk. -/
import Derived.Test.YtjkhihdghjoneaaDoorJCode
namespace Go.Proofs.YtjkhihdghjoneaaDoor
open Go.RowKit Go.Lib

theorem drop_cons (s : ByteArray) (k : Nat) (h : k < s.size) : s.data.toList.drop k = s[k] :: s.data.toList.drop (k + 1) := by
  rw [List.drop_eq_getElem_cons (by rw [size_len]; exact h)]; rfl
theorem hexI_eq (c : UInt8) : hexI c = ((hexV c).getD 0 : Nat) := by unfold hexI; cases hexV c <;> rfl
theorem hexG_lt (c : UInt8) : (hexV c).getD 0 < 16 := by
  cases h : hexV c with
  | none => decide
  | some d => exact hexV_lt c d h

set_option maxRecDepth 100000 in
theorem code (s : ByteArray) (w : World) (hs : s.size ≤ 1000000) :
    Calls Tryd.prog 32 #[.string s] w fun e w' => e = .returned (.tuple #[.int .i32 ((codeP s.data.toList).1 : Nat), .int .i64 ((codeP s.data.toList).2 : Nat)]) ∧ w' = w := by
  obtain ⟨ANS, hANS⟩ : ∃ ANS, codeP s.data.toList = ANS := ⟨_, rfl⟩
  have HA := cF_code s.data.toList
  rw [hANS] at HA ⊢
  go_enter Tryd.func32, Tryd.ntmps32
  go_wp2_with fail
  go_loopg [4, 8] 6 (fun gk s4 s8 wx => wx = w ∧ ∃ (k c : Nat), s4 = .int .i32 (c : Int) ∧ s8 = .int .i64 (k : Int) ∧ Hid (cF (6 - k) k c (s.data.toList.drop k) = ANS) ∧ Hid (c < 16 ^ (k - 2)) ∧ 6 ≤ k + gk ∧ k ≤ 6 ∧ k ≤ s.size)
  case atStart =>
    exact ⟨rfl, 0, 0, rfl, rfl, Lib.hid (by rw [List.drop_zero]; exact HA), Lib.hid (by decide), by omega, by omega, by omega⟩
  case round =>
    obtain ⟨rfl, k, c, rfl, rfl, HS, HC, hfu, hk6, hks⟩ := hrel
    by_cases hk : k < 6
    · obtain ⟨g', rfl⟩ : ∃ g', gk = g' + 1 := ⟨gk - 1, by omega⟩
      have tk : decide ((k : Int) < 6) = true := decide_eq_true (by omega)
      by_cases he : k = s.size
      · have HR : Hid (ANS = (0, 3)) := Lib.hid (by
          rw [← HS.out, he, ← size_len, List.drop_length]
          rw [size_len, ← he]
          obtain ⟨n, hn⟩ : ∃ n, 6 - k = n + 1 := ⟨5 - k, by omega⟩
          rw [hn]; rfl)
        have te : ((k : Int) == (s.size : Int)) = true := by rw [beq_iff_eq]; omega
        clear HS HC
        go_wp2_with fail
        go_ret2
        exact ⟨by rw [HR.out]; rfl, rfl⟩
      · have hlt : k < s.size := by omega
        have te : ((k : Int) == (s.size : Int)) = false := by rw [beq_eq_false_iff_ne]; omega
        have cD := digit s[k] wr
        rw [hexI_eq] at cD
        have hdl := hexG_lt s[k]
        have hcut := drop_cons s k hlt
        have hc : c < 4096 := Nat.lt_of_lt_of_le HC.out (Nat.pow_le_pow_right (n := 16) (by decide) (show k - 2 ≤ 3 by omega))
        have hstep : (if (k = 0 ∧ s[k] ≠ 92) ∨ (k = 1 ∧ s[k] ≠ 117) ∨ (1 < k ∧ hexV s[k] = none) then (0, 4) else cF (5 - k) (k + 1) (if 1 < k then c * 16 + (hexV s[k]).getD 0 else c) (s.data.toList.drop (k + 1))) = ANS := by
          rw [← HS.out, hcut]
          obtain ⟨n, hn⟩ : ∃ n, 5 - k = n := ⟨_, rfl⟩
          rw [show 6 - k = n + 1 by omega, hn]; rfl
        have hc0 := HC.out
        clear HS HC hcut
        obtain ⟨b, hb⟩ : ∃ b, s[k] = b := ⟨_, rfl⟩
        rw [hb] at cD hdl hstep
        by_cases k0 : k = 0
        · subst k0
          have hc00 : c = 0 := by have : c < 1 := hc0; omega
          subst hc00
          by_cases hbb : b = 92
          · subst hbb
            have HR : Hid (cF 5 1 0 (s.data.toList.drop 1) = ANS) := Lib.hid (by
              rw [if_neg (by decide)] at hstep; exact hstep)
            clear hstep
            go_wp2_with fail
            refine cD.mono ?_
            rintro e W' ⟨rfl, rfl⟩
            go_wp2_with fail
            go_roundg g'
            case measure => omega
            case rel => exact ⟨rfl, 1, 0, rfl, rfl, HR, Lib.hid (by decide), by omega, by omega, by omega⟩
          · have HR : Hid (ANS = (0, 4)) := Lib.hid (by
              rw [if_pos (.inl ⟨rfl, hbb⟩)] at hstep; exact hstep.symm)
            have t1 : ((b.toNat : Int) != 92) = true := by
              rw [bne_iff_ne]; intro e; exact hbb (UInt8.toNat_inj.1 (show b.toNat = 92 by omega))
            clear hstep
            go_wp2_with fail
            refine cD.mono ?_
            rintro e W' ⟨rfl, rfl⟩
            go_wp2_with fail
            go_ret2
            exact ⟨by rw [HR.out]; rfl, rfl⟩
        · by_cases k1 : k = 1
          · subst k1
            have hc00 : c = 0 := by have : c < 1 := hc0; omega
            subst hc00
            by_cases hbb : b = 117
            · subst hbb
              have HR : Hid (cF 4 2 0 (s.data.toList.drop 2) = ANS) := Lib.hid (by
                rw [if_neg (by decide)] at hstep; exact hstep)
              clear hstep
              go_wp2_with fail
              refine cD.mono ?_
              rintro e W' ⟨rfl, rfl⟩
              go_wp2_with fail
              go_roundg g'
              case measure => omega
              case rel => exact ⟨rfl, 2, 0, rfl, rfl, HR, Lib.hid (by decide), by omega, by omega, by omega⟩
            · have HR : Hid (ANS = (0, 4)) := Lib.hid (by
                rw [if_pos (.inr (.inl ⟨rfl, hbb⟩))] at hstep; exact hstep.symm)
              have t1 : ((b.toNat : Int) != 117) = true := by
                rw [bne_iff_ne]; intro e; exact hbb (UInt8.toNat_inj.1 (show b.toNat = 117 by omega))
              clear hstep
              go_wp2_with fail
              refine cD.mono ?_
              rintro e W' ⟨rfl, rfl⟩
              go_wp2_with fail
              go_ret2
              exact ⟨by rw [HR.out]; rfl, rfl⟩
          · have k2 : 1 < k := by omega
            have tk0 : ((k : Int) == 0) = false := by rw [beq_eq_false_iff_ne]; omega
            have tk1 : ((k : Int) == 1) = false := by rw [beq_eq_false_iff_ne]; omega
            have tk2 : decide ((k : Int) > 1) = true := decide_eq_true (by omega)
            have hor := or16 c _ hc hdl
            cases hx : hexV b with
            | none =>
              have HR : Hid (ANS = (0, 4)) := Lib.hid (by
                rw [if_pos (.inr (.inr ⟨k2, hx⟩))] at hstep; exact hstep.symm)
              rw [hx] at cD
              clear hstep hor hdl
              go_wp2_with fail
              refine cD.mono ?_
              rintro e W' ⟨rfl, rfl⟩
              go_wp2_with fail
              go_ret2
              exact ⟨by rw [HR.out]; rfl, rfl⟩
            | some d =>
              have HR : Hid (cF (6 - (k + 1)) (k + 1) (c * 16 + d) (s.data.toList.drop (k + 1)) = ANS) := Lib.hid (by
                rw [if_neg (fun h => h.elim (fun h => by omega) (fun h => h.elim (fun h => by omega) (fun h => absurd h.2 (by rw [hx]; simp)))), if_pos k2, hx] at hstep
                rw [show 6 - (k + 1) = 5 - k by omega]; exact hstep)
              rw [hx] at cD hdl hor
              change bits .or .i32 ((c : Int) * 16) (d : Int) = ((c * 16 + d : Nat) : Int) at hor
              have HC2 : Hid (c * 16 + d < 16 ^ (k + 1 - 2)) := Lib.hid (by
                have e : 16 ^ (k + 1 - 2) = 16 ^ (k - 2) * 16 := by rw [show k + 1 - 2 = (k - 2) + 1 by omega, Nat.pow_succ]
                have : d < 16 := hdl
                rw [e]; omega)
              change Calls _ _ _ _ fun e w' => e = .returned (.tuple #[.int .i32 (d : Int), .bool true]) ∧ _ at cD
              clear hstep hdl
              go_wp2_with fail
              refine cD.mono ?_
              rintro e W' ⟨rfl, rfl⟩
              go_wp2_with fail
              go_roundg g'
              case measure => omega
              case rel => exact ⟨rfl, k + 1, c * 16 + d, rfl, by simp, HR, HC2, by omega, by omega, by omega⟩
    · obtain rfl : k = 6 := by omega
      have HR : Hid (ANS = (c, 0)) := Lib.hid HS.out.symm
      clear HS HC
      go_wp2_with fail
      go_ret2
      exact ⟨by rw [HR.out]; rfl, rfl⟩
end Go.Proofs.YtjkhihdghjoneaaDoor
