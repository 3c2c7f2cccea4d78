/- What mark of package jtext returns. -/
import Derived.Test.YtjkhihdghjoneaaDoorJPair
namespace Go.Proofs.YtjkhihdghjoneaaDoor
open Go.RowKit Go.Lib

theorem getD_at (s : ByteArray) (k : Nat) (h : k < s.size) : s.data.toList.getD k 0 = s[k] := by
  rw [List.getD_eq_getElem?_getD, List.getElem?_eq_getElem (by rw [size_len]; exact h)]; rfl
set_option maxRecDepth 100000 in
theorem mark (s : ByteArray) (w : World) (hs : s.size ≤ 1000000) :
    Calls Tryd.prog 22 #[.string s] w fun e w' => e = .returned (.tuple #[.int .i32 ((markP s.data.toList).1 : Nat), .int .i64 ((markP s.data.toList).2.1 : Nat), .int .i64 ((markP s.data.toList).2.2 : Nat)]) ∧ w' = w := by
  have cP := pair s w hs
  by_cases h2 : s.size < 2
  · have HA : Hid (markP s.data.toList = (0, 0, 3)) := Lib.hid (by unfold markP; rw [if_pos (by rw [size_len]; exact h2)])
    go_enter Tryd.func22, Tryd.ntmps22
    have t1 : decide ((s.size : Int) < 2) = true := decide_eq_true (by omega)
    go_wp2_with fail
    go_ret3
    exact ⟨by rw [HA.out]; rfl, rfl⟩
  have t0 : decide ((s.size : Int) < 2) = false := decide_eq_false (by omega)
  have h1 : 1 < s.size := by omega
  obtain ⟨N, hN⟩ : ∃ N, s[1].toNat = N := ⟨_, rfl⟩
  have hmk : markP s.data.toList = if escN N ≠ 0 then (escN N, 2, 0) else pairP s.data.toList := by
    unfold markP; rw [if_neg (by rw [size_len]; exact h2), getD_at s 1 h1, hN]
  rw [hmk]
  clear hmk
  by_cases a34 : N = 34
  · subst a34
    have HA : Hid (escN 34 = 34) := Lib.hid (by decide)
    rw [HA.out, if_pos (by decide)]
    go_enter Tryd.func22, Tryd.ntmps22
    go_wp2_with fail
    go_ret3
    exact ⟨rfl, rfl⟩
  by_cases a92 : N = 92
  · subst a92
    have HA : Hid (escN 92 = 92) := Lib.hid (by decide)
    rw [HA.out, if_pos (by decide)]
    go_enter Tryd.func22, Tryd.ntmps22
    go_wp2_with fail
    go_ret3
    exact ⟨rfl, rfl⟩
  by_cases a47 : N = 47
  · subst a47
    have HA : Hid (escN 47 = 47) := Lib.hid (by decide)
    rw [HA.out, if_pos (by decide)]
    go_enter Tryd.func22, Tryd.ntmps22
    go_wp2_with fail
    go_ret3
    exact ⟨rfl, rfl⟩
  by_cases a98 : N = 98
  · subst a98
    have HA : Hid (escN 98 = 8) := Lib.hid (by decide)
    rw [HA.out, if_pos (by decide)]
    go_enter Tryd.func22, Tryd.ntmps22
    go_wp2_with fail
    go_ret3
    exact ⟨rfl, rfl⟩
  by_cases a102 : N = 102
  · subst a102
    have HA : Hid (escN 102 = 12) := Lib.hid (by decide)
    rw [HA.out, if_pos (by decide)]
    go_enter Tryd.func22, Tryd.ntmps22
    go_wp2_with fail
    go_ret3
    exact ⟨rfl, rfl⟩
  by_cases a110 : N = 110
  · subst a110
    have HA : Hid (escN 110 = 10) := Lib.hid (by decide)
    rw [HA.out, if_pos (by decide)]
    go_enter Tryd.func22, Tryd.ntmps22
    go_wp2_with fail
    go_ret3
    exact ⟨rfl, rfl⟩
  by_cases a114 : N = 114
  · subst a114
    have HA : Hid (escN 114 = 13) := Lib.hid (by decide)
    rw [HA.out, if_pos (by decide)]
    go_enter Tryd.func22, Tryd.ntmps22
    go_wp2_with fail
    go_ret3
    exact ⟨rfl, rfl⟩
  by_cases a116 : N = 116
  · subst a116
    have HA : Hid (escN 116 = 9) := Lib.hid (by decide)
    rw [HA.out, if_pos (by decide)]
    go_enter Tryd.func22, Tryd.ntmps22
    go_wp2_with fail
    go_ret3
    exact ⟨rfl, rfl⟩
  have HE : escN N = 0 := by
    unfold escN
    rw [if_neg (by omega), if_neg a98, if_neg a102, if_neg a110, if_neg a114, if_neg a116]
  rw [HE, if_neg (by decide)]
  have t34 : ((N : Int) == 34) = false := by rw [beq_eq_false_iff_ne]; omega
  have t92 : ((N : Int) == 92) = false := by rw [beq_eq_false_iff_ne]; omega
  have t47 : ((N : Int) == 47) = false := by rw [beq_eq_false_iff_ne]; omega
  have t98 : ((N : Int) == 98) = false := by rw [beq_eq_false_iff_ne]; omega
  have t102 : ((N : Int) == 102) = false := by rw [beq_eq_false_iff_ne]; omega
  have t110 : ((N : Int) == 110) = false := by rw [beq_eq_false_iff_ne]; omega
  have t114 : ((N : Int) == 114) = false := by rw [beq_eq_false_iff_ne]; omega
  have t116 : ((N : Int) == 116) = false := by rw [beq_eq_false_iff_ne]; omega
  clear HE
  go_enter Tryd.func22, Tryd.ntmps22
  go_wp2_with fail
  refine cP.mono ?_
  rintro e W' ⟨rfl, rfl⟩
  go_wp2_with fail
  go_ret3
  exact ⟨rfl, rfl⟩
end Go.Proofs.YtjkhihdghjoneaaDoor
