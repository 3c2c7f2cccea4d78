/- Plain laws for names and lines of fields. -/
import Derived.Test.YtgaojfebmcmpaaaGreatDoorFieldsWalk2
namespace Go.Proofs.YtgaojfebmcmpaaaGreatDoor
open Go.RowKit
theorem all_at (q : UInt8 → Bool) (s : ByteArray) (k : Nat) (h : k < s.size) (hq : q s[k] = false) : s.data.toList.all q = false := by
  rw [List.all_eq_false]
  exact ⟨s[k], List.getElem_mem (by rw [size_len]; exact h), by simp [hq]⟩
theorem all_of (q : UInt8 → Bool) (s : ByteArray) (h : ∀ j (hj : j < s.size), q s[j] = true) : s.data.toList.all q = true := by
  rw [List.all_eq_true]
  intro c hc
  obtain ⟨k, hk, rfl⟩ := List.getElem_of_mem hc
  exact h k (by rw [← size_len]; exact hk)
theorem upto_step (q : UInt8 → Bool) (s : ByteArray) (k : Nat) (h : ∀ j, j < k → ∀ hj : j < s.size, q (s[j]'hj) = true) (hk : k < s.size) (hq : q s[k] = true) : ∀ j, j < k + 1 → ∀ hj : j < s.size, q (s[j]'hj) = true := by
  intro j hj hjs
  by_cases e : j = k
  · subst e; exact hq
  · exact h j (by omega) hjs

theorem named_cases (n : Nat) : (97 ≤ n ∧ n ≤ 122 ∧ namedN n = true) ∨ (48 ≤ n ∧ n ≤ 57 ∧ namedN n = true) ∨ (n = 45 ∧ namedN n = true) ∨ (n < 48 ∧ n ≠ 45 ∧ namedN n = false) ∨ (57 < n ∧ n < 97 ∧ namedN n = false) ∨ (122 < n ∧ namedN n = false) := by
  unfold namedN letN digN
  simp only [Bool.or_eq_true, Bool.and_eq_true, decide_eq_true_eq, beq_iff_eq, Bool.or_eq_false_iff, Bool.and_eq_false_iff, decide_eq_false_iff_not, beq_eq_false_iff_ne]
  omega
theorem nameL_not (l : List UInt8) (h : l.all (fun c => namedN c.toNat) = false) : nameL l = false := by unfold nameL; rw [h, Bool.and_false]
theorem nameL_len (s : ByteArray) (h : s.data.toList.all (fun c => namedN c.toNat) = true) : nameL s.data.toList = (decide (1 ≤ s.size) && decide (s.size ≤ 32)) := by
  unfold nameL
  rw [h, Bool.and_true, size_len]
  congr 1
  cases hl : s.data.toList with
  | nil => rw [decide_eq_false (by rw [← size_len, hl]; decide)]; rfl
  | cons a t => rw [decide_eq_true (by rw [← size_len, hl]; simp)]; rfl
end Go.Proofs.YtgaojfebmcmpaaaGreatDoor
