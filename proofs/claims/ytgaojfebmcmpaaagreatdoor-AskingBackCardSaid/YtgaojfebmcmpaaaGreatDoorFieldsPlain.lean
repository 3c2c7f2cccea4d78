/- Plain functions for the fields of a head (no program in sight). -/
import Derived.Test.YtgaojfebmcmpaaaGreatDoorBs
import Derived.Lib.TrimUEq
import Derived.Shelf.GgClosure.StringsIndexFunc
namespace Go.Proofs.YtgaojfebmcmpaaaGreatDoor
open Go.RowKit

def digN (n : Nat) : Bool := decide (48 ≤ n) && decide (n ≤ 57)
def letN (n : Nat) : Bool := decide (97 ≤ n) && decide (n ≤ 122)
def namedN (n : Nat) : Bool := letN n || digN n || n == 45
def nameL (l : List UInt8) : Bool := !l.isEmpty && decide (l.length ≤ 32) && l.all (fun c => namedN c.toNat)
theorem digN_ge (n : Nat) (h : 128 ≤ n) : digN n = false := by unfold digN; simp; omega
theorem namedN_ge (n : Nat) (h : 128 ≤ n) : namedN n = false := by
  unfold namedN letN digN
  have : (n == 45) = false := by rw [beq_eq_false_iff_ne]; omega
  rw [this]; simp; omega

theorem decode_low (s : ByteArray) (pos : Nat) (h : pos < s.size) (h2 : s[pos].toNat < 128) : Utf8.decode s pos = (s[pos].toNat, 1) := by
  rw [Go.Lib.decode_N]
  have : s.data.toList.getD pos 0 = s[pos] := by
    rw [List.getD_eq_getElem?_getD, List.getElem?_eq_getElem (by rw [size_len]; exact h)]; rfl
  rw [this]
  exact Go.Lib.decodeN_ascii _ _ _ _ _ h2
theorem decodeN_high (n b0 b1 b2 b3 : Nat) (h : 128 ≤ b0) : 128 ≤ (Go.Lib.decodeN n b0 b1 b2 b3).1 := by
  unfold Go.Lib.decodeN
  rw [if_neg (by omega)]
  split
  · split
    · assumption
    · decide
  · split
    · split
      · rename_i h; show 128 ≤ _; omega
      · decide
    · split
      · split
        · rename_i h; show 128 ≤ _; omega
        · decide
      · decide
theorem decode_high (s : ByteArray) (pos : Nat) (h : pos < s.size) (h2 : 128 ≤ s[pos].toNat) : 128 ≤ (Utf8.decode s pos).1 := by
  rw [Go.Lib.decode_N]
  have : s.data.toList.getD pos 0 = s[pos] := by
    rw [List.getD_eq_getElem?_getD, List.getElem?_eq_getElem (by rw [size_len]; exact h)]; rfl
  rw [this]
  exact decodeN_high _ _ _ _ _ h2

theorem idx_all_from (p : Nat → Bool) (hp : ∀ x, 128 ≤ x → p x = true) (s : ByteArray) : ∀ (f pos : Nat), s.size ≤ pos + f →
    decide (Go.Lib.idxFuncFrom p true s f pos < 0) = (s.data.toList.drop pos).all (fun c => !p c.toNat) := by
  intro f
  induction f with
  | zero =>
    intro pos h
    rw [List.drop_eq_nil_of_le (by rw [size_len]; omega)]
    rfl
  | succ f ih =>
    intro pos h
    by_cases hlt : pos < s.size
    · have hd : s.data.toList.drop pos = s[pos] :: s.data.toList.drop (pos + 1) := List.drop_eq_getElem_cons (by rw [size_len]; exact hlt)
      unfold Go.Lib.idxFuncFrom
      rw [if_pos hlt, hd, List.all_cons]
      by_cases hb : s[pos].toNat < 128
      · rw [decode_low s pos hlt hb]
        by_cases hc : p s[pos].toNat = true
        · rw [if_pos hc, hc]
          have hn : ¬ ((pos : Int) < 0) := by omega
          rw [decide_eq_false hn]; rfl
        · rw [if_neg hc, ih (pos + 1) (by omega)]
          simp [hc]
      · have hn : ¬ ((pos : Int) < 0) := by omega
        rw [if_pos (hp _ (decode_high s pos hlt (by omega))), hp _ (show 128 ≤ s[pos].toNat by omega), decide_eq_false hn]; rfl
    · rw [List.drop_eq_nil_of_le (by rw [size_len]; omega), Go.Lib.idxFuncFrom_end _ _ _ _ _ hlt]
      rfl
theorem idx_all (p : Nat → Bool) (hp : ∀ x, 128 ≤ x → p x = true) (s : ByteArray) :
    decide (Go.Lib.idxFunc p true s < 0) = s.data.toList.all (fun c => !p c.toNat) :=
  idx_all_from p hp s s.size 0 (by omega)
end Go.Proofs.YtgaojfebmcmpaaaGreatDoor
