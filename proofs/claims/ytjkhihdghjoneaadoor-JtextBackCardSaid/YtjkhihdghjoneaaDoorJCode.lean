/- What code of package jtext returns. -/
import Derived.Test.YtjkhihdghjoneaaDoorJWalk2
import Derived.Laws.BitsAllLaws
namespace Go.Proofs.YtjkhihdghjoneaaDoor
open Go.RowKit Go.Lib

theorem or16 (c d : Nat) (hc : c < 4096) (hd : d < 16) : bits .or .i32 ((c : Int) * 16) (d : Int) = ((c * 16 + d : Nat) : Int) := by
  have e : ((c : Int) * 16) = ((c * 16 : Nat) : Int) := by omega
  have h : c * 16 ||| d = c * 16 + d := by
    have := Nat.shiftLeft_add_eq_or_of_lt (b := d) (i := 4) (by omega) c
    rw [Nat.shiftLeft_eq] at this; exact this.symm
  rw [e]
  unfold bits
  simp only [BitVec.ofInt_natCast]
  show IntKind.wrap .i32 (((BitVec.ofNat 32 (c * 16) ||| BitVec.ofNat 32 d)).toNat : Int) = _
  rw [BitVec.toNat_or, BitVec.toNat_ofNat, BitVec.toNat_ofNat, Nat.mod_eq_of_lt (by omega), Nat.mod_eq_of_lt (by omega), h]
  have hp : (2 : Int) ^ 32 = 4294967296 := by decide
  have hq : (2 : Int) ^ 31 = 2147483648 := by decide
  simp only [IntKind.wrap, IntKind.bits, IntKind.signed]
  simp
  omega

/-- the code from byte k on: c so far, n bytes to come -/
def cF : Nat → Nat → Nat → List UInt8 → Nat × Nat
  | 0, _, c, _ => (c, 0)
  | _ + 1, _, _, [] => (0, 3)
  | n + 1, k, c, b :: t => if (k = 0 ∧ b ≠ 92) ∨ (k = 1 ∧ b ≠ 117) ∨ (1 < k ∧ hexV b = none) then (0, 4) else cF n (k + 1) (if 1 < k then c * 16 + (hexV b).getD 0 else c) t
theorem cF_hex (n : Nat) : ∀ (k c : Nat) (l : List UInt8), 1 < k → cF n k c l = hex4 n c l := by
  induction n with
  | zero => intro k c l _; rfl
  | succ n ih =>
    intro k c l hk
    cases l with
    | nil => rfl
    | cons b t =>
      unfold cF hex4
      cases hb : hexV b with
      | none => rw [if_pos (.inr (.inr ⟨hk, rfl⟩))]
      | some d => 
        rw [if_neg (fun h => h.elim (fun h => by omega) (fun h => h.elim (fun h => by omega) (fun h => absurd h.2 (by simp)))), if_pos hk]
        exact ih _ _ _ (by omega)
theorem cF_code (l : List UInt8) : cF 6 0 0 l = codeP l := by
  cases l with
  | nil => rfl
  | cons a t =>
    show (if (0 = 0 ∧ a ≠ 92) ∨ (0 = 1 ∧ a ≠ 117) ∨ (1 < 0 ∧ hexV a = none) then (0, 4) else cF 5 1 (if 1 < 0 then 0 * 16 + (hexV a).getD 0 else 0) t) = (if a ≠ 92 then (0, 4) else match t with | [] => (0, 3) | b :: u => if b ≠ 117 then (0, 4) else hex4 4 0 u)
    by_cases ha : a = 92
    · rw [if_neg (by simp [ha]), if_neg (show ¬ (1 : Nat) < 0 by decide), if_neg (show ¬ a ≠ 92 by simp [ha])]
      cases t with
      | nil => rfl
      | cons b u =>
        show (if (1 = 0 ∧ b ≠ 92) ∨ (1 = 1 ∧ b ≠ 117) ∨ (1 < 1 ∧ hexV b = none) then (0, 4) else cF 4 2 (if 1 < 1 then 0 * 16 + (hexV b).getD 0 else 0) u) = if b ≠ 117 then (0, 4) else hex4 4 0 u
        by_cases hb : b = 117
        · rw [if_neg (by simp [hb]), if_neg (show ¬ (1 : Nat) < 1 by decide), if_neg (show ¬ b ≠ 117 by simp [hb])]; exact cF_hex 4 2 0 u (by decide)
        · rw [if_pos (.inr (.inl ⟨rfl, hb⟩)), if_pos hb]
    · rw [if_pos (.inl ⟨rfl, ha⟩), if_pos ha]
end Go.Proofs.YtjkhihdghjoneaaDoor
