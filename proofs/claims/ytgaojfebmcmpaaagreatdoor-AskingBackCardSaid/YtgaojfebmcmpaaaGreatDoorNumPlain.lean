/- Plain laws: numbers of digits (no program in sight). -/
import Derived.Test.YtgaojfebmcmpaaaGreatDoorFieldsPlain
import Derived.Lib.AtoiAll
import Derived.Lib.ItoaNum
namespace Go.Proofs.YtgaojfebmcmpaaaGreatDoor
open Go.RowKit

def stepD (n : Nat) (c : UInt8) : Nat := n * 10 + (c.toNat - 48)
/-- the number that digits spell -/
def decV (l : List UInt8) : Nat := l.foldl stepD 0
def digAll (l : List UInt8) : Bool := l.all (fun c => digN c.toNat)
def lead0 (l : List UInt8) : Bool := decide (1 < l.length) && l.head? == some 48
def numBad (l : List UInt8) : Bool := l.isEmpty || !digAll l || lead0 l
def numE (l : List UInt8) : Nat := if numBad l = true then 4 else if 9007199254740991 < decV l then 11 else 0
def numV (l : List UInt8) : Nat := if numE l = 0 then decV l else 0

theorem digN_bd (n : Nat) (h : digN n = true) : 48 ≤ n ∧ n ≤ 57 := by
  unfold digN at h; simp only [Bool.and_eq_true, decide_eq_true_eq] at h; exact h
theorem digN_not (n : Nat) (h : digN n = false) : n < 48 ∨ 57 < n := by
  unfold digN at h; simp only [Bool.and_eq_false_iff, decide_eq_false_iff_not] at h; omega
theorem digN_mk (n : Nat) (h : 48 ≤ n) (h2 : n ≤ 57) : digN n = true := by
  unfold digN; rw [decide_eq_true h, decide_eq_true h2]; rfl
theorem fold_ge (l : List UInt8) : ∀ acc, acc ≤ l.foldl stepD acc := by
  induction l with
  | nil => intro acc; exact Nat.le_refl _
  | cons c t ih => intro acc; refine Nat.le_trans ?_ (ih (stepD acc c)); unfold stepD; omega
theorem decV_snoc (l : List UInt8) (c : UInt8) : decV (l ++ [c]) = decV l * 10 + (c.toNat - 48) := by
  unfold decV; rw [List.foldl_append]; rfl
theorem decV_take_le (l : List UInt8) (k : Nat) : decV (l.take k) ≤ decV l := by
  have h : decV l = (l.drop k).foldl stepD (decV (l.take k)) := by
    unfold decV; rw [← List.foldl_append, List.take_append_drop]
  rw [h]; exact fold_ge _ _
theorem parse_dec (l : List UInt8) : ∀ acc, acc < 18446744073709551616 → digAll l = true → Go.Lib.parseUint10 acc l = if l.foldl stepD acc < 18446744073709551616 then .ok (l.foldl stepD acc) else .range := by
  induction l with
  | nil => intro acc h _; show Go.Lib.NumEnd.ok acc = if acc < 18446744073709551616 then Go.Lib.NumEnd.ok acc else _; rw [if_pos h]
  | cons c t ih =>
    intro acc h hd
    have hc : digN c.toNat = true ∧ digAll t = true := by unfold digAll at hd; rw [List.all_cons, Bool.and_eq_true] at hd; exact hd
    have hb := digN_bd _ hc.1
    have hg := fold_ge t (stepD acc c)
    show (if 48 ≤ c.toNat ∧ c.toNat ≤ 57 then _ else _) = _
    rw [if_pos hb]
    have e : (c :: t).foldl stepD acc = t.foldl stepD (stepD acc c) := rfl
    rw [e]
    have es : stepD acc c = acc * 10 + (c.toNat - 48) := rfl
    by_cases h1 : 1844674407370955162 ≤ acc
    · rw [if_pos h1, if_neg (by omega)]
    · rw [if_neg h1]
      by_cases h2 : 18446744073709551616 ≤ acc * 10 + (c.toNat - 48)
      · rw [if_pos h2, if_neg (by omega)]
      · rw [if_neg h2]
        exact ih (stepD acc c) (by omega) hc.2
theorem atoi_dec (l : List UInt8) (h0 : l ≠ []) (hd : digAll l = true) : Go.Lib.atoiAll l = if decV l < 9223372036854775808 then .ok (decV l : Int) else .range := by
  cases l with
  | nil => exact absurd rfl h0
  | cons c t =>
    have hc : digN c.toNat = true := by unfold digAll at hd; rw [List.all_cons, Bool.and_eq_true] at hd; exact hd.1
    have hb := digN_bd _ hc
    have hp := parse_dec (c :: t) 0 (by decide) hd
    change Go.Lib.parseUint10 0 (c :: t) = if decV (c :: t) < _ then .ok (decV (c :: t)) else _ at hp
    unfold Go.Lib.atoiAll
    simp only []
    rw [if_neg (show ¬ (c.toNat = 43 ∨ c.toNat = 45) by omega)]
    unfold Go.Lib.parseMag
    rw [if_neg (by simp), hp]
    by_cases h1 : decV (c :: t) < 18446744073709551616
    · rw [if_pos h1]
      by_cases h2 : decV (c :: t) < 9223372036854775808
      · simp only []
        rw [if_pos h2, if_neg (by omega), if_neg (by omega), if_neg (by omega)]
      · simp only []
        rw [if_neg h2, if_pos (by omega)]
    · rw [if_neg h1, if_neg (by omega)]

/-- a number's digits: all digits, no zero ahead of others, and they tell it -/
theorem dec_digit (k : Nat) (h : k < 10) : (UInt8.ofNat (48 + k)).toNat = 48 + k := by
  rw [UInt8.toNat_ofNat']; omega
theorem decDigits_ne (n : Nat) : Go.Lib.decDigits n ≠ [] := by
  rw [Go.Lib.decDigits]; split <;> simp
theorem decDigits_all (n : Nat) : digAll (Go.Lib.decDigits n) = true := by
  induction n using Nat.strongRecOn with
  | ind n ih =>
    rw [Go.Lib.decDigits]
    split
    · rename_i h
      unfold digAll; rw [List.all_cons, dec_digit n h, digN_mk _ (by omega) (by omega)]; rfl
    · have := ih (n / 10) (by omega)
      unfold digAll at this ⊢
      rw [List.all_append, this, List.all_cons, dec_digit (n % 10) (by omega), digN_mk _ (by omega) (by omega)]; rfl
theorem decV_decDigits (n : Nat) : decV (Go.Lib.decDigits n) = n := by
  induction n using Nat.strongRecOn with
  | ind n ih =>
    rw [Go.Lib.decDigits]
    split
    · rename_i h
      show stepD 0 _ = n
      unfold stepD; rw [dec_digit n h]; omega
    · rw [decV_snoc, ih (n / 10) (by omega), dec_digit (n % 10) (by omega)]; omega
theorem decDigits_head (n : Nat) (h : 0 < n) : ∀ c, (Go.Lib.decDigits n).head? = some c → c ≠ 48 := by
  induction n using Nat.strongRecOn with
  | ind n ih =>
    intro c
    rw [Go.Lib.decDigits]
    split
    · rename_i h10
      intro e hc
      simp only [List.head?_cons, Option.some.injEq] at e
      have := dec_digit n h10
      rw [e, hc] at this
      have : (48 : UInt8).toNat = 48 := rfl
      omega
    · intro e
      have hn := decDigits_ne (n / 10)
      refine ih (n / 10) (by omega) (by omega) c ?_
      rw [← e]
      cases hd : Go.Lib.decDigits (n / 10) with
      | nil => exact absurd hd hn
      | cons a t => rfl
theorem numBad_dec (n : Nat) : numBad (Go.Lib.decDigits n) = false := by
  unfold numBad
  rw [decDigits_all]
  have h1 : (Go.Lib.decDigits n).isEmpty = false := by
    rw [Bool.eq_false_iff, Ne, List.isEmpty_iff]; exact decDigits_ne n
  rw [h1]
  unfold lead0
  by_cases h0 : n < 10
  · rw [Go.Lib.decDigits, dif_pos h0]; rfl
  · have : ((Go.Lib.decDigits n).head? == some 48) = false := by
      rw [beq_eq_false_iff_ne]; intro e; exact decDigits_head n (by omega) 48 e rfl
    rw [this, Bool.and_false]; rfl
/-- digits without a zero ahead are the digits of their number -/
theorem lead0_snoc (l : List UInt8) (c : UInt8) (h : lead0 (l ++ [c]) = false) (h0 : l ≠ []) : l.head? ≠ some 48 := by
  intro e
  unfold lead0 at h
  cases l with
  | nil => exact h0 rfl
  | cons a t =>
    simp at e
    subst e
    simp at h
theorem decDigits_pos (l : List UInt8) (h0 : l ≠ []) (hd : digAll l = true) (hl : l.head? ≠ some 48) : 0 < decV l := by
  cases l with
  | nil => exact absurd rfl h0
  | cons c t =>
    have hc : digN c.toNat = true := by unfold digAll at hd; rw [List.all_cons, Bool.and_eq_true] at hd; exact hd.1
    have hb := digN_bd _ hc
    have hne : c.toNat ≠ 48 := by
      intro e; apply hl; rw [List.head?_cons]; congr 1; exact UInt8.toNat_inj.1 e
    have := fold_ge t (stepD 0 c)
    have e : decV (c :: t) = t.foldl stepD (stepD 0 c) := rfl
    have es : stepD 0 c = 0 * 10 + (c.toNat - 48) := rfl
    omega
theorem decDigits_decV (l : List UInt8) (k : Nat) : l.length ≤ k → numBad l = false → Go.Lib.decDigits (decV l) = l := by
  induction k generalizing l with
  | zero =>
    intro hk hb
    have : l = [] := List.length_eq_zero_iff.1 (by omega)
    subst this; simp [numBad] at hb
  | succ k ih =>
    intro hk hb
    unfold numBad at hb
    simp only [Bool.or_eq_false_iff, Bool.not_eq_false'] at hb
    obtain ⟨⟨h1, h2⟩, h3⟩ := hb
    have hne : l ≠ [] := by intro e; rw [e] at h1; exact absurd h1 (by decide)
    obtain ⟨t, c, rfl⟩ : ∃ t c, l = t ++ [c] := ⟨l.dropLast, l.getLast hne, (List.dropLast_concat_getLast hne).symm⟩
    have hc : digAll t = true ∧ digN c.toNat = true := by
      unfold digAll at h2 ⊢; rw [List.all_append, Bool.and_eq_true, List.all_cons, Bool.and_eq_true] at h2; exact ⟨h2.1, h2.2.1⟩
    have hb := digN_bd _ hc.2
    have ec : UInt8.ofNat (48 + (c.toNat - 48)) = c := by
      rw [show 48 + (c.toNat - 48) = c.toNat by omega]; exact UInt8.ofNat_toNat
    rw [decV_snoc]
    by_cases ht : t = []
    · subst ht
      show Go.Lib.decDigits (0 * 10 + (c.toNat - 48)) = [c]
      rw [Go.Lib.decDigits, dif_pos (by omega), Nat.zero_mul, Nat.zero_add, ec]
    · have hl := lead0_snoc t c h3 ht
      have hp := decDigits_pos t ht hc.1 hl
      have hbt : numBad t = false := by
        unfold numBad lead0
        rw [hc.1, (by rw [Bool.eq_false_iff, Ne, List.isEmpty_iff]; exact ht : t.isEmpty = false), (by rw [beq_eq_false_iff_ne]; exact hl : (t.head? == some 48) = false), Bool.and_false]; rfl
      rw [Go.Lib.decDigits, dif_neg (by omega), show (decV t * 10 + (c.toNat - 48)) / 10 = decV t by omega, show (decV t * 10 + (c.toNat - 48)) % 10 = c.toNat - 48 by omega, ec, ih t (by simp at hk; omega) hbt]
end Go.Proofs.YtgaojfebmcmpaaaGreatDoor
