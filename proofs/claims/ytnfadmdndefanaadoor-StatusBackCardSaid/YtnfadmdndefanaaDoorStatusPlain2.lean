/- Plain facts on trimming digits and on the code of a status line (no program in sight). -/
import Derived.Test.YtnfadmdndefanaaDoorStatusPlain
import Derived.Lib.SlTrimSet
import Derived.Lib.Atoi
namespace Go.Proofs.YtnfadmdndefanaaDoor
open Go.RowKit

def digitSet : List UInt8 := [48, 49, 50, 51, 52, 53, 54, 55, 56, 57]
theorem digitSet_iff (c : UInt8) : digitSet.contains c = isDigitB c := by
  have h : ∀ n : Fin 256, digitSet.contains (UInt8.ofNat n.val) = isDigitB (UInt8.ofNat n.val) := by decide +kernel
  have := h ⟨c.toNat, c.toNat_lt⟩
  simpa using this

theorem dropWhile_nil {p : UInt8 → Bool} (l : List UInt8) : l.dropWhile p = [] ↔ l.all p = true := by
  induction l with
  | nil => simp
  | cons a t ih =>
    by_cases h : p a = true
    · rw [List.dropWhile_cons_of_pos h, ih]; simp [h]
    · rw [List.dropWhile_cons_of_neg h]; simp [h]

theorem trimS_empty (l cs : List UInt8) : (Go.Lib.trimS l cs).isEmpty = l.all (cs.contains ·) := by
  unfold Go.Lib.trimS Go.Lib.trimLeftS Go.Lib.trimRightS
  rw [Bool.eq_iff_iff, List.isEmpty_iff]
  constructor
  · intro h
    have h1 := (dropWhile_nil _).1 h
    rw [List.all_reverse] at h1
    have h2 : (l.reverse.dropWhile (cs.contains ·)) = [] := by
      cases hd : l.reverse.dropWhile (cs.contains ·) with
      | nil => rfl
      | cons a t =>
        have hn := List.head?_dropWhile_not (cs.contains ·) l.reverse
        rw [hd] at h1 hn
        simp only [List.head?_cons] at hn
        simp only [List.all_cons, Bool.and_eq_true] at h1
        rw [h1.1] at hn
        exact absurd hn (by decide)
    have h3 := (dropWhile_nil _).1 h2
    rwa [List.all_reverse] at h3
  · intro h
    have h2 : (l.reverse.dropWhile (cs.contains ·)) = [] := (dropWhile_nil _).2 (by rw [List.all_reverse]; exact h)
    rw [h2]; rfl

theorem digits_trim (l : List UInt8) : (Go.Lib.trimS l digitSet).isEmpty = l.all isDigitB := by
  rw [trimS_empty]
  congr 1
  funext c
  exact digitSet_iff c

theorem three (l : List UInt8) (h : 3 ≤ l.length) : l = l[0] :: l[1] :: l[2] :: l.drop 3 := by
  match l, h with
  | a :: b :: c :: t, _ => rfl

theorem codeOf_short (l : List UInt8) (h : l.length < 3) : codeOf l = (0, 4) := by
  match l, h with
  | [], _ => rfl
  | [_], _ => rfl
  | [_, _], _ => rfl
/-- the three digits' number. -/
def numOf (a b c : UInt8) : Int := 100 * ((a.toNat : Int) - 48) + 10 * ((b.toNat : Int) - 48) + ((c.toNat : Int) - 48)
theorem codeOf_cons (a b c : UInt8) (t : List UInt8) : codeOf (a :: b :: c :: t) = if t ≠ [] ∧ t.head? ≠ some 32 then (0, 4) else if (isDigitB a && isDigitB b && isDigitB c) = false then (0, 4)
      else if classOf (numOf a b c) = 0 then (0, 4) else (numOf a b c, 0) := rfl
theorem codeOf_tail (l : List UInt8) (h : 3 < l.length) (h2 : l[3] ≠ 32) : codeOf l = (0, 4) := by
  match l, h, h2 with
  | a :: b :: c :: d :: t, _, h2 =>
    rw [codeOf_cons, if_pos ⟨by simp, by simpa using h2⟩]
theorem codeOf_main (l : List UInt8) (h : 3 ≤ l.length) (h2 : ∀ h3 : 3 < l.length, l[3] = 32) :
    codeOf l = if (isDigitB l[0] && isDigitB l[1] && isDigitB l[2]) = false then (0, 4) else if classOf (numOf l[0] l[1] l[2]) = 0 then (0, 4) else (numOf l[0] l[1] l[2], 0) := by
  match l, h, h2 with
  | [a, b, c], _, _ =>
    rw [codeOf_cons]; rfl
  | a :: b :: c :: d :: t, _, h2 =>
    have hd : d = 32 := h2 (by simp)
    rw [codeOf_cons, if_neg (by simp [hd])]; rfl
theorem codeOf_digits (l : List UInt8) (h : 3 ≤ l.length) (hd : (isDigitB l[0] && isDigitB l[1] && isDigitB l[2]) = false) : codeOf l = (0, 4) := by
  by_cases h3 : 3 < l.length
  · by_cases h4 : l[3] = 32
    · rw [codeOf_main l h (fun _ => h4), if_pos hd]
    · exact codeOf_tail l h3 h4
  · rw [codeOf_main l h (fun h' => absurd h' h3), if_pos hd]

theorem digit_bd (c : UInt8) (h : isDigitB c = true) : 48 ≤ c.toNat ∧ c.toNat ≤ 57 := by
  unfold isDigitB at h; simpa using h

theorem atoi_three (a b c : UInt8) (ha : isDigitB a = true) (hb : isDigitB b = true) (hc : isDigitB c = true) : Go.Lib.atoi [a, b, c] = some (numOf a b c) := by
  obtain ⟨a1, a2⟩ := digit_bd a ha
  obtain ⟨b1, b2⟩ := digit_bd b hb
  obtain ⟨c1, c2⟩ := digit_bd c hc
  have d1 : Go.Lib.digitVal a = some (a.toNat - 48) := if_pos ⟨a1, a2⟩
  have d2 : Go.Lib.digitVal b = some (b.toNat - 48) := if_pos ⟨b1, b2⟩
  have d3 : Go.Lib.digitVal c = some (c.toNat - 48) := if_pos ⟨c1, c2⟩
  have n1 : (a == 45) = false := by rw [beq_eq_false_iff_ne]; intro e; subst e; simp at a1
  have n2 : (a == 43) = false := by rw [beq_eq_false_iff_ne]; intro e; subst e; simp at a1
  unfold Go.Lib.atoi Go.Lib.decNat
  simp only [n1, n2, Go.Lib.decFrom, d1, d2, d3, List.isEmpty_cons, Bool.false_eq_true, if_false, Option.map_some]
  unfold numOf
  congr 1
  omega
end Go.Proofs.YtnfadmdndefanaaDoor
