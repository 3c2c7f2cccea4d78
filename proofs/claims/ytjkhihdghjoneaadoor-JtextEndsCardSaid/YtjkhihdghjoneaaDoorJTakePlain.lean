/- Plain laws: what is taken of quotes (no program in sight). -/
import Derived.Test.YtjkhihdghjoneaaDoorJPlain
namespace Go.Proofs.YtjkhihdghjoneaaDoor
open Go.RowKit

def hexV (c : UInt8) : Option Nat := if 48 ≤ c.toNat ∧ c.toNat ≤ 57 then some (c.toNat - 48) else if 97 ≤ c.toNat ∧ c.toNat ≤ 102 then some (c.toNat - 87) else if 65 ≤ c.toNat ∧ c.toNat ≤ 70 then some (c.toNat - 55) else none
theorem hexV_lt (c : UInt8) (d : Nat) (h : hexV c = some d) : d < 16 := by
  unfold hexV at h
  split at h
  · simp at h; omega
  · split at h
    · simp at h; omega
    · split at h
      · simp at h; omega
      · exact absurd h (by simp)
/-- four digits -/
def hex4 : Nat → Nat → List UInt8 → Nat × Nat
  | 0, c, _ => (c, 0)
  | _ + 1, _, [] => (0, 3)
  | k + 1, c, b :: t => match hexV b with | none => (0, 4) | some d => hex4 k (c * 16 + d) t
/-- the code of a mark of four digits: its number, and the error -/
def codeP (l : List UInt8) : Nat × Nat := match l with
  | [] => (0, 3)
  | a :: t => if a ≠ 92 then (0, 4) else match t with
    | [] => (0, 3)
    | b :: u => if b ≠ 117 then (0, 4) else hex4 4 0 u
def pairP (l : List UInt8) : Nat × Nat × Nat :=
  if (codeP l).2 ≠ 0 then (0, 0, (codeP l).2) else if (codeP l).1 < 55296 ∨ 57343 < (codeP l).1 then ((codeP l).1, 6, 0) else if 56320 ≤ (codeP l).1 then (0, 0, 4)
  else if (codeP (l.drop 6)).2 ≠ 0 then (0, 0, (codeP (l.drop 6)).2) else if (codeP (l.drop 6)).1 < 56320 ∨ 57343 < (codeP (l.drop 6)).1 then (0, 0, 4)
  else (65536 + ((codeP l).1 - 55296) * 1024 + ((codeP (l.drop 6)).1 - 56320), 12, 0)
/-- the rune of a mark of two bytes; 0: there is none -/
def escN (c : Nat) : Nat := if c = 34 ∨ c = 92 ∨ c = 47 then c else if c = 98 then 8 else if c = 102 then 12 else if c = 110 then 10 else if c = 114 then 13 else if c = 116 then 9 else 0
def markP (l : List UInt8) : Nat × Nat × Nat := if l.length < 2 then (0, 0, 3) else if escN (l.getD 1 0).toNat ≠ 0 then (escN (l.getD 1 0).toNat, 2, 0) else pairP l

/-- one step of taking: 0: on, so many bytes, and what they tell; 1: the end; 3, 4: an error -/
def stepT (r : List UInt8) : Nat × Nat × List UInt8 :=
  if r.getD 0 0 = 34 then (1, 1, []) else if r.getD 0 0 = 92 then (if (markP r).2.2 = 3 then (3, 0, []) else if (markP r).2.2 ≠ 0 then (4, 0, []) else (0, (markP r).2.1, Go.Lib.encodeRune ((markP r).1 : Nat)))
  else if badR r ∨ (r.getD 0 0).toNat < 32 then (4, 0, []) else (0, rwd r, r.take (rwd r))
def takeR : Nat → List UInt8 → Nat → List UInt8 → List UInt8 × Nat × Nat
  | 0, r, i, _ => ([], i + r.length, 3)
  | f + 1, r, i, acc => if r = [] then ([], i, 3) else if (stepT r).1 = 1 then (acc, i + 1, 0) else if (stepT r).1 = 3 then ([], i + r.length, 3) else if (stepT r).1 = 4 then ([], i, 4)
    else takeR f (r.drop (stepT r).2.1) (i + (stepT r).2.1) (acc ++ (stepT r).2.2)
/-- what is taken at a place: the text, the next place, the error -/
def takeP (l : List UInt8) (at_ : Int) : List UInt8 × Int × Nat :=
  if at_ < 0 ∨ (l.length : Int) < at_ then ([], 0, 2) else if at_ = l.length then ([], at_, 3) else if l.getD at_.toNat 0 ≠ 34 then ([], at_, 4)
  else ((takeR (l.length + 1) (l.drop (at_.toNat + 1)) (at_.toNat + 1) []).1, ((takeR (l.length + 1) (l.drop (at_.toNat + 1)) (at_.toNat + 1) []).2.1 : Nat), (takeR (l.length + 1) (l.drop (at_.toNat + 1)) (at_.toNat + 1) []).2.2)

theorem hex4_len (k : Nat) : ∀ (c : Nat) (l : List UInt8), (hex4 k c l).2 = 0 → k ≤ l.length := by
  induction k with
  | zero => intro c l _; exact Nat.zero_le _
  | succ k ih =>
    intro c l h
    cases l with
    | nil => exact absurd (show (3 : Nat) = 0 from h) (by decide)
    | cons b t =>
      unfold hex4 at h
      cases hb : hexV b with
      | none => rw [hb] at h; exact absurd (show (4 : Nat) = 0 from h) (by decide)
      | some d => rw [hb] at h; have := ih _ _ h; simp; omega
theorem hex4_lt (k : Nat) : ∀ (c : Nat) (l : List UInt8), (hex4 k c l).2 = 0 → (hex4 k c l).1 < (c + 1) * 16 ^ k := by
  induction k with
  | zero => intro c l _; show c < _; omega
  | succ k ih =>
    intro c l h
    cases l with
    | nil => exact absurd (show (3 : Nat) = 0 from h) (by decide)
    | cons b t =>
      unfold hex4 at h ⊢
      cases hb : hexV b with
      | none => rw [hb] at h; exact absurd (show (4 : Nat) = 0 from h) (by decide)
      | some d =>
        rw [hb] at h
        have h1 := ih _ _ h
        have hd := hexV_lt b d hb
        refine Nat.lt_of_lt_of_le h1 ?_
        rw [Nat.pow_succ, Nat.mul_comm (16 ^ k) 16, ← Nat.mul_assoc]
        exact Nat.mul_le_mul_right _ (by omega)
theorem hex4_err (k : Nat) : ∀ (c : Nat) (l : List UInt8), (hex4 k c l).2 = 0 ∨ (hex4 k c l).2 = 3 ∨ (hex4 k c l).2 = 4 := by
  induction k with
  | zero => intro c l; exact .inl rfl
  | succ k ih =>
    intro c l
    cases l with
    | nil => exact .inr (.inl rfl)
    | cons b t =>
      unfold hex4
      cases hb : hexV b with
      | none => exact .inr (.inr rfl)
      | some d => exact ih _ _
theorem codeP_err (l : List UInt8) : (codeP l).2 = 0 ∨ (codeP l).2 = 3 ∨ (codeP l).2 = 4 := by
  unfold codeP
  split
  · exact .inr (.inl rfl)
  · split
    · exact .inr (.inr rfl)
    · split
      · exact .inr (.inl rfl)
      · split
        · exact .inr (.inr rfl)
        · exact hex4_err _ _ _
theorem codeP_ok (l : List UInt8) (h : (codeP l).2 = 0) : 6 ≤ l.length ∧ (codeP l).1 < 65536 := by
  unfold codeP at h ⊢
  cases l with
  | nil => exact absurd h (by decide)
  | cons a t =>
    simp only [] at h ⊢
    by_cases ha : a = 92
    · rw [if_neg (by simp [ha])] at h ⊢
      cases t with
      | nil => exact absurd h (by decide)
      | cons b u =>
        simp only [] at h ⊢
        by_cases hb : b = 117
        · rw [if_neg (by simp [hb])] at h ⊢
          have h1 := hex4_len _ _ _ h
          have h2 := hex4_lt _ _ _ h
          exact ⟨by simp; omega, by omega⟩
        · rw [if_pos hb] at h; exact absurd h (by decide)
    · rw [if_pos ha] at h; exact absurd h (by decide)
def goodR (c : Nat) : Prop := c < 55296 ∨ (57343 < c ∧ c ≤ 1114111)
theorem pairP_ok (l : List UInt8) (h : (pairP l).2.2 = 0) : 6 ≤ (pairP l).2.1 ∧ (pairP l).2.1 ≤ l.length ∧ goodR (pairP l).1 := by
  unfold pairP at h ⊢
  by_cases a1 : (codeP l).2 ≠ 0
  · rw [if_pos a1] at h; exact absurd h a1
  · rw [if_neg a1] at h ⊢
    obtain ⟨l1, l2⟩ := codeP_ok l (by simpa using a1)
    by_cases a2 : (codeP l).1 < 55296 ∨ 57343 < (codeP l).1
    · rw [if_pos a2]
      exact ⟨Nat.le_refl _, l1, by unfold goodR; show (codeP l).1 < 55296 ∨ _; omega⟩
    · rw [if_neg a2] at h ⊢
      by_cases a3 : 56320 ≤ (codeP l).1
      · rw [if_pos a3] at h; exact absurd h (by decide)
      · rw [if_neg a3] at h ⊢
        by_cases a4 : (codeP (l.drop 6)).2 ≠ 0
        · rw [if_pos a4] at h; exact absurd h a4
        · rw [if_neg a4] at h ⊢
          obtain ⟨m1, m2⟩ := codeP_ok _ (by simpa using a4)
          by_cases a5 : (codeP (l.drop 6)).1 < 56320 ∨ 57343 < (codeP (l.drop 6)).1
          · rw [if_pos a5] at h; exact absurd h (by decide)
          · rw [if_neg a5]
            rw [List.length_drop] at m1
            refine ⟨by show 6 ≤ 12; decide, by show 12 ≤ l.length; omega, ?_⟩
            unfold goodR
            show 65536 + _ + _ < 55296 ∨ _
            omega
theorem escN_good (c : Nat) : escN c < 128 ∨ escN c = c := by
  unfold escN
  repeat' split
  all_goals first | exact .inr rfl | (left; decide)
theorem escN_lt (c : Nat) (h : c < 256) : escN c < 256 := by
  unfold escN
  repeat' split
  all_goals omega
theorem markP_ok (l : List UInt8) (h : (markP l).2.2 = 0) : 2 ≤ (markP l).2.1 ∧ (markP l).2.1 ≤ l.length ∧ goodR (markP l).1 := by
  unfold markP at h ⊢
  by_cases a1 : l.length < 2
  · rw [if_pos a1] at h; exact absurd h (by decide)
  · rw [if_neg a1] at h ⊢
    by_cases a2 : escN (l.getD 1 0).toNat ≠ 0
    · rw [if_pos a2]
      exact ⟨Nat.le_refl _, by show 2 ≤ l.length; omega, .inl (by show escN _ < _; have := escN_lt _ (l.getD 1 0).toNat_lt; omega)⟩
    · rw [if_neg a2] at h ⊢
      obtain ⟨p1, p2, p3⟩ := pairP_ok l h
      exact ⟨by omega, p2, p3⟩

/-- the step goes on: so many bytes, at least one, and no more than there are -/
theorem stepT_on (r : List UInt8) (hr : r ≠ []) (h : (stepT r).1 = 0) : 1 ≤ (stepT r).2.1 ∧ (stepT r).2.1 ≤ r.length := by
  unfold stepT at h ⊢
  by_cases a1 : r.getD 0 0 = 34
  · rw [if_pos a1] at h; exact absurd h (by decide)
  · rw [if_neg a1] at h ⊢
    by_cases a2 : r.getD 0 0 = 92
    · rw [if_pos a2] at h ⊢
      by_cases a3 : (markP r).2.2 = 3
      · rw [if_pos a3] at h; exact absurd h (by decide)
      · rw [if_neg a3] at h ⊢
        by_cases a4 : (markP r).2.2 ≠ 0
        · rw [if_pos a4] at h; exact absurd h (by decide)
        · rw [if_neg a4]
          obtain ⟨p1, p2, _⟩ := markP_ok r (by simpa using a4)
          exact ⟨by show 1 ≤ (markP r).2.1; omega, p2⟩
    · rw [if_neg a2] at h ⊢
      by_cases a3 : badR r ∨ (r.getD 0 0).toNat < 32
      · rw [if_pos a3] at h; exact absurd h (by decide)
      · rw [if_neg a3]; exact ⟨rwd_pos r, rwd_le r hr⟩
theorem stepT_kind (r : List UInt8) : (stepT r).1 = 0 ∨ (stepT r).1 = 1 ∨ (stepT r).1 = 3 ∨ (stepT r).1 = 4 := by
  unfold stepT
  repeat' split
  all_goals simp
theorem takeR_fuel (n : Nat) : ∀ (f g : Nat) (r : List UInt8) (i : Nat) (acc : List UInt8), r.length ≤ n → r.length < f → r.length < g → takeR f r i acc = takeR g r i acc := by
  induction n with
  | zero =>
    intro f g r i acc h hf hg
    have : r = [] := List.length_eq_zero_iff.1 (by omega)
    subst this
    cases f with
    | zero => exact absurd hf (Nat.not_lt_zero _)
    | succ f => cases g with
      | zero => exact absurd hg (Nat.not_lt_zero _)
      | succ g => rfl
  | succ n ih =>
    intro f g r i acc h hf hg
    cases f with
    | zero => exact absurd hf (Nat.not_lt_zero _)
    | succ f => cases g with
      | zero => exact absurd hg (Nat.not_lt_zero _)
      | succ g =>
        unfold takeR
        by_cases h0 : r = []
        · rw [if_pos h0, if_pos h0]
        · rw [if_neg h0, if_neg h0]
          rcases stepT_kind r with hk | hk | hk | hk
          · obtain ⟨s1, s2⟩ := stepT_on r h0 hk
            rw [hk, if_neg (by decide), if_neg (by decide), if_neg (by decide), if_neg (by decide), if_neg (by decide), if_neg (by decide)]
            have hpos := List.length_pos_iff.2 h0
            exact ih f g _ _ _ (by rw [List.length_drop]; omega) (by rw [List.length_drop]; omega) (by rw [List.length_drop]; omega)
          · rw [hk, if_pos rfl, if_pos rfl]
          · rw [hk, if_neg (by decide), if_pos rfl, if_neg (by decide), if_pos rfl]
          · rw [hk, if_neg (by decide), if_neg (by decide), if_pos rfl, if_neg (by decide), if_neg (by decide), if_pos rfl]
end Go.Proofs.YtjkhihdghjoneaaDoor
