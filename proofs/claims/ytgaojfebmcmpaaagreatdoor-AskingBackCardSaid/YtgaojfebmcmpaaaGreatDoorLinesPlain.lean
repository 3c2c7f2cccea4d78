/- Plain functions for the lines of an HTTP head (no program in sight). -/
import Derived.Deep.Draws
namespace Go.Proofs.YtgaojfebmcmpaaaGreatDoor

/-- may a byte stand in a line? -/
def plainB (c : Nat) : Bool := c == 9 || (decide (32 ≤ c) && decide (c ≤ 126))

/-- the scan of one line, from what is left of the text; n bytes have been passed: how many bytes the line has, and the error (0, 3, 4, 5). -/
def scan : List UInt8 → Nat → Nat × Nat
  | [], n => (n, 3)
  | c :: r, n => if c = 13 ∧ r = [] then (n, 3) else if c = 13 ∧ r.head? = some 10 then (n, 0)
      else if plainB c.toNat = false then (n, 4) else if n = 256 then (n, 5) else scan r (n + 1)

/-- what taking a line at a place tells: how many bytes the line has and the error; an error at a place beyond the text is 2. -/
def scanAt (l : List UInt8) (i : Nat) (n : Nat) : Nat × Nat := scan (l.drop i) n

theorem scanAt_end (l : List UInt8) (i n : Nat) (h : l.length ≤ i) : scanAt l i n = (n, 3) := by
  unfold scanAt; rw [List.drop_eq_nil_of_le h]; rfl

theorem scanAt_step (l : List UInt8) (i n : Nat) (h : i < l.length) : scanAt l i n =
    if l[i] = 13 ∧ i + 1 = l.length then (n, 3) else if l[i] = 13 ∧ l[i + 1]? = some 10 then (n, 0)
      else if plainB l[i].toNat = false then (n, 4) else if n = 256 then (n, 5) else scanAt l (i + 1) (n + 1) := by
  unfold scanAt
  rw [List.drop_eq_getElem_cons h, scan]
  have e1 : (l.drop (i + 1) = []) ↔ i + 1 = l.length := by rw [List.drop_eq_nil_iff]; omega
  have e2 : (l.drop (i + 1)).head? = l[i + 1]? := by rw [List.head?_drop]
  rw [e2]
  simp only [e1]

theorem scan_n (l : List UInt8) : ∀ n, n ≤ 256 → n ≤ (scan l n).1 ∧ (scan l n).1 ≤ n + l.length ∧ (scan l n).1 ≤ 256 ∧ (scan l n).2 ≤ 5 := by
  induction l with
  | nil => intro n h; simp [scan]; omega
  | cons c r ih =>
    intro n h
    rw [scan]
    split
    · simp; omega
    · split
      · simp; omega
      · split
        · simp; omega
        · split
          · simp; omega
          · have := ih (n + 1) (by omega)
            simp only [List.length_cons]
            omega

theorem scan_zero (l : List UInt8) : ∀ n, (scan l n).2 = 0 → (scan l n).1 + 2 ≤ n + l.length := by
  induction l with
  | nil => intro n h; simp [scan] at h
  | cons c r ih =>
    intro n
    rw [scan]
    split
    · simp
    · split
      · rename_i h
        cases r with
        | nil => simp at h
        | cons d t => simp
      · split
        · simp
        · split
          · simp
          · intro h
            have := ih (n + 1) h
            simp only [List.length_cons]
            omega

def takeErr (s : ByteArray) (at_ : Int) : Nat := if at_ < 0 ∨ (s.size : Int) < at_ then 2 else (scanAt s.data.toList at_.toNat 0).2
def takeLine (s : ByteArray) (at_ : Int) : ByteArray := if takeErr s at_ = 0 then s.extract at_.toNat (at_.toNat + (scanAt s.data.toList at_.toNat 0).1) else ⟨#[]⟩
def takeNext (s : ByteArray) (at_ : Int) : Int := if takeErr s at_ = 0 then at_ + (scanAt s.data.toList at_.toNat 0).1 + 2 else at_

theorem takeErr_out (s : ByteArray) (at_ : Int) (h : at_ < 0 ∨ (s.size : Int) < at_) : takeErr s at_ = 2 := if_pos h
theorem takeErr_in (s : ByteArray) (i : Nat) (h : i ≤ s.size) : takeErr s (i : Int) = (scanAt s.data.toList i 0).2 := by
  unfold takeErr; rw [if_neg (by omega)]; rfl

/-- laying a line: the error (0, 4, 5). -/
def putErr (l : List UInt8) : Nat := if l.all (fun c => plainB c.toNat) = false then 4 else if 256 < l.length then 5 else 0

end Go.Proofs.YtgaojfebmcmpaaaGreatDoor
