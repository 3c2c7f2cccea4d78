/- Plain arithmetic of the FNV sums (no program in sight). -/
namespace Go.Proofs.Ytjeeedbbdgjgeaa
namespace FnvPlain
theorem xor_mod2 (x y : Nat) : (x ^^^ y) % 2 = (x + y) % 2 := by
  have h := @Nat.xor_mod_two_pow x y 1
  simp only [Nat.pow_one] at h
  rw [h]
  rcases Nat.mod_two_eq_zero_or_one x with a | a <;> rcases Nat.mod_two_eq_zero_or_one y with b | b <;> rw [a, b] <;> simp <;> omega

theorem xor_two_pow (i : Nat) : ∀ x : Nat, x ^^^ 2 ^ i = if x / 2 ^ i % 2 = 1 then x - 2 ^ i else x + 2 ^ i := by
  induction i with
  | zero =>
    intro x
    have h1 := Nat.div_add_mod x 2
    have h2 : (x ^^^ 1) / 2 = x / 2 := by
      have := @Nat.xor_div_two_pow x 1 1
      simpa using this
    have h3 : (x ^^^ 1) % 2 = (x + 1) % 2 := by
      have := xor_mod2 x 1
      simpa using this
    simp only [Nat.pow_zero, Nat.div_one]
    split <;> omega
  | succ i ih =>
    intro x
    have h2 : (x ^^^ 2 ^ (i + 1)) / 2 = x / 2 ^^^ 2 ^ i := by
      have := @Nat.xor_div_two_pow x (2 ^ (i + 1)) 1
      rw [Nat.pow_one, Nat.pow_succ, Nat.mul_div_cancel _ (by decide)] at this
      rw [Nat.pow_succ]; exact this
    have h3 : (x ^^^ 2 ^ (i + 1)) % 2 = x % 2 := by
      have := xor_mod2 x (2 ^ (i + 1))
      rw [this, Nat.pow_succ]; omega
    rw [ih (x / 2)] at h2
    have h4 : x / 2 / 2 ^ i = x / 2 ^ (i + 1) := by rw [Nat.div_div_eq_div_mul, Nat.pow_succ, Nat.mul_comm]
    rw [h4] at h2
    have h5 : 2 ^ (i + 1) = 2 * 2 ^ i := by rw [Nat.pow_succ, Nat.mul_comm]
    have h6 : x / 2 ^ (i + 1) % 2 = 1 → 2 ^ (i + 1) ≤ x := by
      intro h
      rcases Nat.lt_or_ge x (2 ^ (i + 1)) with h' | h'
      · rw [Nat.div_eq_of_lt h'] at h; omega
      · exact h'
    generalize x ^^^ 2 ^ (i + 1) = y at *
    split <;> rename_i hc
    · rw [if_pos hc] at h2
      have := h6 hc
      omega
    · rw [if_neg hc] at h2
      omega

def add (s b : Nat) : Nat := (s ^^^ b) * 1099511628211 % 18446744073709551616
def sum (l : List UInt8) : Nat := l.foldl (fun s c => add s c.toNat) 14695981039346656037

theorem add_lt (s b : Nat) : add s b < 18446744073709551616 := Nat.mod_lt _ (by decide)

theorem foldl_lt (l : List UInt8) : ∀ s, s < 18446744073709551616 → l.foldl (fun s c => add s c.toNat) s < 18446744073709551616 := by
  induction l with
  | nil => intro s h; exact h
  | cons a t ih => intro s _; exact ih _ (add_lt _ _)

theorem sum_lt (l : List UInt8) : sum l < 18446744073709551616 := foldl_lt l _ (by decide)

/-- the step of the reference's loop -/
theorem step (s b i : Nat) (h : b / 2 ^ i % 2 = 1) :
    (s ^^^ (b % 2 ^ (i + 1))) = if s / 2 ^ i % 2 = 1 then (s ^^^ (b % 2 ^ i)) - 2 ^ i else (s ^^^ (b % 2 ^ i)) + 2 ^ i := by
  have e1 : b % 2 ^ (i + 1) = (b % 2 ^ i) ^^^ 2 ^ i := by
    rw [xor_two_pow, if_neg (by rw [Nat.div_eq_of_lt (Nat.mod_lt _ (Nat.two_pow_pos i))]; decide), Nat.mod_pow_succ, h, Nat.mul_one]
  rw [e1, ← Nat.xor_assoc, xor_two_pow]
  have e2 : (s ^^^ b % 2 ^ i) / 2 ^ i = s / 2 ^ i := by
    rw [Nat.xor_div_two_pow, Nat.div_eq_of_lt (Nat.mod_lt b (Nat.two_pow_pos i)), Nat.xor_zero]
  rw [e2]

theorem step0 (s b i : Nat) (h : b / 2 ^ i % 2 ≠ 1) : (s ^^^ (b % 2 ^ (i + 1))) = s ^^^ (b % 2 ^ i) := by
  have : b / 2 ^ i % 2 = 0 := by omega
  rw [Nat.mod_pow_succ, this, Nat.mul_zero, Nat.add_zero]

theorem xor_lt (s b : Nat) (hs : s < 18446744073709551616) (hb : b < 18446744073709551616) : s ^^^ b < 18446744073709551616 := Nat.xor_lt_two_pow (n := 64) hs hb

theorem add_back (s b : Nat) (hs : s < 18446744073709551616) (hb : b < 256) : add s b * 14886173955864302971 % 18446744073709551616 = s ^^^ b := by
  have h := xor_lt s b hs (by omega)
  unfold add
  rw [Nat.mod_mul_mod, Nat.mul_assoc, ← Nat.mul_mod_mod, show 1099511628211 * 14886173955864302971 % 18446744073709551616 = 1 from by decide, Nat.mul_one, Nat.mod_eq_of_lt h]

theorem add_inj_left (s t b : Nat) (hs : s < 18446744073709551616) (ht : t < 18446744073709551616) (hb : b < 256) (h : add s b = add t b) : s = t := by
  have h1 := add_back s b hs hb
  rw [h, add_back t b ht hb] at h1
  have := congrArg (· ^^^ b) h1
  simpa [Nat.xor_assoc] using this.symm

theorem add_inj_right (s b c : Nat) (hs : s < 18446744073709551616) (hb : b < 256) (hc : c < 256) (h : add s b = add s c) : b = c := by
  have h1 := add_back s b hs hb
  rw [h, add_back s c hs hc] at h1
  have := congrArg (s ^^^ ·) h1
  simp only [← Nat.xor_assoc, Nat.xor_self, Nat.zero_xor] at this
  exact this.symm

theorem fold_inj (l : List UInt8) : ∀ s t, s < 18446744073709551616 → t < 18446744073709551616 → l.foldl (fun s c => add s c.toNat) s = l.foldl (fun s c => add s c.toNat) t → s = t := by
  induction l with
  | nil => intro s t _ _ h; exact h
  | cons a r ih =>
    intro s t hs ht h
    exact add_inj_left s t a.toNat hs ht (by have := a.toNat_lt; omega) (ih _ _ (add_lt _ _) (add_lt _ _) h)

theorem unlike (l r : List UInt8) (a b : UInt8) (h : sum (l ++ a :: r) = sum (l ++ b :: r)) : a = b := by
  unfold sum at h
  rw [List.foldl_append, List.foldl_append, List.foldl_cons, List.foldl_cons] at h
  have h1 := fold_inj r _ _ (add_lt _ _) (add_lt _ _) h
  have h2 := add_inj_right _ _ _ (foldl_lt l _ (by decide)) (by have := a.toNat_lt; omega) (by have := b.toNat_lt; omega) h1
  exact UInt8.toNat_inj.1 h2

end FnvPlain
end Go.Proofs.Ytjeeedbbdgjgeaa
