/- Plain laws: runes by their definition, and as the program reads them. -/
import Derived.Test.YtjkhihdghjoneaaDoorJTakePlain4
namespace Go.Proofs.YtjkhihdghjoneaaDoor
open Go.RowKit

/-- a code's bytes; none, if it is no rune -/
def refB (c : Nat) : List UInt8 := if c < 55296 ∨ (57343 < c ∧ c ≤ 1114111) then Go.Lib.encodeRune (c : Nat) else []
/-- what the first byte of n counts -/
def leadN (n b : Nat) : Nat := if n = 2 then b % 32 else if n = 3 then b % 16 else if n = 4 then b % 8 else b
def codeN (l : List UInt8) (n : Nat) : Nat → Nat
  | 0 => leadN n (l.getD 0 0).toNat
  | i + 1 => 64 * codeN l n i + (l.getD (i + 1) 0).toNat % 64
theorem codeN_le (l : List UInt8) (n : Nat) : ∀ i, codeN l n i < 256 * 64 ^ i := by
  intro i
  induction i with
  | zero =>
    have := (l.getD 0 0).toNat_lt
    show leadN n _ < 256 * 1
    unfold leadN; split
    · omega
    · split
      · omega
      · split <;> omega
  | succ i ih =>
    show 64 * codeN l n i + _ % 64 < _
    rw [Nat.pow_succ]; omega
/-- the bytes of the rune with which a text begins -/
def refR (l : List UInt8) : List UInt8 := if l = [] ∨ badR l then [] else l.take (rwd l)
theorem rwd_four (l : List UInt8) : rwd l ≤ 4 := by
  unfold rwd
  rw [Go.Lib.decodeL_N]
  rcases Go.Lib.decodeN_shape l.length (l.getD 0 0).toNat (l.getD 1 0).toNat (l.getD 2 0).toNat (l.getD 3 0).toNat with ⟨c, e⟩ | ⟨c1, c2, c3, cv, e⟩ | ⟨c1, c2, c3, c4, cv, cs, e⟩ | ⟨c1, c2, c3, c4, c5, cv, cw, e⟩ | e <;> rw [e] <;> simp
theorem rune_hit (l : List UInt8) (h : l ≠ []) (hb : ¬ badR l) : refB (codeN l (rwd l) (rwd l - 1)) = l.take (rwd l) := by
  have he := Go.Lib.encode_decode l h hb
  have hb' := hb
  unfold badR at hb'
  have : (Go.Lib.decodeL l).1 = codeN l (rwd l) (rwd l - 1) ∧ ((Go.Lib.decodeL l).1 < 55296 ∨ (57343 < (Go.Lib.decodeL l).1 ∧ (Go.Lib.decodeL l).1 ≤ 1114111)) := by
    unfold rwd
    rw [Go.Lib.decodeL_N] at hb' ⊢
    rcases Go.Lib.decodeN_shape l.length (l.getD 0 0).toNat (l.getD 1 0).toNat (l.getD 2 0).toNat (l.getD 3 0).toNat with ⟨c, e⟩ | ⟨c1, c2, c3, cv, e⟩ | ⟨c1, c2, c3, c4, cv, cs, e⟩ | ⟨c1, c2, c3, c4, c5, cv, cw, e⟩ | e
    · rw [e]; exact ⟨rfl, .inl (show _ < 55296 by omega)⟩
    · rw [e]
      refine ⟨?_, .inl (show _ < 55296 by omega)⟩
      show _ = 64 * ((l.getD 0 0).toNat % 32) + (l.getD 1 0).toNat % 64
      show (l.getD 0 0).toNat % 32 * 64 + (l.getD 1 0).toNat % 64 = _
      omega
    · rw [e]
      refine ⟨?_, show _ < 55296 ∨ _ by omega⟩
      show (l.getD 0 0).toNat % 16 * 4096 + (l.getD 1 0).toNat % 64 * 64 + (l.getD 2 0).toNat % 64 = 64 * (64 * ((l.getD 0 0).toNat % 16) + (l.getD 1 0).toNat % 64) + (l.getD 2 0).toNat % 64
      omega
    · rw [e]
      refine ⟨?_, .inr ⟨show 57343 < _ by omega, show _ ≤ 1114111 by omega⟩⟩
      show (l.getD 0 0).toNat % 8 * 262144 + (l.getD 1 0).toNat % 64 * 4096 + (l.getD 2 0).toNat % 64 * 64 + (l.getD 3 0).toNat % 64 = 64 * (64 * (64 * ((l.getD 0 0).toNat % 8) + (l.getD 1 0).toNat % 64) + (l.getD 2 0).toNat % 64) + (l.getD 3 0).toNat % 64
      omega
    · rw [e] at hb'; exact absurd ⟨rfl, rfl⟩ hb'
  obtain ⟨e1, e2⟩ := this
  unfold refB
  rw [← e1, if_pos e2]
  exact he
theorem rune_miss (l : List UInt8) (c n : Nat) (hn : 1 ≤ n) (hl : n ≤ l.length) (h : refB c = l.take n) : l ≠ [] ∧ ¬ badR l ∧ rwd l = n := by
  have hlen : (l.take n).length = n := by rw [List.length_take]; omega
  have hne : l ≠ [] := by intro e; rw [e] at hl; simp at hl; omega
  unfold refB at h
  split at h
  · rename_i hg
    have hd := enc_dec c hg (l.drop n)
    rw [show Go.Lib.encodeRune (c : Int) = l.take n from h, List.take_append_drop, hlen] at hd
    have hw : rwd l = n := by unfold rwd; rw [hd]
    refine ⟨hne, fun hb => ?_, hw⟩
    unfold badR at hb
    rw [hd] at hb
    have := enc_three c hb.1
    rw [show Go.Lib.encodeRune (c : Int) = l.take n from h, hlen] at this
    have h2 : n = 1 := hb.2
    omega
  · have := congrArg List.length h
    rw [hlen] at this
    simp at this
    omega
theorem refR_hit (l : List UInt8) (n : Nat) (hn : 1 ≤ n) (hl : n ≤ l.length) (h : refB (codeN l n (n - 1)) = l.take n) : refR l = l.take n := by
  obtain ⟨h1, h2, h3⟩ := rune_miss l _ n hn hl h
  unfold refR
  rw [if_neg (fun h => h.elim h1 h2), h3]
theorem refR_none (l : List UInt8) (h : ∀ n, 1 ≤ n → n ≤ 4 → n ≤ l.length → refB (codeN l n (n - 1)) ≠ l.take n) : refR l = [] := by
  unfold refR
  by_cases hc : l = [] ∨ badR l
  · rw [if_pos hc]
  · exfalso
    have h1 : l ≠ [] := fun e => hc (.inl e)
    have h2 : ¬ badR l := fun e => hc (.inr e)
    exact h (rwd l) (rwd_pos l) (rwd_four l) (rwd_le l h1) (rune_hit l h1 h2)
theorem refR_step (l : List UInt8) (h : l ≠ []) : (badR l ∧ refR l = []) ∨ (¬ badR l ∧ refR l = l.take (rwd l) ∧ refR l ≠ [] ∧ (refR l).length = rwd l) := by
  unfold refR
  by_cases hb : badR l
  · exact .inl ⟨hb, if_pos (.inr hb)⟩
  · rw [if_neg (fun e => e.elim h hb)]
    have h1 := rwd_pos l
    have h2 := rwd_le l h
    have hlen : (l.take (rwd l)).length = rwd l := by rw [List.length_take]; omega
    exact .inr ⟨hb, rfl, by intro e; rw [e] at hlen; simp at hlen; omega, hlen⟩
/-- the letters of marks of two bytes, in a list -/
def shortL : List (UInt8 × UInt8) := [(34, 34), (92, 92), (8, 98), (9, 116), (10, 110), (12, 102), (13, 114)]
end Go.Proofs.YtjkhihdghjoneaaDoor
