/- Plain laws: what is taken at the start of a text. -/
import Derived.Test.YtjkhihdghjoneaaDoorJTakePlain4
namespace Go.Proofs.YtjkhihdghjoneaaDoor
open Go.RowKit

theorem take_errs (f : Nat) : ∀ (r : List UInt8) (i : Nat) (acc : List UInt8), (takeR f r i acc).2.2 ≠ 0 →
    (takeR f r i acc).1 = [] ∧ (takeR f r i acc).2.1 ≤ i + r.length ∧ ((takeR f r i acc).2.2 = 3 ∧ (takeR f r i acc).2.1 = i + r.length ∨ (takeR f r i acc).2.2 = 4) := by
  induction f with
  | zero => intro r i acc _; exact ⟨rfl, Nat.le_refl _, .inl ⟨rfl, rfl⟩⟩
  | succ f ih =>
    intro r i acc h
    unfold takeR at h ⊢
    by_cases h0 : r = []
    · rw [if_pos h0] at h ⊢; subst h0; exact ⟨rfl, Nat.le_refl _, .inl ⟨rfl, rfl⟩⟩
    · rw [if_neg h0] at h ⊢
      rcases stepT_kind r with hk | hk | hk | hk
      · rw [hk, if_neg (by decide), if_neg (by decide), if_neg (by decide)] at h ⊢
        obtain ⟨s1, s2⟩ := stepT_on r h0 hk
        have := ih _ _ _ h
        rw [List.length_drop, show i + (stepT r).2.1 + (r.length - (stepT r).2.1) = i + r.length by omega] at this
        exact this
      · rw [hk, if_pos rfl] at h; exact absurd rfl h
      · rw [hk, if_neg (by decide), if_pos rfl]; exact ⟨rfl, Nat.le_refl _, .inl ⟨rfl, rfl⟩⟩
      · rw [hk, if_neg (by decide), if_neg (by decide), if_pos rfl]; exact ⟨rfl, Nat.le_add_right _ _, .inr rfl⟩
theorem enc_four (c : Int) : (Go.Lib.encodeRune c).length ≤ 4 := by
  have := Go.Lib.encodeRuneZ_length c
  have e : (Go.Lib.encodeRune c).length = (Go.Lib.encodeRuneZ c).length := by unfold Go.Lib.encodeRune; rw [List.length_map]
  omega
theorem stepT_len (r : List UInt8) (hr : r ≠ []) : (stepT r).2.2.length ≤ 4 := by
  unfold stepT
  split
  · exact Nat.zero_le _
  · split
    · split
      · exact Nat.zero_le _
      · split
        · exact Nat.zero_le _
        · exact enc_four _
    · split
      · exact Nat.zero_le _
      · rename_i h
        have hb : ¬ badR r := fun hb => h (.inl hb)
        have := Go.Lib.encode_decode r hr hb
        show (r.take (rwd r)).length ≤ 4
        rw [show r.take (rwd r) = Go.Lib.encodeRune ((Go.Lib.decodeL r).1 : Nat) from this.symm]
        exact enc_four _
theorem take_len (f : Nat) : ∀ (r : List UInt8) (i : Nat) (acc t : List UInt8) (n : Nat), takeR f r i acc = (t, n, 0) → t.length + 4 * i ≤ acc.length + 4 * n := by
  induction f with
  | zero => intro r i acc t n h; simp [takeR] at h
  | succ f ih =>
    intro r i acc t n h
    unfold takeR at h
    by_cases h0 : r = []
    · rw [if_pos h0] at h; simp at h
    · rw [if_neg h0] at h
      rcases stepT_kind r with hk | hk | hk | hk
      · rw [hk, if_neg (by decide), if_neg (by decide), if_neg (by decide)] at h
        obtain ⟨s1, s2⟩ := stepT_on r h0 hk
        have := ih _ _ _ _ _ h
        have := stepT_len r h0
        rw [List.length_append] at *
        omega
      · rw [hk, if_pos rfl] at h
        simp only [Prod.mk.injEq] at h
        obtain ⟨rfl, h2, _⟩ := h
        omega
      · rw [hk, if_neg (by decide), if_pos rfl] at h; simp at h
      · rw [hk, if_neg (by decide), if_neg (by decide), if_pos rfl] at h; simp at h
theorem take0 (l : List UInt8) : takeP l 0 = (if l.length = 0 then (([], 0, 3) : List UInt8 × Int × Nat) else if l.getD 0 0 ≠ 34 then ([], 0, 4) else ((takeR (l.length + 1) (l.drop 1) 1 []).1, ((takeR (l.length + 1) (l.drop 1) 1 []).2.1 : Nat), (takeR (l.length + 1) (l.drop 1) 1 []).2.2)) := by
  unfold takeP
  rw [if_neg (by omega)]
  by_cases h : l.length = 0
  · rw [if_pos (by omega), if_pos h]
  · rw [if_neg (by omega), if_neg h]; rfl
theorem take0_err (l : List UInt8) (h : (takeP l 0).2.2 ≠ 0) : (takeP l 0).1 = [] ∧ 0 ≤ (takeP l 0).2.1 ∧ (takeP l 0).2.1 ≤ (l.length : Int) ∧ ((takeP l 0).2.2 = 3 ∧ (takeP l 0).2.1 = (l.length : Int) ∨ (takeP l 0).2.2 = 4) := by
  rw [take0] at h ⊢
  by_cases h0 : l.length = 0
  · rw [if_pos h0]; exact ⟨rfl, Int.le_refl _, by show (0 : Int) ≤ _; omega, .inl ⟨rfl, by show (0 : Int) = _; omega⟩⟩
  · rw [if_neg h0] at h ⊢
    by_cases h1 : l.getD 0 0 ≠ 34
    · rw [if_pos h1]; exact ⟨rfl, Int.le_refl _, by show (0 : Int) ≤ _; omega, .inr rfl⟩
    · rw [if_neg h1] at h ⊢
      have := take_errs (l.length + 1) (l.drop 1) 1 [] h
      rw [List.length_drop] at this
      obtain ⟨a, b, c⟩ := this
      refine ⟨a, Int.natCast_nonneg _, ?_, ?_⟩
      · show ((takeR (l.length + 1) (l.drop 1) 1 []).2.1 : Int) ≤ _; omega
      · rcases c with ⟨c, d⟩ | c
        · exact .inl ⟨c, by show ((takeR (l.length + 1) (l.drop 1) 1 []).2.1 : Int) = _; omega⟩
        · exact .inr c
theorem take0_ok (l t : List UInt8) (N : Int) (h : takeP l 0 = (t, N, 0)) : ∃ n : Nat, N = n ∧ valR t = true ∧ 2 ≤ n ∧ n ≤ l.length ∧ l.getD 0 0 = 34 ∧ t.length ≤ 4 * n ∧ takeR (l.length + 1) (l.drop 1) 1 [] = (t, n, 0) := by
  rw [take0] at h
  by_cases h0 : l.length = 0
  · rw [if_pos h0] at h; simp at h
  · rw [if_neg h0] at h
    by_cases h1 : l.getD 0 0 ≠ 34
    · rw [if_pos h1] at h; simp at h
    · rw [if_neg h1] at h
      simp only [Prod.mk.injEq] at h
      obtain ⟨a, b, c⟩ := h
      obtain ⟨n, hn⟩ : ∃ n, (takeR (l.length + 1) (l.drop 1) 1 []).2.1 = n := ⟨_, rfl⟩
      have e : takeR (l.length + 1) (l.drop 1) 1 [] = (t, n, 0) := by
        rw [← a, ← c, ← hn]
      obtain ⟨u, e1, e2, e3, e4⟩ := take_val _ _ _ _ _ _ e
      rw [List.length_drop] at e4
      have hlen := take_len _ _ _ _ _ _ e
      rw [List.length_nil] at hlen
      refine ⟨n, by rw [← b, hn], ?_, by omega, by omega, Classical.not_not.1 h1, by omega, e⟩
      rw [e1]; exact e2
theorem take0_pre (l t b : List UInt8) (N : Int) (h : takeP l 0 = (t, N, 0)) : takeP (l.take N.toNat ++ b) 0 = (t, N, 0) := by
  obtain ⟨n, rfl, hv, h2, hl, h34, -, hr⟩ := take0_ok l t N h
  rw [Int.toNat_natCast, take0]
  have hlen : (l.take n ++ b).length = n + b.length := by rw [List.length_append, List.length_take]; omega
  rw [if_neg (by omega), if_neg (by rw [getD_pre l b n 0 (by omega) hl]; exact fun h => h h34), drop_pre l b 1 n (by omega) hl]
  have := take_pre _ _ _ _ _ _ hr b ((l.take n ++ b).length + 1) (by rw [List.length_append, List.length_take, List.length_drop]; omega)
  rw [this]
theorem take0_cut (l t : List UInt8) (N : Int) (h : takeP l 0 = (t, N, 0)) (k : Nat) (hk : (k : Int) < N) :
    (takeP (l.take k) 0).1 = [] ∧ (((takeP (l.take k) 0).2.2 = 3 ∧ (takeP (l.take k) 0).2.1 = (k : Int)) ∨ (takeP (l.take k) 0).2.2 = 4) := by
  obtain ⟨n, rfl, hv, h2, hl, h34, -, hr⟩ := take0_ok l t N h
  have hkn : k < n := by omega
  have hlen : (l.take k).length = k := by rw [List.length_take]; omega
  rw [take0]
  by_cases h0 : k = 0
  · rw [if_pos (by omega)]; exact ⟨rfl, .inl ⟨rfl, by show (0 : Int) = _; omega⟩⟩
  · have hg : (l.take k).getD 0 0 = 34 := by
      have := getD_pre l [] k 0 (by omega) (by omega)
      rw [List.append_nil] at this; rw [this, h34]
    rw [if_neg (by omega), if_neg (by rw [hg]; decide)]
    have hd : (l.take k).drop 1 = (l.drop 1).take (k - 1) := by rw [List.drop_take]
    have := take_cut _ _ _ _ _ _ hr (k - 1) ((l.take k).length + 1) (by omega) (by omega)
    rw [show 1 + (k - 1) = k by omega] at this
    rw [hd]
    obtain ⟨a, b⟩ := this
    refine ⟨a, ?_⟩
    rcases b with ⟨b, c⟩ | b
    · exact .inl ⟨b, by show ((takeR ((l.take k).length + 1) ((l.drop 1).take (k - 1)) 1 []).2.1 : Int) = _; omega⟩
    · exact .inr b
theorem unq_quo (x : List UInt8) (hv : valR x = true) : takeP (quoL x) 0 = (x, ((quoL x).length : Int), 0) := by
  have := quote_take [] x [] hv
  rw [List.nil_append, List.append_nil, List.length_nil, Nat.zero_add] at this
  exact this
end Go.Proofs.YtjkhihdghjoneaaDoor
