/- Plain laws: taking hangs on its own bytes alone; a text comes back of its quotes (no program in sight). -/
import Derived.Test.YtjkhihdghjoneaaDoorJTakePlain2
namespace Go.Proofs.YtjkhihdghjoneaaDoor
open Go.RowKit

theorem take_six (l : List UInt8) (n : Nat) (h : 6 ≤ n) : l.take n = l.take 6 ++ (l.drop 6).take (n - 6) := by
  rw [← List.take_add]; congr 1; omega
theorem drop_six (l b : List UInt8) (n : Nat) (h : 6 ≤ n) (hl : 6 ≤ l.length) : (l.take n ++ b).drop 6 = (l.drop 6).take (n - 6) ++ b := by
  rw [take_six l n h, List.append_assoc, List.drop_append_of_le_length (by rw [List.length_take]; omega), List.drop_of_length_le (by rw [List.length_take]; omega)]; rfl
theorem pairP_pre (l b : List UInt8) (h : (pairP l).2.2 = 0) : pairP (l.take (pairP l).2.1 ++ b) = pairP l := by
  have h0 := h
  unfold pairP at h
  by_cases a1 : (codeP l).2 ≠ 0
  · rw [if_pos a1] at h; exact absurd h a1
  · rw [if_neg a1] at h
    have a1' : (codeP l).2 = 0 := by simpa using a1
    obtain ⟨l1, l2⟩ := codeP_ok l a1'
    by_cases a2 : (codeP l).1 < 55296 ∨ 57343 < (codeP l).1
    · have e : pairP l = ((codeP l).1, 6, 0) := by unfold pairP; rw [if_neg a1, if_pos a2]
      rw [e]
      show pairP (l.take 6 ++ b) = _
      unfold pairP
      rw [codeP_pre l b a1', if_neg a1, if_pos a2]
    · rw [if_neg a2] at h
      by_cases a3 : 56320 ≤ (codeP l).1
      · rw [if_pos a3] at h; exact absurd h (by decide)
      · rw [if_neg a3] at h
        by_cases a4 : (codeP (l.drop 6)).2 ≠ 0
        · rw [if_pos a4] at h; exact absurd h a4
        · rw [if_neg a4] at h
          have a4' : (codeP (l.drop 6)).2 = 0 := by simpa using a4
          by_cases a5 : (codeP (l.drop 6)).1 < 56320 ∨ 57343 < (codeP (l.drop 6)).1
          · rw [if_pos a5] at h; exact absurd h (by decide)
          · have e : pairP l = (65536 + ((codeP l).1 - 55296) * 1024 + ((codeP (l.drop 6)).1 - 56320), 12, 0) := by
              unfold pairP; rw [if_neg a1, if_neg a2, if_neg a3, if_neg a4, if_neg a5]
            rw [e]
            show pairP (l.take 12 ++ b) = _
            have c1 : codeP (l.take 12 ++ b) = codeP l := by
              rw [take_six l 12 (by decide), List.append_assoc]; exact codeP_pre l _ a1'
            have c2 : codeP ((l.take 12 ++ b).drop 6) = codeP (l.drop 6) := by
              rw [drop_six l b 12 (by decide) l1]; exact codeP_pre _ b a4'
            unfold pairP
            rw [c1, c2, if_neg a1, if_neg a2, if_neg a3, if_neg a4, if_neg a5]
theorem pairP_cut (l : List UInt8) (k : Nat) (h : (pairP l).2.2 = 0) (hk : k < (pairP l).2.1) : (pairP (l.take k)).2.2 = 3 := by
  have key : (codeP (l.take k)).2 = 3 → (pairP (l.take k)).2.2 = 3 := fun e => by
    unfold pairP; rw [if_pos (by rw [e]; decide)]; exact e
  unfold pairP at h hk
  by_cases a1 : (codeP l).2 ≠ 0
  · rw [if_pos a1] at h; exact absurd h a1
  · rw [if_neg a1] at h hk
    have a1' : (codeP l).2 = 0 := by simpa using a1
    obtain ⟨l1, l2⟩ := codeP_ok l a1'
    by_cases hk6 : k < 6
    · exact key (by rw [codeP_cut l k a1' hk6])
    · by_cases a2 : (codeP l).1 < 55296 ∨ 57343 < (codeP l).1
      · rw [if_pos a2] at hk; exact absurd hk (by show ¬ k < 6; omega)
      · rw [if_neg a2] at h hk
        by_cases a3 : 56320 ≤ (codeP l).1
        · rw [if_pos a3] at h; exact absurd h (by decide)
        · rw [if_neg a3] at h hk
          by_cases a4 : (codeP (l.drop 6)).2 ≠ 0
          · rw [if_pos a4] at h; exact absurd h a4
          · rw [if_neg a4] at h hk
            have a4' : (codeP (l.drop 6)).2 = 0 := by simpa using a4
            by_cases a5 : (codeP (l.drop 6)).1 < 56320 ∨ 57343 < (codeP (l.drop 6)).1
            · rw [if_pos a5] at h; exact absurd h (by decide)
            · rw [if_neg a5] at hk
              have hk12 : k < 12 := hk
              have c1 : codeP (l.take k) = codeP l := by
                rw [take_six l k (by omega)]; exact codeP_pre l _ a1'
              have c2 : codeP ((l.take k).drop 6) = (0, 3) := by
                have := drop_six l [] k (by omega) l1
                rw [List.append_nil, List.append_nil] at this
                rw [this]
                exact codeP_cut _ _ a4' (by omega)
              unfold pairP
              rw [c1, c2, if_neg a1, if_neg a2, if_neg a3, if_pos (by decide)]
theorem markP_pre (l b : List UInt8) (h : (markP l).2.2 = 0) : markP (l.take (markP l).2.1 ++ b) = markP l := by
  have h0 := h
  obtain ⟨p1, p2, _⟩ := markP_ok l h
  have g := getD_pre l b (markP l).2.1 1 (by omega) p2
  have hlen : ¬ (l.take (markP l).2.1 ++ b).length < 2 := by rw [List.length_append, List.length_take]; omega
  unfold markP at h
  by_cases a1 : l.length < 2
  · rw [if_pos a1] at h; exact absurd h (by decide)
  · rw [if_neg a1] at h
    by_cases a2 : escN (l.getD 1 0).toNat ≠ 0
    · have e : markP l = (escN (l.getD 1 0).toNat, 2, 0) := by unfold markP; rw [if_neg a1, if_pos a2]
      rw [e] at g hlen ⊢
      show markP (l.take 2 ++ b) = _
      unfold markP
      rw [if_neg hlen, g, if_pos a2]
    · rw [if_neg a2] at h
      have e : markP l = pairP l := by unfold markP; rw [if_neg a1, if_neg a2]
      rw [e] at g hlen ⊢
      unfold markP
      rw [if_neg hlen, g, if_neg a2]
      exact pairP_pre l b h
theorem markP_cut (l : List UInt8) (k : Nat) (h : (markP l).2.2 = 0) (hk : k < (markP l).2.1) : (markP (l.take k)).2.2 = 3 := by
  obtain ⟨p1, p2, _⟩ := markP_ok l h
  by_cases hk2 : k < 2
  · unfold markP; rw [if_pos (by rw [List.length_take]; omega)]
  · have g := getD_pre l [] k 1 (by omega) (by omega)
    rw [List.append_nil] at g
    unfold markP at h hk
    by_cases a1 : l.length < 2
    · rw [if_pos a1] at h; exact absurd h (by decide)
    · rw [if_neg a1] at h hk
      by_cases a2 : escN (l.getD 1 0).toNat ≠ 0
      · rw [if_pos a2] at hk; exact absurd hk hk2
      · rw [if_neg a2] at h hk
        unfold markP
        rw [if_neg (by rw [List.length_take]; omega), g, if_neg a2]
        exact pairP_cut l k h hk

theorem stepT_pre (r b : List UInt8) (hr : r ≠ []) (h : (stepT r).1 = 0) : stepT (r.take (stepT r).2.1 ++ b) = stepT r := by
  obtain ⟨s1, s2⟩ := stepT_on r hr h
  have g := getD_pre r b (stepT r).2.1 0 (by omega) s2
  unfold stepT at h
  by_cases a1 : r.getD 0 0 = 34
  · rw [if_pos a1] at h; exact absurd h (by decide)
  · rw [if_neg a1] at h
    by_cases a2 : r.getD 0 0 = 92
    · rw [if_pos a2] at h
      by_cases a3 : (markP r).2.2 = 3
      · rw [if_pos a3] at h; exact absurd h (by decide)
      · rw [if_neg a3] at h
        by_cases a4 : (markP r).2.2 ≠ 0
        · rw [if_pos a4] at h; exact absurd h (by decide)
        · have e : stepT r = (0, (markP r).2.1, Go.Lib.encodeRune ((markP r).1 : Nat)) := by unfold stepT; rw [if_neg a1, if_pos a2, if_neg a3, if_neg a4]
          rw [e] at g ⊢
          have hm := markP_pre r b (by simpa using a4)
          show stepT (r.take (markP r).2.1 ++ b) = _
          unfold stepT
          rw [g, hm, if_neg a1, if_pos a2, if_neg a3, if_neg a4]
    · rw [if_neg a2] at h
      by_cases a3 : badR r ∨ (r.getD 0 0).toNat < 32
      · rw [if_pos a3] at h; exact absurd h (by decide)
      · have hb : ¬ badR r := fun hb => a3 (.inl hb)
        have e : stepT r = (0, rwd r, r.take (rwd r)) := by unfold stepT; rw [if_neg a1, if_neg a2, if_neg a3]
        rw [e] at g s2 ⊢
        have hd := dec_local r b hr hb
        have hw : rwd (r.take (rwd r) ++ b) = rwd r := by unfold rwd at hd ⊢; rw [hd]
        have hb2 : badR (r.take (rwd r) ++ b) ↔ badR r := by unfold badR; rw [hd]
        show stepT (r.take (rwd r) ++ b) = _
        unfold stepT
        rw [g, if_neg a1, if_neg a2, if_neg (by rw [hb2]; exact a3), hw, List.take_append_of_le_length (by rw [List.length_take]; have : rwd r ≤ r.length := s2; omega), List.take_take, Nat.min_self]
theorem stepT_cut (r : List UInt8) (hr : r ≠ []) (k : Nat) (hk0 : 0 < k) (h : (stepT r).1 = 0) (hk : k < (stepT r).2.1) : (stepT (r.take k)).1 = 3 ∨ (stepT (r.take k)).1 = 4 := by
  obtain ⟨s1, s2⟩ := stepT_on r hr h
  have g := getD_pre r [] k 0 hk0 (by omega)
  rw [List.append_nil] at g
  unfold stepT at h hk
  by_cases a1 : r.getD 0 0 = 34
  · rw [if_pos a1] at h; exact absurd h (by decide)
  · rw [if_neg a1] at h hk
    by_cases a2 : r.getD 0 0 = 92
    · rw [if_pos a2] at h hk
      by_cases a3 : (markP r).2.2 = 3
      · rw [if_pos a3] at h; exact absurd h (by decide)
      · rw [if_neg a3] at h hk
        by_cases a4 : (markP r).2.2 ≠ 0
        · rw [if_pos a4] at h; exact absurd h (by decide)
        · rw [if_neg a4] at hk
          left
          unfold stepT
          rw [g, if_neg a1, if_pos a2, if_pos (markP_cut r k (by simpa using a4) hk)]
    · rw [if_neg a2] at h hk
      by_cases a3 : badR r ∨ (r.getD 0 0).toNat < 32
      · rw [if_pos a3] at h; exact absurd h (by decide)
      · rw [if_neg a3] at hk
        right
        unfold stepT
        rw [g, if_neg a1, if_neg a2, if_pos (.inl (dec_cut r hr k hk0 (fun hb => a3 (.inl hb)) hk))]
theorem stepT_one (r : List UInt8) (h : (stepT r).1 = 1) : r.getD 0 0 = 34 := by
  unfold stepT at h
  by_cases a1 : r.getD 0 0 = 34
  · exact a1
  · rw [if_neg a1] at h
    split at h
    · split at h
      · exact absurd h (by decide)
      · split at h
        · exact absurd h (by decide)
        · exact absurd (show (0 : Nat) = 1 from h) (by decide)
    · split at h
      · exact absurd h (by decide)
      · exact absurd (show (0 : Nat) = 1 from h) (by decide)
theorem stepT_end (r : List UInt8) (h : r.getD 0 0 = 34) : stepT r = (1, 1, []) := by unfold stepT; rw [if_pos h]
theorem drop_pre (r b : List UInt8) (n m : Nat) (hn : n ≤ m) (hm : m ≤ r.length) : (r.take m ++ b).drop n = (r.drop n).take (m - n) ++ b := by
  rw [List.drop_append_of_le_length (by rw [List.length_take]; omega), List.drop_take]
theorem take_split (r : List UInt8) (n m : Nat) (hn : n ≤ m) : r.take m = r.take n ++ (r.drop n).take (m - n) := by
  rw [← List.take_add]; congr 1; omega

/-- taking hangs on the bytes that are taken, and on no other -/
theorem take_pre (f : Nat) : ∀ (r : List UInt8) (i : Nat) (acc t : List UInt8) (N : Nat), takeR f r i acc = (t, N, 0) → ∀ (b : List UInt8) (g : Nat), (r.take (N - i) ++ b).length < g → takeR g (r.take (N - i) ++ b) i acc = (t, N, 0) := by
  induction f with
  | zero => intro r i acc t N h; simp [takeR] at h
  | succ f ih =>
    intro r i acc t N h b g hg
    obtain ⟨_, _, _, hN1, hN2⟩ := take_val _ _ _ _ _ _ h
    unfold takeR at h
    by_cases h0 : r = []
    · rw [if_pos h0] at h; simp at h
    · have hpos := List.length_pos_iff.2 h0
      rw [if_neg h0] at h
      cases g with
      | zero => exact absurd hg (Nat.not_lt_zero _)
      | succ g =>
        have hne : r.take (N - i) ++ b ≠ [] := by
          intro e; have := congrArg List.length e; rw [List.length_append, List.length_take, List.length_nil] at this; omega
        have g0 := getD_pre r b (N - i) 0 (by omega) (by omega)
        rcases stepT_kind r with hk | hk | hk | hk
        · rw [hk, if_neg (by decide), if_neg (by decide), if_neg (by decide)] at h
          obtain ⟨s1, s2⟩ := stepT_on r h0 hk
          obtain ⟨_, _, _, hM1, hM2⟩ := take_val _ _ _ _ _ _ h
          have hs : stepT (r.take (N - i) ++ b) = stepT r := by
            rw [take_split r (stepT r).2.1 (N - i) (by omega), List.append_assoc]
            exact stepT_pre r _ h0 hk
          have := ih _ _ _ _ _ h b g
          unfold takeR
          rw [if_neg hne, hs, hk, if_neg (by decide), if_neg (by decide), if_neg (by decide), drop_pre r b _ _ (by omega) (by omega)]
          rw [show N - i - (stepT r).2.1 = N - (i + (stepT r).2.1) by omega]
          refine this ?_
          rw [List.length_append, List.length_take, List.length_drop]
          rw [List.length_append, List.length_take] at hg
          omega
        · rw [hk, if_pos rfl] at h
          have hs : stepT (r.take (N - i) ++ b) = (1, 1, []) := stepT_end _ (by rw [g0]; exact stepT_one r hk)
          unfold takeR
          rw [if_neg hne, hs, if_pos rfl]; exact h
        · rw [hk, if_neg (by decide), if_pos rfl] at h; simp at h
        · rw [hk, if_neg (by decide), if_neg (by decide), if_pos rfl] at h; simp at h
theorem take_cut (f : Nat) : ∀ (r : List UInt8) (i : Nat) (acc t : List UInt8) (N : Nat), takeR f r i acc = (t, N, 0) → ∀ (k g : Nat), k < N - i → k < g →
    (takeR g (r.take k) i acc).1 = [] ∧ (((takeR g (r.take k) i acc).2.2 = 3 ∧ (takeR g (r.take k) i acc).2.1 = i + k) ∨ (takeR g (r.take k) i acc).2.2 = 4) := by
  induction f with
  | zero => intro r i acc t N h; simp [takeR] at h
  | succ f ih =>
    intro r i acc t N h k g hk hg
    obtain ⟨_, _, _, hN1, hN2⟩ := take_val _ _ _ _ _ _ h
    cases g with
    | zero => exact absurd hg (Nat.not_lt_zero _)
    | succ g =>
      by_cases hk0 : k = 0
      · subst hk0
        unfold takeR
        rw [List.take_zero, if_pos rfl]
        exact ⟨rfl, .inl ⟨rfl, rfl⟩⟩
      · unfold takeR at h
        by_cases h0 : r = []
        · rw [if_pos h0] at h; simp at h
        · have hpos := List.length_pos_iff.2 h0
          rw [if_neg h0] at h
          have hlk : (r.take k).length = k := by rw [List.length_take]; omega
          have hne : r.take k ≠ [] := by intro e; rw [e] at hlk; simp at hlk; omega
          rcases stepT_kind r with hk' | hk' | hk' | hk'
          · rw [hk', if_neg (by decide), if_neg (by decide), if_neg (by decide)] at h
            obtain ⟨s1, s2⟩ := stepT_on r h0 hk'
            by_cases hkn : k < (stepT r).2.1
            · unfold takeR
              rw [if_neg hne]
              rcases stepT_cut r h0 k (by omega) hk' hkn with hc | hc
              · rw [hc, if_neg (by decide), if_pos rfl, hlk]; exact ⟨rfl, .inl ⟨rfl, rfl⟩⟩
              · rw [hc, if_neg (by decide), if_neg (by decide), if_pos rfl]; exact ⟨rfl, .inr rfl⟩
            · have hs : stepT (r.take k) = stepT r := by
                rw [take_split r (stepT r).2.1 k (by omega)]
                exact stepT_pre r _ h0 hk'
              have hdrop : (r.take k).drop (stepT r).2.1 = (r.drop (stepT r).2.1).take (k - (stepT r).2.1) := by rw [List.drop_take]
              have := ih _ _ _ _ _ h (k - (stepT r).2.1) g (by omega) (by omega)
              unfold takeR
              rw [if_neg hne, hs, hk', if_neg (by decide), if_neg (by decide), if_neg (by decide), hdrop]
              rw [show i + (stepT r).2.1 + (k - (stepT r).2.1) = i + k by omega] at this
              exact this
          · rw [hk', if_pos rfl] at h
            simp only [Prod.mk.injEq] at h
            omega
          · rw [hk', if_neg (by decide), if_pos rfl] at h; simp at h
          · rw [hk', if_neg (by decide), if_neg (by decide), if_pos rfl] at h; simp at h
end Go.Proofs.YtjkhihdghjoneaaDoor
