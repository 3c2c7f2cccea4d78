/- Plain laws: a valid text comes back of its quotes (no program in sight). -/
import Derived.Test.YtjkhihdghjoneaaDoorJTakePlain3
namespace Go.Proofs.YtjkhihdghjoneaaDoor
open Go.RowKit

theorem enc_low (c : UInt8) (h : c.toNat < 128) : Go.Lib.encodeRune (c.toNat : Int) = [c] := by
  unfold Go.Lib.encodeRune
  rw [Go.Lib.encodeRuneZ_one (by omega) (by omega)]
  simp
theorem hexB_val : ∀ d, d < 16 → hexV (hexB d) = some d := by decide
theorem short_esc : ∀ c : Fin 256, shortN c.val ≠ 0 → escN (UInt8.ofNat (shortN c.val)).toNat = c.val := by decide +kernel
theorem short_low (c : Nat) (h : shortN c ≠ 0) : c < 128 := by
  unfold shortN at h
  repeat' split at h
  all_goals omega
theorem stepT_mark (r : List UInt8) (h0 : r.getD 0 0 = 92) (n w : Nat) (hm : markP r = (n, w, 0)) : stepT r = (0, w, Go.Lib.encodeRune (n : Nat)) := by
  unfold stepT
  rw [if_neg (by rw [h0]; decide), if_pos h0, hm, if_neg (show ¬ (0 : Nat) = 3 by decide), if_neg (show ¬ (0 : Nat) ≠ 0 by decide)]
theorem takeR_on (g : Nat) (r : List UInt8) (i : Nat) (acc : List UInt8) (hr : r ≠ []) (w : Nat) (x : List UInt8) (hs : stepT r = (0, w, x)) : takeR (g + 1) r i acc = takeR g (r.drop w) (i + w) (acc ++ x) := by
  show (if r = [] then ([], i, 3) else if (stepT r).1 = 1 then (acc, i + 1, 0) else if (stepT r).1 = 3 then ([], i + r.length, 3) else if (stepT r).1 = 4 then ([], i, 4)
    else takeR g (r.drop (stepT r).2.1) (i + (stepT r).2.1) (acc ++ (stepT r).2.2)) = _
  rw [if_neg hr, hs, if_neg (show ¬ (0 : Nat) = 1 by decide), if_neg (show ¬ (0 : Nat) = 3 by decide), if_neg (show ¬ (0 : Nat) = 4 by decide)]
theorem step_esc (c : UInt8) (t : List UInt8) (h : shortN c.toNat ≠ 0) : stepT (92 :: UInt8.ofNat (shortN c.toNat) :: t) = (0, 2, [c]) := by
  have he := short_esc ⟨c.toNat, c.toNat_lt⟩ h
  have hl := short_low _ h
  have hc0 : c.toNat ≠ 0 := by intro e; rw [e] at h; exact h rfl
  have hm : markP (92 :: UInt8.ofNat (shortN c.toNat) :: t) = (c.toNat, 2, 0) := by
    unfold markP
    rw [if_neg (by simp)]
    show (if escN (UInt8.ofNat (shortN c.toNat)).toNat ≠ 0 then (escN (UInt8.ofNat (shortN c.toNat)).toNat, 2, 0) else _) = _
    rw [show escN (UInt8.ofNat (shortN c.toNat)).toNat = c.toNat from he, if_pos hc0]
  rw [stepT_mark _ rfl _ _ hm, enc_low c hl]
theorem step_hex (c : UInt8) (t : List UInt8) (h : c.toNat < 32) : stepT (92 :: 117 :: 48 :: 48 :: hexB (c.toNat / 16) :: hexB (c.toNat % 16) :: t) = (0, 6, [c]) := by
  have h1 := hexB_val (c.toNat / 16) (by omega)
  have h2 := hexB_val (c.toNat % 16) (by omega)
  have hc : codeP (92 :: 117 :: 48 :: 48 :: hexB (c.toNat / 16) :: hexB (c.toNat % 16) :: t) = (c.toNat, 0) := by
    show hex4 4 0 (48 :: 48 :: hexB (c.toNat / 16) :: hexB (c.toNat % 16) :: t) = _
    show hex4 2 0 (hexB (c.toNat / 16) :: hexB (c.toNat % 16) :: t) = _
    unfold hex4
    rw [h1]
    show hex4 1 _ _ = _
    unfold hex4
    rw [h2]
    show ((0 * 16 + c.toNat / 16) * 16 + c.toNat % 16, 0) = _
    congr 1; omega
  have hp : pairP (92 :: 117 :: 48 :: 48 :: hexB (c.toNat / 16) :: hexB (c.toNat % 16) :: t) = (c.toNat, 6, 0) := by
    unfold pairP
    rw [hc, if_neg (show ¬ (0 : Nat) ≠ 0 by decide), if_pos (.inl (by show c.toNat < _; omega))]
  have hm : markP (92 :: 117 :: 48 :: 48 :: hexB (c.toNat / 16) :: hexB (c.toNat % 16) :: t) = (c.toNat, 6, 0) := by
    unfold markP
    rw [if_neg (by simp)]
    refine (if_neg (show ¬ escN ((117 : UInt8)).toNat ≠ 0 by decide)).trans hp
  rw [stepT_mark _ rfl _ _ hm, enc_low c (by omega)]
theorem step_plain (c : UInt8) (t : List UInt8) (h1 : 32 ≤ c.toNat) (h2 : c.toNat < 128) (h3 : c ≠ 34) (h4 : c ≠ 92) : stepT (c :: t) = (0, 1, [c]) := by
  have hd := low_rune c t h2
  unfold stepT
  rw [if_neg (by simpa using h3), if_neg (by simpa using h4), if_neg]
  · have : rwd (c :: t) = 1 := by unfold rwd; rw [hd]
    rw [this]; rfl
  · rintro (hb | hb)
    · unfold badR at hb; rw [hd] at hb; have := hb.1; simp at this; omega
    · have : c.toNat < 32 := hb
      omega
/-- a byte's own quotes tell it -/
theorem step_qb (c : UInt8) (t : List UInt8) (h : c.toNat < 128) : stepT (qb c ++ t) = (0, (qb c).length, [c]) := by
  unfold qb
  by_cases a : shortN c.toNat ≠ 0
  · rw [if_pos a]; exact step_esc c t a
  · rw [if_neg a]
    by_cases b : c.toNat < 32
    · rw [if_pos b]; exact step_hex c t b
    · rw [if_neg b]
      refine step_plain c t (by omega) h (fun e => ?_) (fun e => ?_)
      · subst e; exact a (by decide)
      · subst e; exact a (by decide)
theorem qb_ne (c : UInt8) : qb c ≠ [] := by
  unfold qb; split
  · simp
  · split <;> simp
theorem val_head (x : List UInt8) (h : x ≠ []) (hv : valR x = true) : ¬ badR x := fun hb => by
  rw [valR_bad x h hb] at hv; exact absurd hv (by decide)
theorem take_back (k : Nat) : ∀ (x b : List UInt8) (i : Nat) (acc : List UInt8) (g : Nat), x.length ≤ k → valR x = true → (x.flatMap qb ++ 34 :: b).length < g →
    takeR g (x.flatMap qb ++ 34 :: b) i acc = (acc ++ x, i + (x.flatMap qb).length + 1, 0) := by
  induction k with
  | zero =>
    intro x b i acc g hk hv hg
    rw [List.length_eq_zero_iff.1 (Nat.le_zero.1 hk)] at hg ⊢
    cases g with
    | zero => exact absurd hg (Nat.not_lt_zero _)
    | succ g =>
      show takeR (g + 1) (34 :: b) i acc = _
      unfold takeR
      rw [if_neg (by simp), stepT_end (34 :: b) rfl, if_pos rfl, List.append_nil]; rfl
  | succ k ih =>
    intro x b i acc g hk hv hg
    cases g with
    | zero => exact absurd hg (Nat.not_lt_zero _)
    | succ g =>
      by_cases h0 : x = []
      · subst h0
        show takeR (g + 1) (34 :: b) i acc = _
        unfold takeR
        rw [if_neg (by simp), stepT_end (34 :: b) rfl, if_pos rfl, List.append_nil]; rfl
      · have hb := val_head x h0 hv
        by_cases hlow : (x.getD 0 0).toNat < 128
        · obtain ⟨c, t, rfl⟩ : ∃ c t, x = c :: t := by cases x with
            | nil => exact absurd rfl h0
            | cons c t => exact ⟨c, t, rfl⟩
          have hc : c.toNat < 128 := hlow
          have hd := low_rune c t hc
          have hw : rwd (c :: t) = 1 := by unfold rwd; rw [hd]
          have hv2 : valR t = true := by rw [valR_step _ h0 hb, hw] at hv; exact hv
          have hs := step_qb c (t.flatMap qb ++ 34 :: b) hc
          rw [List.flatMap_cons, List.append_assoc] at hg ⊢
          have hq := qb_ne c
          have hql := List.length_pos_iff.2 hq
          rw [takeR_on g _ i acc (by simp [hq]) _ _ hs]
          rw [List.drop_left, ih t b _ _ g (by simp at hk; omega) hv2 (by rw [List.length_append] at hg; omega)]
          rw [List.append_assoc]
          simp only [List.length_append, List.cons_append, List.nil_append]
          congr 2; omega
        · have hh : 128 ≤ (x.getD 0 0).toNat := by omega
          have htk := take_high x h0 hb hh
          have hwp := rwd_pos x
          have hwl := rwd_le x h0
          have e : x.flatMap qb = x.take (rwd x) ++ (x.drop (rwd x)).flatMap qb := by
            conv => lhs; rw [← List.take_append_drop (rwd x) x]
            rw [List.flatMap_append, flat_high _ htk]
          have hv2 : valR (x.drop (rwd x)) = true := by rw [← valR_step x h0 hb]; exact hv
          rw [e, List.append_assoc] at hg ⊢
          have hlen : (x.take (rwd x)).length = rwd x := by rw [List.length_take]; omega
          have g0 := getD_pre x ((x.drop (rwd x)).flatMap qb ++ 34 :: b) (rwd x) 0 (by omega) hwl
          have hd := dec_local x ((x.drop (rwd x)).flatMap qb ++ 34 :: b) h0 hb
          have hw2 : rwd (x.take (rwd x) ++ ((x.drop (rwd x)).flatMap qb ++ 34 :: b)) = rwd x := by unfold rwd at hd ⊢; rw [hd]
          have hb2 : badR (x.take (rwd x) ++ ((x.drop (rwd x)).flatMap qb ++ 34 :: b)) ↔ badR x := by unfold badR; rw [hd]
          have hs : stepT (x.take (rwd x) ++ ((x.drop (rwd x)).flatMap qb ++ 34 :: b)) = (0, rwd x, x.take (rwd x)) := by
            unfold stepT
            rw [g0, if_neg (by intro e; rw [e] at hh; exact absurd hh (by decide)), if_neg (by intro e; rw [e] at hh; exact absurd hh (by decide)), if_neg, hw2, List.take_append_of_le_length (by omega), List.take_take, Nat.min_self]
            rintro (h | h)
            · exact hb (hb2.1 h)
            · omega
          rw [takeR_on g _ i acc (by intro e; have := congrArg List.length e; rw [List.length_append, List.length_nil] at this; omega) _ _ hs]
          rw [show (x.take (rwd x) ++ ((x.drop (rwd x)).flatMap qb ++ 34 :: b)).drop (rwd x) = (x.drop (rwd x)).flatMap qb ++ 34 :: b by
            exact List.drop_left' hlen]
          rw [ih (x.drop (rwd x)) b _ _ g (by have := drop_lt x h0; omega) hv2 (by rw [List.length_append] at hg; omega)]
          rw [List.append_assoc, List.take_append_drop, List.length_append, hlen]
          congr 2; omega

/-- a text's quotes, taken -/
theorem quote_take (a x b : List UInt8) (hv : valR x = true) : takeP (a ++ quoL x ++ b) (a.length : Int) = (x, ((a.length + (quoL x).length : Nat) : Int), 0) := by
  have hq : (quoL x).length = (x.flatMap qb).length + 2 := by unfold quoL; simp
  unfold takeP
  rw [if_neg (by simp; omega), if_neg (by simp; omega), Int.toNat_natCast]
  have hg : (a ++ quoL x ++ b).getD a.length 0 = 34 := by
    rw [List.append_assoc, List.getD_eq_getElem?_getD, List.getElem?_append_right (Nat.le_refl _), Nat.sub_self]; rfl
  rw [if_neg (by rw [hg]; decide)]
  have hd : (a ++ quoL x ++ b).drop (a.length + 1) = x.flatMap qb ++ 34 :: b := by
    rw [List.append_assoc, ← List.drop_drop, List.drop_left]
    unfold quoL
    simp
  rw [hd, take_back x.length x b (a.length + 1) [] _ (Nat.le_refl _) hv (by
    simp only [List.length_append, List.length_cons, hq]; omega)]
  simp only [List.nil_append]
  rw [hq]
  congr 2; omega
theorem val_append (k : Nat) : ∀ x b : List UInt8, x.length ≤ k → valR x = true → valR (x ++ b) = valR b ∧ (stpR (x ++ b) = stpR x + stpR b) := by
  induction k with
  | zero => intro x b h _; rw [List.length_eq_zero_iff.1 (Nat.le_zero.1 h), List.nil_append, stpR_nil, Nat.zero_add]; exact ⟨rfl, rfl⟩
  | succ k ih =>
    intro x b h hv
    by_cases h0 : x = []
    · rw [h0, List.nil_append, stpR_nil, Nat.zero_add]; exact ⟨rfl, rfl⟩
    · have hb := val_head x h0 hv
      have hwl := rwd_le x h0
      have e : x ++ b = x.take (rwd x) ++ (x.drop (rwd x) ++ b) := by rw [← List.append_assoc, List.take_append_drop]
      have hd := dec_local x (x.drop (rwd x) ++ b) h0 hb
      rw [← e] at hd
      have hw2 : rwd (x ++ b) = rwd x := by unfold rwd; rw [hd]
      have hb2 : ¬ badR (x ++ b) := by unfold badR at hb ⊢; rw [hd]; exact hb
      have hne : x ++ b ≠ [] := by simp [h0]
      have hv2 : valR (x.drop (rwd x)) = true := by rw [← valR_step x h0 hb]; exact hv
      have hdr : (x ++ b).drop (rwd x) = x.drop (rwd x) ++ b := List.drop_append_of_le_length hwl
      obtain ⟨i1, i2⟩ := ih (x.drop (rwd x)) b (by have := drop_lt x h0; omega) hv2
      rw [valR_step _ hne hb2, stpR_step _ hne, hw2, hdr, i1, i2, stpR_step x h0]
      exact ⟨rfl, by omega⟩
theorem quo_ge (x : List UInt8) : ∀ c ∈ quoL x, 32 ≤ c.toNat := by
  have hq : ∀ d c, c ∈ qb d → 32 ≤ c.toNat := by
    intro d c hc
    unfold qb at hc
    split at hc
    · rename_i h
      have : ∀ e : Fin 256, shortN e.val ≠ 0 → 32 ≤ (UInt8.ofNat (shortN e.val)).toNat := by decide +kernel
      simp at hc
      rcases hc with rfl | rfl
      · decide
      · exact this ⟨d.toNat, d.toNat_lt⟩ h
    · split at hc
      · rename_i h32
        have hx : ∀ e, e < 16 → 32 ≤ (hexB e).toNat := by decide
        simp at hc
        rcases hc with rfl | rfl | rfl | rfl | rfl
        · decide
        · decide
        · decide
        · exact hx _ (by omega)
        · exact hx _ (by omega)
      · simp at hc; subst hc; omega
  intro c hc
  unfold quoL at hc
  simp at hc
  rcases hc with rfl | ⟨d, _, h⟩ | rfl
  · decide
  · exact hq d c h
  · decide
end Go.Proofs.YtjkhihdghjoneaaDoor
