/- Plain laws: what is taken of quotes is valid; it comes back of a text's quotes; it hangs on its own bytes alone (no program in sight). -/
import Derived.Test.YtjkhihdghjoneaaDoorJTakePlain
namespace Go.Proofs.YtjkhihdghjoneaaDoor
open Go.RowKit

theorem dn_two (n b0 b1 b2 b3 : Nat) (h : b0 / 32 = 6) (h1 : 1 < n) (h2 : b1 / 64 = 2) (hv : 128 ≤ b0 % 32 * 64 + b1 % 64) : Go.Lib.decodeN n b0 b1 b2 b3 = (b0 % 32 * 64 + b1 % 64, 2) := by
  unfold Go.Lib.decodeN
  rw [if_neg (by omega), if_pos ⟨h, h1, h2⟩, if_pos hv]
theorem dn_three (n b0 b1 b2 b3 : Nat) (h : b0 / 16 = 14) (h1 : 2 < n) (h2 : b1 / 64 = 2) (h3 : b2 / 64 = 2) (hv : 2048 ≤ b0 % 16 * 4096 + b1 % 64 * 64 + b2 % 64) (hs : b0 % 16 * 4096 + b1 % 64 * 64 + b2 % 64 < 55296 ∨ 57344 ≤ b0 % 16 * 4096 + b1 % 64 * 64 + b2 % 64) :
    Go.Lib.decodeN n b0 b1 b2 b3 = (b0 % 16 * 4096 + b1 % 64 * 64 + b2 % 64, 3) := by
  unfold Go.Lib.decodeN
  rw [if_neg (by omega), if_neg (by omega), if_pos ⟨h, ⟨by omega, h2⟩, h1, h3⟩, if_pos (by omega)]
theorem dn_four (n b0 b1 b2 b3 : Nat) (h : b0 / 8 = 30) (h1 : 3 < n) (h2 : b1 / 64 = 2) (h3 : b2 / 64 = 2) (h4 : b3 / 64 = 2) (hv : 65536 ≤ b0 % 8 * 262144 + b1 % 64 * 4096 + b2 % 64 * 64 + b3 % 64) (hs : b0 % 8 * 262144 + b1 % 64 * 4096 + b2 % 64 * 64 + b3 % 64 ≤ 1114111) :
    Go.Lib.decodeN n b0 b1 b2 b3 = (b0 % 8 * 262144 + b1 % 64 * 4096 + b2 % 64 * 64 + b3 % 64, 4) := by
  unfold Go.Lib.decodeN
  rw [if_neg (by omega), if_neg (by omega), if_neg (by omega), if_pos ⟨h, ⟨by omega, h2⟩, ⟨by omega, h3⟩, h1, h4⟩, if_pos (by omega)]
theorem getD_pre (x t : List UInt8) (w j : Nat) (hj : j < w) (hw : w ≤ x.length) : (x.take w ++ t).getD j 0 = x.getD j 0 := by
  rw [List.getD_eq_getElem?_getD, List.getD_eq_getElem?_getD, List.getElem?_append_left (by rw [List.length_take]; omega), List.getElem?_take, if_pos hj]
/-- a rune is told by its own bytes -/
theorem dec_local (x t : List UInt8) (h : x ≠ []) (hb : ¬ badR x) : Go.Lib.decodeL (x.take (rwd x) ++ t) = Go.Lib.decodeL x := by
  have hw := rwd_le x h
  have hlen : rwd x ≤ (x.take (rwd x) ++ t).length := by rw [List.length_append, List.length_take]; omega
  have g := fun j (hj : j < rwd x) => getD_pre x t (rwd x) j hj hw
  unfold badR at hb
  unfold rwd at hlen g ⊢
  rw [Go.Lib.decodeL_N x] at hb
  rw [Go.Lib.decodeL_N]
  rcases Go.Lib.decodeN_shape x.length (x.getD 0 0).toNat (x.getD 1 0).toNat (x.getD 2 0).toNat (x.getD 3 0).toNat with ⟨c, e⟩ | ⟨c1, c2, c3, cv, e⟩ | ⟨c1, c2, c3, c4, cv, cs, e⟩ | ⟨c1, c2, c3, c4, c5, cv, cw, e⟩ | e
  · have hx : Go.Lib.decodeL x = _ := (Go.Lib.decodeL_N x).trans e
    rw [hx] at hlen g ⊢
    rw [g 0 (by omega), Go.Lib.decodeN_ascii _ _ _ _ _ c]
  · have hx : Go.Lib.decodeL x = _ := (Go.Lib.decodeL_N x).trans e
    rw [hx] at hlen g ⊢
    rw [g 0 (by omega), g 1 (by omega)]
    exact dn_two _ _ _ _ _ c1 (by omega) c3 cv
  · have hx : Go.Lib.decodeL x = _ := (Go.Lib.decodeL_N x).trans e
    rw [hx] at hlen g ⊢
    rw [g 0 (by omega), g 1 (by omega), g 2 (by omega)]
    exact dn_three _ _ _ _ _ c1 (by omega) c3 c4 cv cs
  · have hx : Go.Lib.decodeL x = _ := (Go.Lib.decodeL_N x).trans e
    rw [hx] at hlen g ⊢
    rw [g 0 (by omega), g 1 (by omega), g 2 (by omega), g 3 (by omega)]
    exact dn_four _ _ _ _ _ c1 (by omega) c3 c4 c5 cv cw
  · rw [e] at hb; exact absurd ⟨rfl, rfl⟩ hb
/-- a rune cut within is none -/
theorem dec_cut (x : List UInt8) (h : x ≠ []) (k : Nat) (hk : 0 < k) (hb : ¬ badR x) (hkw : k < rwd x) : badR (x.take k) := by
  have hw := rwd_le x h
  have hlen : (x.take k).length = k := by rw [List.length_take]; omega
  have g0 : (x.take k).getD 0 0 = x.getD 0 0 := by
    have := getD_pre x [] k 0 hk (by omega)
    rwa [List.append_nil] at this
  unfold badR at hb ⊢
  unfold rwd at hkw
  rw [Go.Lib.decodeL_N x] at hb hkw
  rw [Go.Lib.decodeL_N, hlen, g0]
  have key : Go.Lib.decodeN k (x.getD 0 0).toNat ((x.take k).getD 1 0).toNat ((x.take k).getD 2 0).toNat ((x.take k).getD 3 0).toNat = (65533, 1) := by
    unfold Go.Lib.decodeN
    rcases Go.Lib.decodeN_shape x.length (x.getD 0 0).toNat (x.getD 1 0).toNat (x.getD 2 0).toNat (x.getD 3 0).toNat with ⟨c, e⟩ | ⟨c1, c2, c3, cv, e⟩ | ⟨c1, c2, c3, c4, cv, cs, e⟩ | ⟨c1, c2, c3, c4, c5, cv, cw, e⟩ | e
    · rw [e] at hkw; simp at hkw; omega
    · rw [e] at hkw; simp at hkw
      rw [if_neg (by omega), if_neg (by omega), if_neg (by omega), if_neg (by omega)]
    · rw [e] at hkw; simp at hkw
      rw [if_neg (by omega), if_neg (by omega), if_neg (by omega), if_neg (by omega)]
    · rw [e] at hkw; simp at hkw
      rw [if_neg (by omega), if_neg (by omega), if_neg (by omega), if_neg (by omega)]
    · rw [e] at hb; exact absurd ⟨rfl, rfl⟩ hb
  rw [key]; exact ⟨rfl, rfl⟩
theorem byte_z (z : Int) (h0 : 0 ≤ z) (h1 : z < 256) : (z.toNat.toUInt8).toNat = z.toNat := by
  show (UInt8.ofNat z.toNat).toNat = _
  rw [UInt8.toNat_ofNat']; omega
/-- what a rune is laid as is told as it -/
theorem enc_dec (c : Nat) (h : goodR c) (t : List UInt8) : Go.Lib.decodeL (Go.Lib.encodeRune (c : Int) ++ t) = (c, (Go.Lib.encodeRune (c : Int)).length) := by
  unfold goodR at h
  rw [Go.Lib.decodeL_N]
  unfold Go.Lib.encodeRune
  by_cases a1 : c < 128
  · rw [Go.Lib.encodeRuneZ_one (by omega) (by omega)]
    simp only [List.map_cons, List.map_nil, List.cons_append, List.nil_append, List.getD_cons_zero, List.length_cons, List.length_nil]
    rw [byte_z _ (by omega) (by omega), Int.toNat_natCast, Go.Lib.decodeN_ascii _ _ _ _ _ a1]
  · by_cases a2 : c < 2048
    · rw [Go.Lib.encodeRuneZ_two (by omega) (by omega)]
      simp only [List.map_cons, List.map_nil, List.cons_append, List.nil_append, List.getD_cons_zero, List.getD_cons_succ, List.length_cons, List.length_nil]
      rw [byte_z (192 + (c : Int) / 64) (by omega) (by omega), byte_z (128 + (c : Int) % 64) (by omega) (by omega)]
      rw [dn_two _ _ _ _ _ (by omega) (by omega) (by omega) (by omega)]
      congr 1; omega
    · by_cases a3 : c < 65536
      · rw [Go.Lib.encodeRuneZ_three (by omega)]
        simp only [List.map_cons, List.map_nil, List.cons_append, List.nil_append, List.getD_cons_zero, List.getD_cons_succ, List.length_cons, List.length_nil]
        rw [byte_z (224 + (c : Int) / 4096) (by omega) (by omega), byte_z (128 + (c : Int) / 64 % 64) (by omega) (by omega), byte_z (128 + (c : Int) % 64) (by omega) (by omega)]
        rw [dn_three _ _ _ _ _ (by omega) (by omega) (by omega) (by omega) (by omega) (by omega)]
        congr 1; omega
      · rw [Go.Lib.encodeRuneZ_four (by omega) (by omega)]
        simp only [List.map_cons, List.map_nil, List.cons_append, List.nil_append, List.getD_cons_zero, List.getD_cons_succ, List.length_cons, List.length_nil]
        rw [byte_z (240 + (c : Int) / 262144) (by omega) (by omega), byte_z (128 + (c : Int) / 4096 % 64) (by omega) (by omega), byte_z (128 + (c : Int) / 64 % 64) (by omega) (by omega), byte_z (128 + (c : Int) % 64) (by omega) (by omega)]
        rw [dn_four _ _ _ _ _ (by omega) (by omega) (by omega) (by omega) (by omega) (by omega) (by omega)]
        congr 1; omega
theorem enc_ne (c : Int) : Go.Lib.encodeRune c ≠ [] := by
  intro e
  have h1 : (Go.Lib.encodeRune c).length = (Go.Lib.encodeRuneZ c).length := by unfold Go.Lib.encodeRune; rw [List.length_map]
  have h2 := (Go.Lib.encodeRuneZ_length c).1
  rw [e] at h1; simp at h1; omega
theorem enc_three (c : Nat) (h : c = 65533) : (Go.Lib.encodeRune (c : Int)).length = 3 := by subst h; decide
theorem val_enc (c : Nat) (h : goodR c) (t : List UInt8) : valR (Go.Lib.encodeRune (c : Int) ++ t) = valR t := by
  have hd := enc_dec c h t
  have hb : ¬ badR (Go.Lib.encodeRune (c : Int) ++ t) := by
    unfold badR; rw [hd]; rintro ⟨e1, e2⟩
    have := enc_three c e1
    simp at e2; omega
  rw [valR_step _ (by simp [enc_ne]) hb]
  unfold rwd; rw [hd, List.drop_left]
theorem val_rune (x t : List UInt8) (h : x ≠ []) (hb : ¬ badR x) : valR (x.take (rwd x) ++ t) = valR t := by
  have hd := dec_local x t h hb
  have hb2 : ¬ badR (x.take (rwd x) ++ t) := by unfold badR at hb ⊢; rw [hd]; exact hb
  have hpos := rwd_pos x
  have hle := rwd_le x h
  rw [valR_step _ (by intro e; have := congrArg List.length e; rw [List.length_append, List.length_take, List.length_nil] at this; omega) hb2]
  have e : rwd (x.take (rwd x) ++ t) = (x.take (rwd x)).length := by
    unfold rwd at hd ⊢; rw [hd, List.length_take]; unfold rwd at hle; omega
  rw [e, List.drop_left]

/-- what a step tells is a rune, or runes -/
theorem step_val (r : List UInt8) (hr : r ≠ []) (h : (stepT r).1 = 0) (t : List UInt8) : valR ((stepT r).2.2 ++ t) = valR t := by
  unfold stepT at h ⊢
  by_cases a1 : r.getD 0 0 = 34
  · rw [if_pos a1] at h; exact absurd h (by decide)
  · rw [if_neg a1] at h ⊢
    by_cases a2 : r.getD 0 0 = 92
    · rw [if_pos a2] at h ⊢
      by_cases a3 : (markP r).2.2 = 3
      · rw [if_pos a3] at h; exact absurd h (by decide)
      · rw [if_neg a3] at h ⊢
        by_cases a4 : (markP r).2.2 ≠ 0
        · rw [if_pos a4] at h; exact absurd h (by decide)
        · rw [if_neg a4]
          obtain ⟨_, _, p3⟩ := markP_ok r (by simpa using a4)
          exact val_enc _ p3 t
    · rw [if_neg a2] at h ⊢
      by_cases a3 : badR r ∨ (r.getD 0 0).toNat < 32
      · rw [if_pos a3] at h; exact absurd h (by decide)
      · rw [if_neg a3]; exact val_rune r t hr (fun hb => a3 (.inl hb))
/-- what is taken is valid -/
theorem take_val (f : Nat) : ∀ (r : List UInt8) (i : Nat) (acc t : List UInt8) (n : Nat), takeR f r i acc = (t, n, 0) → ∃ u, t = acc ++ u ∧ valR u = true ∧ i < n ∧ n ≤ i + r.length := by
  induction f with
  | zero => intro r i acc t n h; simp [takeR] at h
  | succ f ih =>
    intro r i acc t n h
    unfold takeR at h
    by_cases h0 : r = []
    · rw [if_pos h0] at h; simp at h
    · rw [if_neg h0] at h
      rcases stepT_kind r with hk | hk | hk | hk
      · rw [hk, if_neg (by decide), if_neg (by decide), if_neg (by decide)] at h
        obtain ⟨s1, s2⟩ := stepT_on r h0 hk
        obtain ⟨u, e, hv, h1, h2⟩ := ih _ _ _ _ _ h
        rw [List.length_drop] at h2
        exact ⟨(stepT r).2.2 ++ u, by rw [e, List.append_assoc], by rw [step_val r h0 hk]; exact hv, by omega, by omega⟩
      · rw [hk, if_pos rfl] at h
        simp only [Prod.mk.injEq] at h
        have := List.length_pos_iff.2 h0
        exact ⟨[], by rw [h.1, List.append_nil], valR_nil, by omega, by omega⟩
      · rw [hk, if_neg (by decide), if_pos rfl] at h; simp at h
      · rw [hk, if_neg (by decide), if_neg (by decide), if_pos rfl] at h; simp at h

theorem hex4_pre (k : Nat) : ∀ (c : Nat) (l b : List UInt8), (hex4 k c l).2 = 0 → hex4 k c (l.take k ++ b) = hex4 k c l := by
  induction k with
  | zero => intro c l b _; rfl
  | succ k ih =>
    intro c l b h
    cases l with
    | nil => exact absurd (show (3 : Nat) = 0 from h) (by decide)
    | cons x t =>
      rw [List.take_succ_cons, List.cons_append]
      unfold hex4 at h ⊢
      cases hb : hexV x with
      | none => rfl
      | some d => rw [hb] at h; exact ih _ _ _ h
theorem hex4_cut (k : Nat) : ∀ (c m : Nat) (l : List UInt8), (hex4 k c l).2 = 0 → m < k → hex4 k c (l.take m) = (0, 3) := by
  induction k with
  | zero => intro c m l _ hm; exact absurd hm (Nat.not_lt_zero _)
  | succ k ih =>
    intro c m l h hm
    cases l with
    | nil => exact absurd (show (3 : Nat) = 0 from h) (by decide)
    | cons x t =>
      cases m with
      | zero => rfl
      | succ m =>
        rw [List.take_succ_cons]
        unfold hex4 at h ⊢
        cases hb : hexV x with
        | none => rw [hb] at h; exact absurd (show (4 : Nat) = 0 from h) (by decide)
        | some d => rw [hb] at h; exact ih _ _ _ h (by omega)
theorem codeP_shape (l : List UInt8) (h : (codeP l).2 = 0) : ∃ u, l = 92 :: 117 :: u ∧ codeP l = hex4 4 0 u := by
  cases l with
  | nil => exact absurd h (by decide)
  | cons a t =>
    unfold codeP at h
    simp only [] at h
    by_cases ha : a = 92
    · rw [if_neg (by simp [ha])] at h
      cases t with
      | nil => exact absurd h (by decide)
      | cons b u =>
        simp only [] at h
        by_cases hb : b = 117
        · subst ha hb; exact ⟨u, rfl, rfl⟩
        · rw [if_pos hb] at h; exact absurd h (by decide)
    · rw [if_pos ha] at h; exact absurd h (by decide)
theorem codeP_pre (l b : List UInt8) (h : (codeP l).2 = 0) : codeP (l.take 6 ++ b) = codeP l := by
  obtain ⟨u, rfl, e⟩ := codeP_shape l h
  rw [e] at h ⊢
  show hex4 4 0 (u.take 4 ++ b) = _
  exact hex4_pre 4 0 u b h
theorem codeP_cut (l : List UInt8) (m : Nat) (h : (codeP l).2 = 0) (hm : m < 6) : codeP (l.take m) = (0, 3) := by
  obtain ⟨u, rfl, e⟩ := codeP_shape l h
  rw [e] at h
  match m, hm with
  | 0, _ => rfl
  | 1, _ => rfl
  | m + 2, hm => exact hex4_cut 4 0 m u h (by omega)
end Go.Proofs.YtjkhihdghjoneaaDoor
