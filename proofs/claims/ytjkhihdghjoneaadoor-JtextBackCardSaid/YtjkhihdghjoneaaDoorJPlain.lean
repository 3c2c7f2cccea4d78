/- Plain laws: runes and quotes (no program in sight). -/
import Derived.Test.YtjkhihdghjoneaaDoorJBase
import Derived.Lib.MapLaws
import Derived.Lib.ValidU
import Derived.Lib.RuneBytes
import Derived.Lib.TrimAscii
namespace Go.Proofs.YtjkhihdghjoneaaDoor
open Go.RowKit

/-- a text begins with no rune -/
def badR (l : List UInt8) : Prop := (Go.Lib.decodeL l).1 = 65533 ∧ (Go.Lib.decodeL l).2 = 1
instance (l : List UInt8) : Decidable (badR l) := by unfold badR; infer_instance
/-- how many bytes the rune has with which a text begins -/
def rwd (l : List UInt8) : Nat := (Go.Lib.decodeL l).2
theorem rwd_pos (l : List UInt8) : 1 ≤ rwd l := Go.Lib.decodeL_width l
theorem rwd_le (l : List UInt8) (h : l ≠ []) : rwd l ≤ l.length := Go.Lib.decodeL_le l h
theorem drop_lt (l : List UInt8) (h : l ≠ []) : (l.drop (rwd l)).length < l.length := by
  rw [List.length_drop]; have := rwd_pos l; have := List.length_pos_iff.2 h; omega
def valR (l : List UInt8) : Bool := if h : l = [] then true else if badR l then false else valR (l.drop (rwd l))
termination_by l.length
decreasing_by exact drop_lt l h
def stpR (l : List UInt8) : Nat := if h : l = [] then 0 else stpR (l.drop (rwd l)) + 1
termination_by l.length
decreasing_by exact drop_lt l h
theorem valR_nil : valR [] = true := by rw [valR]; rfl
theorem valR_bad (l : List UInt8) (h : l ≠ []) (hb : badR l) : valR l = false := by rw [valR, dif_neg h, if_pos hb]
theorem valR_step (l : List UInt8) (h : l ≠ []) (hb : ¬ badR l) : valR l = valR (l.drop (rwd l)) := by rw [valR, dif_neg h, if_neg hb]
theorem stpR_nil : stpR [] = 0 := by rw [stpR]; rfl
theorem stpR_step (l : List UInt8) (h : l ≠ []) : stpR l = stpR (l.drop (rwd l)) + 1 := by rw [stpR, dif_neg h]
theorem valGo_eq (n : Nat) : ∀ l : List UInt8, l.length ≤ n → Go.Lib.validGoD n l = valR l := by
  induction n with
  | zero => intro l h; rw [List.length_eq_zero_iff.1 (Nat.le_zero.1 h), valR_nil]; rfl
  | succ n ih =>
    intro l h
    show (if l = [] then true else if badR l then false else Go.Lib.validGoD n (l.drop (rwd l))) = _
    by_cases h0 : l = []
    · rw [if_pos h0, h0, valR_nil]
    · rw [if_neg h0]
      by_cases hb : badR l
      · rw [if_pos hb, valR_bad l h0 hb]
      · rw [if_neg hb, valR_step l h0 hb, ih _ (by have := drop_lt l h0; omega)]
theorem valD_eq (l : List UInt8) : Go.Lib.validD l = valR l := valGo_eq _ l (Nat.le_refl _)
/-- how many runes, or -1 -/
def cntR (l : List UInt8) : Int := if valR l = true then (stpR l : Int) else -1
theorem stpR_le (k : Nat) : ∀ l : List UInt8, l.length ≤ k → stpR l ≤ l.length := by
  induction k with
  | zero => intro l h; rw [List.length_eq_zero_iff.1 (Nat.le_zero.1 h), stpR_nil]; exact Nat.le_refl _
  | succ k ih =>
    intro l h
    by_cases h0 : l = []
    · rw [h0, stpR_nil]; exact Nat.le_refl _
    · have := drop_lt l h0
      have := ih (l.drop (rwd l)) (by omega)
      rw [stpR_step l h0]; omega

/-- the bytes of a rune beyond ASCII -/
theorem high_bytes (l : List UInt8) (h : l ≠ []) (hb : ¬ badR l) (hh : 128 ≤ (l.getD 0 0).toNat) : ∀ j, j < rwd l → 128 ≤ (l.getD j 0).toNat := by
  unfold badR at hb
  unfold rwd
  rw [Go.Lib.decodeL_N] at hb ⊢
  rcases Go.Lib.decodeN_shape l.length (l.getD 0 0).toNat (l.getD 1 0).toNat (l.getD 2 0).toNat (l.getD 3 0).toNat with ⟨c, e⟩ | ⟨c1, c2, c3, cv, e⟩ | ⟨c1, c2, c3, c4, cv, cs, e⟩ | ⟨c1, c2, c3, c4, c5, cv, cw, e⟩ | e
  · omega
  · rw [e]; intro j hj
    match j, hj with
    | 0, _ => exact hh
    | 1, _ => omega
  · rw [e]; intro j hj
    match j, hj with
    | 0, _ => exact hh
    | 1, _ => omega
    | 2, _ => omega
  · rw [e]; intro j hj
    match j, hj with
    | 0, _ => exact hh
    | 1, _ => omega
    | 2, _ => omega
    | 3, _ => omega
  · rw [e] at hb; exact absurd ⟨rfl, rfl⟩ hb
theorem low_rune (c : UInt8) (t : List UInt8) (h : c.toNat < 128) : Go.Lib.decodeL (c :: t) = (c.toNat, 1) := Go.Lib.decodeL_ascii c t h

/-- a digit of 16 -/
def hexB (n : Nat) : UInt8 := if n < 10 then UInt8.ofNat (48 + n) else UInt8.ofNat (87 + n)
/-- the letter of a mark of two bytes; 0: there is none -/
def shortN (c : Nat) : Nat := if c = 34 ∨ c = 92 then c else if c = 8 then 98 else if c = 9 then 116 else if c = 10 then 110 else if c = 12 then 102 else if c = 13 then 114 else 0
/-- how a byte stands in quotes -/
def qb (c : UInt8) : List UInt8 := if shortN c.toNat ≠ 0 then [92, UInt8.ofNat (shortN c.toNat)] else if c.toNat < 32 then [92, 117, 48, 48, hexB (c.toNat / 16), hexB (c.toNat % 16)] else [c]
def quoL (l : List UInt8) : List UInt8 := 34 :: (l.flatMap qb ++ [34])
theorem qb_high (c : UInt8) (h : 128 ≤ c.toNat) : qb c = [c] := by
  have e : shortN c.toNat = 0 := by
    unfold shortN
    rw [if_neg (by omega), if_neg (by omega), if_neg (by omega), if_neg (by omega), if_neg (by omega), if_neg (by omega)]
  unfold qb
  rw [if_neg (by rw [e]; decide), if_neg (by omega)]
theorem flat_high (l : List UInt8) (h : ∀ c ∈ l, 128 ≤ c.toNat) : l.flatMap qb = l := by
  induction l with
  | nil => rfl
  | cons c t ih =>
    rw [List.flatMap_cons, qb_high c (h c (List.mem_cons_self ..)), ih (fun d hd => h d (List.mem_cons_of_mem _ hd))]; rfl
theorem take_high (l : List UInt8) (h : l ≠ []) (hb : ¬ badR l) (hh : 128 ≤ (l.getD 0 0).toNat) : ∀ c ∈ l.take (rwd l), 128 ≤ c.toNat := by
  intro c hc
  obtain ⟨j, hj, rfl⟩ := List.getElem_of_mem hc
  rw [List.length_take] at hj
  have := high_bytes l h hb hh j (by omega)
  rw [List.getElem_take]
  rwa [List.getD_eq_getElem?_getD, List.getElem?_eq_getElem (by omega)] at this
theorem qb_len (c : UInt8) : (qb c).length ≤ 6 := by
  unfold qb; split
  · show 2 ≤ 6; decide
  · split
    · show 6 ≤ 6; decide
    · show 1 ≤ 6; decide
theorem flat_len (l : List UInt8) : (l.flatMap qb).length ≤ 6 * l.length := by
  induction l with
  | nil => exact Nat.le_refl _
  | cons c t ih => rw [List.flatMap_cons, List.length_append, List.length_cons]; have := qb_len c; omega
end Go.Proofs.YtjkhihdghjoneaaDoor
