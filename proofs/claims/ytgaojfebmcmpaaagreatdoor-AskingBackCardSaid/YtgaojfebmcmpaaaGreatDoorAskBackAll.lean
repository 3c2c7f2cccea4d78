/- A request as printed is taken for itself; cut anywhere it is too short; what is taken may be printed (no program in sight). The law function AskingBack. AskingBack, where the request may be printed and one is taken of the text. AskingBack, where the request may be printed and not one is taken of the text. AskingBack, where not the request may be printed and one is taken of the text. AskingBack, where not the request may be printed and not one is taken of the text. The law function AskingBack. The law function AskingBack, as the row's proof takes it. -/
import Derived.Test.YtgaojfebmcmpaaaGreatDoorAskTellsLaw
import Derived.Test.YtgaojfebmcmpaaaGreatDoorAskOpen
namespace Go.Proofs.YtgaojfebmcmpaaaGreatDoor
open Go.RowKit

/-- the end of a head lies behind its beginning, within the text -/
theorem take_next_bd (s : ByteArray) (a : Int) (h : takeErr s a = 0) (h0 : 0 ≤ a) : a + 2 ≤ takeNext s a ∧ takeNext s a ≤ (s.size : Int) := by
  have hin : ¬ (a < 0 ∨ (s.size : Int) < a) := by
    intro hh
    rw [takeErr_out s a hh] at h
    exact absurd h (by decide)
  obtain ⟨i, rfl⟩ : ∃ i : Nat, a = (i : Int) := ⟨a.toNat, by omega⟩
  have hi : i ≤ s.size := by omega
  have hz := h
  rw [takeErr_in s i hi] at hz
  unfold takeNext
  rw [if_pos h, Int.toNat_natCast]
  have := scan_zero (s.data.toList.drop i) 0 hz
  unfold scanAt
  have hl : (s.data.toList.drop i).length = s.size - i := by rw [List.length_drop, size_len]
  omega
theorem headR_bd (s : ByteArray) : ∀ (f : Nat) (a : Int) (xs : List (List UInt8)), 0 ≤ a → (headR f s a xs).2.2 = 0 → 0 < f → a + 2 ≤ (headR f s a xs).2.1 ∧ (headR f s a xs).2.1 ≤ (s.size : Int) := by
  intro f
  induction f with
  | zero => intro a xs _ _ hf; omega
  | succ f ih =>
    intro a xs h0 he _
    by_cases h : takeErr s a = 0
    · obtain ⟨b1, b2⟩ := take_next_bd s a h h0
      by_cases h2 : (takeLine s a).toList.isEmpty = true
      · rw [headR_end f s a xs h h2]
        exact ⟨b1, b2⟩
      · rw [Bool.not_eq_true] at h2
        by_cases h3 : xs.length = 17
        · rw [headR_many f s a xs h h2 h3] at he
          exact absurd he (by decide)
        · rw [headR_more f s a xs h h2 h3] at he ⊢
          rcases f with _ | f
          · simp [headR] at he
          · obtain ⟨c1, c2⟩ := ih (takeNext s a) _ (by omega) he (by omega)
            exact ⟨by omega, c2⟩
    · rw [headR_err f s a xs h] at he
      exact absurd he h
theorem headOf_bd (s : ByteArray) (h : (headOf s).2.2 = 0) : 0 < (headOf s).2.1 ∧ (headOf s).2.1 ≤ (s.size : Int) := by
  have := headR_bd s 18 0 [] (by omega) h (by omega)
  unfold headOf
  exact ⟨by omega, this.2⟩

theorem words_one (p : List UInt8) (h : ∀ c ∈ p, c ≠ 32) : words p = [p] := by
  induction p with
  | nil => rfl
  | cons c t ih =>
    rw [words, if_neg (h c (List.mem_cons_self ..)), ih fun c hc => h c (List.mem_cons_of_mem _ hc)]
theorem words_pre (p r : List UInt8) (h : ∀ c ∈ p, c ≠ 32) : words (p ++ 32 :: r) = p :: words r := by
  induction p with
  | nil => rw [List.nil_append, words, if_pos rfl]
  | cons c t ih =>
    rw [List.cons_append, words, if_neg (h c (List.mem_cons_self ..)), ih fun c hc => h c (List.mem_cons_of_mem _ hc)]
theorem path_no32 (p : List UInt8) (h : pathB p = true) : ∀ c ∈ p, c ≠ 32 := by
  intro c hc e
  subst e
  exact absurd ((pathB_and p h).2.1 32 hc) (by decide)
theorem line1_words (p : List UInt8) (h : pathB p = true) : words (line1 p) = [[71, 69, 84], p, [72, 84, 84, 80, 47, 49, 46, 49]] := by
  have e : line1 p = [71, 69, 84] ++ 32 :: (p ++ 32 :: [72, 84, 84, 80, 47, 49, 46, 49]) := by unfold line1; simp
  rw [e, words_pre _ _ (by decide), words_pre _ _ (path_no32 p h), words_one _ (by decide)]
theorem line2_print (h : List UInt8) (hh : hostB h = true) : line2 h = printL hostK h := by
  have hne := (hostB_and h hh).2.2
  unfold line2 printL tailV
  rw [if_neg (by cases h <;> simp_all), show titL true hostK = [72, 111, 115, 116] by decide]
  rfl
theorem host_gap (h : List UInt8) (hh : hostB h = true) : printOk hostK h = true := by
  obtain ⟨-, h2, h3⟩ := hostB_and h hh
  have hg : ∀ c ∈ h, gapB c = false := by
    intro c hc
    have := hostN_plain c.toNat (h2 c hc)
    have h9 : c ≠ 9 := by rintro rfl; exact absurd (h2 9 hc) (by decide)
    have h32 : c ≠ 32 := by rintro rfl; exact absurd (h2 32 hc) (by decide)
    rw [← gapL_contains]
    unfold gapL
    simp [h9, h32]
  have hgap : ∀ l : List UInt8, (∀ c ∈ l, gapB c = false) → headGap l = false := by
    intro l hl
    cases l with
    | nil => rfl
    | cons c t => exact hl c (List.mem_cons_self ..)
  unfold printOk
  rw [show nameL hostK = true by decide, Bool.true_and, Bool.and_eq_true]
  refine ⟨List.all_eq_true.2 fun c hc => (hostN_plain c.toNat (h2 c hc)).1, ?_⟩
  unfold noGap
  rw [hgap h hg, hgap h.reverse (fun c hc => hg c (List.mem_reverse.1 hc))]
  rfl
theorem rangeL_eq (a b : Int) (h : rErr a b = 0) : askL a b = asksL ++ (Go.Lib.decDigits a.toNat ++ 45 :: Go.Lib.decDigits b.toNat) := by
  obtain ⟨h1, h2, h3⟩ := rErr_ok a b h
  unfold askL textR digL
  rw [if_pos h, if_neg (by omega), if_neg (by omega)]
theorem line3_print (a b : Int) (h : rErr a b = 0) : line3 a b = printL rangeK (askL a b) := by
  unfold line3 printL tailV
  rw [rangeL_eq a b h, if_neg (by simp [asksL]), show titL true rangeK = [82, 97, 110, 103, 101] by decide]
  rfl
theorem dig_gap (n : Nat) (t : List UInt8) : headGap (Go.Lib.decDigits n ++ t).reverse = headGap (Go.Lib.decDigits n ++ t).reverse := rfl
theorem dig_no (n : Nat) : ∀ c ∈ Go.Lib.decDigits n, gapB c = false ∧ c ≠ 45 ∧ c ≠ 47 := by
  intro c hc
  have := digN_bd _ (List.all_eq_true.1 (decDigits_all n) c hc)
  have h9 : c ≠ 9 := by rintro rfl; exact absurd this (by decide)
  have h32 : c ≠ 32 := by rintro rfl; exact absurd this (by decide)
  refine ⟨?_, by rintro rfl; exact absurd this (by decide), by rintro rfl; exact absurd this (by decide)⟩
  rw [← gapL_contains]
  unfold gapL
  simp [h9, h32]
theorem dig_last (n : Nat) (x : List UInt8) : headGap (x ++ Go.Lib.decDigits n).reverse = false := by
  rw [List.reverse_append]
  cases e : (Go.Lib.decDigits n).reverse with
  | nil => exact absurd (List.reverse_eq_nil_iff.1 e) (decDigits_ne n)
  | cons c t => exact (dig_no n c (by rw [← List.mem_reverse, e]; exact List.mem_cons_self ..)).1
theorem range_gap (a b : Int) (h : rErr a b = 0) : printOk rangeK (askL a b) = true := by
  unfold printOk
  rw [show nameL rangeK = true by decide, Bool.true_and, Bool.and_eq_true]
  refine ⟨List.all_eq_true.2 fun c hc => askL_plain a b c hc, ?_⟩
  unfold noGap
  rw [rangeL_eq a b h]
  have e1 : headGap (asksL ++ (Go.Lib.decDigits a.toNat ++ 45 :: Go.Lib.decDigits b.toNat)) = false := by
    unfold asksL; rfl
  have e2 : asksL ++ (Go.Lib.decDigits a.toNat ++ 45 :: Go.Lib.decDigits b.toNat) = (asksL ++ (Go.Lib.decDigits a.toNat ++ [45])) ++ Go.Lib.decDigits b.toNat := by simp
  rw [e1, e2, dig_last]
  rfl
theorem upTo_of (c : UInt8) (x t : List UInt8) (h : ∀ d ∈ x, d ≠ c) : upTo c (x ++ c :: t) = x := by
  unfold upTo
  rw [List.takeWhile_append_of_pos (fun d hd => by simpa using h d hd), List.takeWhile_cons_of_neg (by simp)]
  simp
theorem hasB_of (c : UInt8) (x t : List UInt8) (h : ∀ d ∈ x, d ≠ c) : hasB c (x ++ c :: t) = true := by
  unfold hasB
  rw [upTo_of c x t h]
  simp
theorem behind_of (c : UInt8) (x t : List UInt8) (h : ∀ d ∈ x, d ≠ c) : behind c (x ++ c :: t) = t := by
  unfold behind
  rw [upTo_of c x t h, ← List.drop_drop, List.drop_left]
  rfl
theorem numE_dec (n : Nat) (h : n ≤ 9007199254740991) : numE (Go.Lib.decDigits n) = 0 ∧ numV (Go.Lib.decDigits n) = n := by
  have e : numE (Go.Lib.decDigits n) = 0 := by
    unfold numE
    rw [numBad_dec, if_neg (by decide), decV_decDigits, if_neg (by omega)]
  refine ⟨e, ?_⟩
  unfold numV
  rw [if_pos e, decV_decDigits]
theorem asked_ask (a b : Int) (h : rErr a b = 0) : askedE (askL a b) = 0 ∧ askedA (askL a b) = a ∧ askedB (askL a b) = b := by
  obtain ⟨h1, h2, h3⟩ := rErr_ok a b h
  have hd : (askL a b).drop 6 = Go.Lib.decDigits a.toNat ++ 45 :: Go.Lib.decDigits b.toNat := by rw [rangeL_eq a b h]; rfl
  have hno : ∀ d ∈ Go.Lib.decDigits a.toNat, d ≠ 45 := fun d hd => (dig_no _ d hd).2.1
  have hok : askedOk (askL a b) = true := by
    unfold askedOk
    rw [hd, hasB_of _ _ _ hno, rangeL_eq a b h, Bool.and_true]
    exact List.isPrefixOf_iff_prefix.2 (List.prefix_append _ _)
  have hF : askedF (askL a b) = a.toNat := by unfold askedF; rw [hd, upTo_of _ _ _ hno, (numE_dec _ (by omega)).2]
  have hT : askedT (askL a b) = b.toNat := by unfold askedT; rw [hd, behind_of _ _ _ hno, (numE_dec _ (by omega)).2]
  have he : askedE (askL a b) = 0 := by
    unfold askedE
    rw [if_neg (by rw [hok]; decide), hF, hT, hd, upTo_of _ _ _ hno, behind_of _ _ _ hno]
    unfold twoE
    rw [(numE_dec _ (by omega)).1, (numE_dec _ (by omega)).1, if_neg (by decide), Int.toNat_of_nonneg h1, Int.toNat_of_nonneg (by omega)]
    exact h
  refine ⟨he, ?_, ?_⟩
  · unfold askedA; rw [if_pos he, hF]; exact Int.toNat_of_nonneg h1
  · unfold askedB; rw [if_pos he, hT]; exact Int.toNat_of_nonneg (by omega)

theorem fields_req (h : List UInt8) (a b : Int) (hh : hostB h = true) (hr : rErr a b = 0) : fldE [line2 h, line3 a b] = 0 ∧ fldL [line2 h, line3 a b] = [(hostK, h), (rangeK, askL a b)] := by
  obtain ⟨x1, x2, x3⟩ := print_parse hostK h (host_gap h hh)
  obtain ⟨y1, y2, y3⟩ := print_parse rangeK (askL a b) (range_gap a b hr)
  rw [line2_print h hh, line3_print a b hr]
  refine ⟨?_, ?_⟩
  · unfold fldE fldE fldE
    rw [x3, y3]; rfl
  · unfold fldL
    simp [x1, x2, y1, y2]
theorem hits_req (x y : List UInt8) : getE [(hostK, x), (rangeK, y)] hostK = 0 ∧ getS [(hostK, x), (rangeK, y)] hostK = x ∧ getE [(hostK, x), (rangeK, y)] rangeK = 0 ∧ getS [(hostK, x), (rangeK, y)] rangeK = y := by
  have n1 : (rangeK == hostK) = false := by decide
  have n2 : (hostK == rangeK) = false := by decide
  have e1 : hits [(hostK, x), (rangeK, y)] hostK = [x] := by unfold hits; simp [List.filter, n1]
  have e2 : hits [(hostK, x), (rangeK, y)] rangeK = [y] := by unfold hits; simp [List.filter, n2]
  unfold getE getS
  rw [e1, e2]
  exact ⟨rfl, rfl, rfl, rfl⟩
theorem ln_req (p h : List UInt8) (a b : Int) (he : aErr p h a b = 0) : lnE [line1 p, line2 h, line3 a b] = 0 ∧ wordL [line1 p, line2 h, line3 a b] = p := by
  obtain ⟨hp, hh, hr⟩ := aErr_zero p h a b he
  obtain ⟨f1, f2⟩ := fields_req h a b hh hr
  obtain ⟨g1, g2, g3, g4⟩ := hits_req h (askL a b)
  obtain ⟨k1, k2, k3⟩ := asked_ask a b hr
  have hf : firstL [line1 p, line2 h, line3 a b] = 0 := by
    unfold firstL firstW
    rw [if_neg (by simp), show ([line1 p, line2 h, line3 a b] : List (List UInt8)).getD 0 [] = line1 p from rfl, line1_words p hp]
    simp [hp]
  refine ⟨?_, ?_⟩
  · unfold lnE
    rw [hf, List.tail_cons, f1, f2]
    unfold whoE whatE
    rw [g1, g2, g3, g4, hh, k1]
    rfl
  · unfold wordL
    rw [show ([line1 p, line2 h, line3 a b] : List (List UInt8)).getD 0 [] = line1 p from rfl, line1_words p hp]
    rfl
theorem lines_good (p h : List UInt8) (a b : Int) (he : aErr p h a b = 0) (ha : a ≤ 9223372036854775807) (hb : b ≤ 9223372036854775807) : ∀ x ∈ [line1 p, line2 h, line3 a b], goodLine x := by
  obtain ⟨hp, hh, hr⟩ := aErr_zero p h a b he
  intro x hx
  simp only [List.mem_cons, List.not_mem_nil, or_false] at hx
  rcases hx with rfl | rfl | rfl
  · have := putErr_good _ (line1_put p hp); exact ⟨by simp [line1], this.1, this.2⟩
  · have := putErr_good _ (line2_put h hh); exact ⟨by simp [line2], this.1, this.2⟩
  · have := putErr_good _ (line3_put a b ha hb); exact ⟨by simp [line3], this.1, this.2⟩
/-- what is taken of a printed request with anything behind it -/
theorem ask_req (p h : List UInt8) (a b : Int) (he : aErr p h a b = 0) (ha : a ≤ 9223372036854775807) (hb : b ≤ 9223372036854775807) (s : ByteArray) (rest : List UInt8) (hs : s.data.toList = reqL p h a b ++ rest) :
    askE s = 0 ∧ askPath s = p ∧ askHost s = h ∧ askA s = a ∧ askB s = b ∧ askN s = (reqL p h a b).length := by
  obtain ⟨hp, hh, hr⟩ := aErr_zero p h a b he
  have hd : headOf s = ([line1 p, line2 h, line3 a b], ((reqL p h a b).length : Int), 0) := by
    have := head_ok s rest [line1 p, line2 h, line3 a b] [] [] 18 (lines_good p h a b he ha hb) (by simp) (by simp) (by rw [hs]; unfold reqL; simp)
    unfold headOf
    rw [show (0 : Int) = ((([] : List UInt8).length : Nat) : Int) from rfl, this]
    unfold reqL
    simp
  obtain ⟨l1, l2⟩ := ln_req p h a b he
  obtain ⟨f1, f2⟩ := fields_req h a b hh hr
  obtain ⟨g1, g2, g3, g4⟩ := hits_req h (askL a b)
  obtain ⟨k1, k2, k3⟩ := asked_ask a b hr
  have e0 : askE s = 0 := by unfold askE; rw [hd]; simpa using l1
  refine ⟨e0, ?_, ?_, ?_, ?_, ?_⟩
  · unfold askPath; rw [if_pos e0, hd]; exact l2
  · unfold askHost; rw [if_pos e0, hd]; simp only [List.tail_cons]; rw [f2, g2]
  · unfold askA; rw [if_pos e0, hd]; simp only [List.tail_cons]; rw [f2, g4, k2]
  · unfold askB; rw [if_pos e0, hd]; simp only [List.tail_cons]; rw [f2, g4, k3]
  · unfold askN; rw [if_pos e0, hd]
theorem ask_cut (p h : List UInt8) (a b : Int) (he : aErr p h a b = 0) (ha : a ≤ 9223372036854775807) (hb : b ≤ 9223372036854775807) (s : ByteArray) (k : Nat) (hk : k < (reqL p h a b).length) (hs : s.data.toList = (reqL p h a b).take k) : askE s = 3 := by
  have := head_cut s [line1 p, line2 h, line3 a b] [] [] 18 k (lines_good p h a b he ha hb) (by simp) (by simp) (by unfold reqL at hk; simpa using hk) (by rw [hs]; unfold reqL; simp)
  unfold askE headOf
  rw [show (0 : Int) = ((([] : List UInt8).length : Nat) : Int) from rfl, this]
  rfl
/-- what is taken may be printed, and what is printed of it is taken for the same -/
theorem ask_again (s : ByteArray) (h0 : askE s = 0) : aErr (askPath s) (askHost s) (askA s) (askB s) = 0 ∧ 0 < askN s ∧ askN s ≤ (s.size : Int) ∧ 0 ≤ askA s ∧ askA s ≤ 9007199254740990 ∧ 0 ≤ askB s ∧ askB s ≤ 9007199254740990 := by
  have hh : (headOf s).2.2 = 0 := by
    by_cases h : (headOf s).2.2 = 0
    · exact h
    · unfold askE at h0; rw [if_pos h] at h0; exact h0
  have hl : lnE (headOf s).1 = 0 := by unfold askE at h0; rw [if_neg (by simp [hh])] at h0; exact h0
  have h1 : firstL (headOf s).1 = 0 := by
    by_cases h : firstL (headOf s).1 = 0
    · exact h
    · unfold lnE at hl; rw [if_pos h] at hl; exact hl
  unfold lnE at hl
  rw [if_neg (by simp [h1])] at hl
  have h2 : fldE (headOf s).1.tail = 0 := by
    by_cases h : fldE (headOf s).1.tail = 0
    · exact h
    · rw [if_pos h] at hl; exact hl
  rw [if_neg (by simp [h2])] at hl
  have h3 : whoE (fldL (headOf s).1.tail) = 0 := by
    by_cases h : whoE (fldL (headOf s).1.tail) = 0
    · exact h
    · rw [if_pos h] at hl; exact hl
  rw [if_neg (by simp [h3])] at hl
  have hp : pathB (wordL (headOf s).1) = true := by
    unfold firstL firstW at h1
    unfold wordL
    split at h1
    · exact absurd h1 (by decide)
    split at h1
    · exact absurd h1 (by decide)
    split at h1
    · exact absurd h1 (by decide)
    split at h1
    · exact absurd h1 (by decide)
    split at h1
    · exact absurd h1 (by decide)
    · rename_i hx
      simpa using hx
  have hH : hostB (getS (fldL (headOf s).1.tail) hostK) = true := by
    unfold whoE at h3
    split at h3
    · rename_i hx; exact absurd h3 hx
    split at h3
    · exact absurd h3 (by decide)
    · rename_i hx
      simpa using hx
  have hA : askedE (getS (fldL (headOf s).1.tail) rangeK) = 0 := by
    unfold whatE at hl
    split at hl
    · rename_i hx; exact absurd hl hx
    · exact hl
  have hr : rErr (askedF (getS (fldL (headOf s).1.tail) rangeK)) (askedT (getS (fldL (headOf s).1.tail) rangeK)) = 0 := by
    have hA' := hA
    unfold askedE at hA'
    split at hA'
    · exact absurd hA' (by decide)
    split at hA'
    · rename_i hx; exact absurd hA' hx
    · exact hA'
  obtain ⟨n1, n2⟩ := headOf_bd s hh
  obtain ⟨r1, r2, r3⟩ := rErr_ok _ _ hr
  unfold askPath askHost askA askB askN
  rw [if_pos h0, if_pos h0, if_pos h0, if_pos h0, if_pos h0]
  unfold askedA askedB
  rw [if_pos hA, if_pos hA]
  refine ⟨?_, n1, n2, r1, by omega, by omega, r3⟩
  unfold aErr
  rw [if_neg (by simp [hp, hH])]
  exact hr
theorem ask_bad (s : ByteArray) (h0 : askE s ≠ 0) : askPath s = [] ∧ askHost s = [] ∧ askA s = 0 ∧ askB s = 0 ∧ askN s = 0 := by
  unfold askPath askHost askA askB askN
  rw [if_neg h0, if_neg h0, if_neg h0, if_neg h0, if_neg h0]
  exact ⟨rfl, rfl, rfl, rfl, rfl⟩
end Go.Proofs.YtgaojfebmcmpaaaGreatDoor
namespace Go.Proofs.YtgaojfebmcmpaaaGreatDoor
open Go.RowKit

theorem neq_req (a b : ByteArray) (x y : Int) (w : World) : (binOp .neq 32 (.agg #[.string a, .string b, .int .i64 x, .int .i64 y]) (.agg #[.string a, .string b, .int .i64 x, .int .i64 y])).run Tryz.prog w = .ok (.bool false) w := by
  rw [run_neq_struct, show (10000 : Nat) = 9997 + 3 from rfl, eq_req_in]; rfl
/-- what is taken of a text: its parts, told apart -/
theorem aparse_any (s : ByteArray) (hs : s.size ≤ 1000000) : ∃ (P H : ByteArray) (x y n : Int) (e : Nat), (∀ w, EnvF w → Calls Tryz.prog 19 #[.string s] w fun r w' => r = .returned (.tuple #[.agg #[.string P, .string H, .int .i64 x, .int .i64 y], .int .i64 n, .int .i64 (e : Nat)]) ∧ Below w.heap.size w w') ∧
    P.data.toList = askPath s ∧ H.data.toList = askHost s ∧ x = askA s ∧ y = askB s ∧ n = askN s ∧ e = askE s :=
  ⟨bs (askPath s), bs (askHost s), askA s, askB s, askN s, askE s, fun w hE => asking_parse s w hs hE, bs_data _, bs_data _, rfl, rfl, rfl, rfl⟩
theorem reqL_len (p h : List UInt8) (a b : Int) (he : aErr p h a b = 0) (ha : a ≤ 9223372036854775807) (hb : b ≤ 9223372036854775807) : 0 < (reqL p h a b).length ∧ (reqL p h a b).length ≤ 1000 := by
  have hg := lines_good p h a b he ha hb
  have h1 := (hg (line1 p) (by simp)).2.2
  have h2 := (hg (line2 h) (by simp)).2.2
  have h3 := (hg (line3 a b) (by simp)).2.2
  unfold reqL body body body body
  simp only [List.length_append, List.length_cons, List.length_nil]
  omega
theorem data_app (x y : ByteArray) : (x ++ y).data.toList = x.data.toList ++ y.data.toList := by rw [ByteArray.data_append, Array.toList_append]
/-- what is taken of the text a request is printed as -/
theorem again_any (p h : ByteArray) (x y : Int) (he : aErr p.data.toList h.data.toList x y = 0) (hx : x ≤ 9223372036854775807) (hy : y ≤ 9223372036854775807) (t : ByteArray) (ht : t.size ≤ 700) (w : World) (hE : EnvF w) :
    Calls Tryz.prog 19 #[.string (bs (reqL p.data.toList h.data.toList x y) ++ t)] w fun r w' => r = .returned (.tuple #[.agg #[.string p, .string h, .int .i64 x, .int .i64 y], .int .i64 ((bs (reqL p.data.toList h.data.toList x y)).size : Nat), .int .i64 ((0 : Nat) : Int)]) ∧ Below w.heap.size w w' := by
  have hl := reqL_len _ _ _ _ he hx hy
  obtain ⟨k0, k1, k2, k3, k4, k5⟩ := ask_req _ _ _ _ he hx hy (bs (reqL p.data.toList h.data.toList x y) ++ t) t.data.toList (by rw [data_app, bs_data])
  exact aparse_at _ _ _ _ _ _ _ ⟨k1, k2, k3, k4, by rw [k5, bs_size], k0⟩ w (by rw [ByteArray.size_append, bs_size]; omega) hE
theorem again_one (p h : ByteArray) (x y : Int) (he : aErr p.data.toList h.data.toList x y = 0) (hx : x ≤ 9223372036854775807) (hy : y ≤ 9223372036854775807) (w : World) (hE : EnvF w) :
    Calls Tryz.prog 19 #[.string (bs (reqL p.data.toList h.data.toList x y))] w fun r w' => r = .returned (.tuple #[.agg #[.string p, .string h, .int .i64 x, .int .i64 y], .int .i64 ((bs (reqL p.data.toList h.data.toList x y)).size : Nat), .int .i64 ((0 : Nat) : Int)]) ∧ Below w.heap.size w w' := by
  have hl := reqL_len _ _ _ _ he hx hy
  obtain ⟨k0, k1, k2, k3, k4, k5⟩ := ask_req _ _ _ _ he hx hy (bs (reqL p.data.toList h.data.toList x y)) [] (by rw [bs_data]; simp)
  exact aparse_at _ _ _ _ _ _ _ ⟨k1, k2, k3, k4, by rw [k5, bs_size], k0⟩ w (by rw [bs_size]; omega) hE
theorem cut_any (p h : ByteArray) (x y : Int) (he : aErr p.data.toList h.data.toList x y = 0) (hx : x ≤ 9223372036854775807) (hy : y ≤ 9223372036854775807) (k : Nat) (hk : k < (bs (reqL p.data.toList h.data.toList x y)).size) (w : World) (hE : EnvF w) :
    Calls Tryz.prog 19 #[.string ((bs (reqL p.data.toList h.data.toList x y)).extract 0 k)] w fun r w' => r = .returned (.tuple #[.agg #[.string ⟨#[]⟩, .string ⟨#[]⟩, .int .i64 0, .int .i64 0], .int .i64 0, .int .i64 ((3 : Nat) : Int)]) ∧ Below w.heap.size w w' := by
  have hl := reqL_len _ _ _ _ he hx hy
  rw [bs_size] at hk
  have e := ask_cut _ _ _ _ he hx hy ((bs (reqL p.data.toList h.data.toList x y)).extract 0 k) k hk (by rw [extract_bs, bs_data, bs_data]; simp)
  obtain ⟨k1, k2, k3, k4, k5⟩ := ask_bad _ (by rw [e]; decide)
  exact aparse_at _ ⟨#[]⟩ ⟨#[]⟩ _ _ _ _ ⟨k1, k2, k3, k4, k5, e⟩ w (by rw [ByteArray.size_extract, bs_size]; omega) hE
theorem print_good (p h : ByteArray) (a b : Int) (he : aErr p.data.toList h.data.toList a b = 0) (w : World) (hE : EnvF w) (ha0 : -9223372036854775808 ≤ a) (ha : a ≤ 9223372036854775807) (hb0 : -9223372036854775808 ≤ b) (hb : b ≤ 9223372036854775807) :
    Calls Tryz.prog 16 #[.agg #[.string p, .string h, .int .i64 a, .int .i64 b]] w fun r w' => r = .returned (.tuple #[.string (bs (reqL p.data.toList h.data.toList a b)), .int .i64 ((0 : Nat) : Int)]) ∧ Below w.heap.size w w' :=
  aprint_at p h _ a b 0 ⟨by unfold aPrint; rw [if_pos he, bs_data], he⟩ w hE ha0 ha hb0 hb
end Go.Proofs.YtgaojfebmcmpaaaGreatDoor
namespace Go.Proofs.YtgaojfebmcmpaaaGreatDoor
open Go.RowKit
set_option maxRecDepth 100000 in
set_option maxHeartbeats 4000000 in
theorem askingBack_11 (p h : ByteArray) (a b : Int) (s : ByteArray) (c : Nat) (hc : c ≤ 65535) (w : World) (hE : EnvF w) (ha0 : -9223372036854775808 ≤ a) (ha : a ≤ 9223372036854775807) (hb0 : -9223372036854775808 ≤ b) (hb : b ≤ 9223372036854775807) (hp : p.size ≤ 700) (hh : h.size ≤ 700) (hs : s.size ≤ 700) (he : aErr p.data.toList h.data.toList a b = 0) (hk : askE s = 0) :
    Calls Tryz.prog 4 #[.agg #[.string p, .string h, .int .i64 a, .int .i64 b], .string s, .int .u16 (c : Int)] w fun e w' => e = .returned (.bool true) ∧ Below w.heap.size w w' := by
  have HE0 := Lib.hid (hE.below (below_agg4 w (.string p) (.string h) (.int .i64 a) (.int .i64 b) 25))
  have hbb := below_agg4 w (.string p) (.string h) (.int .i64 a) (.int .i64 b) 25
  have Q0 := Lib.hid (Four.new w (.string p) (.string h) (.int .i64 a) (.int .i64 b) 25)
  have HA := Lib.hid (fun w hE => print_good p h a b he w hE ha0 ha hb0 hb)
  have HT := Lib.hid (fun w hE => again_any p h a b he ha hb s hs w hE)
  have HC := Lib.hid (fun k hk w hE => cut_any p h a b he ha hb k hk w hE)
  have hl := reqL_len _ _ _ _ he ha hb
  rw [← bs_size] at hl
  generalize bs (reqL p.data.toList h.data.toList a b) = S at HA HT HC hl
  obtain ⟨N, hN⟩ : ∃ N, S.size = N := ⟨_, rfl⟩
  rw [hN] at hl HC HT
  have hne : (S.toList == []) = false := by
    rw [beq_eq_false_iff_ne]
    intro e
    have : S.toList.length = 0 := by rw [e]; rfl
    rw [ByteArray.toList_eq, size_len] at this
    omega
  obtain ⟨k, hkk⟩ : ∃ k, c % N = k := ⟨_, rfl⟩
  have hkN : k < N := by rw [← hkk]; exact Nat.mod_lt _ (by omega)
  have hm1 : (c : Int) % (N : Int) = (k : Int) := by omega
  have hm2 : (c : Int).tmod (N : Int) = (k : Int) := by rw [Int.tmod_eq_emod_of_nonneg (by omega)]; exact hm1
  have n0 : ((N : Int) == 0) = false := by rw [beq_eq_false_iff_ne]; omega
  replace HC := Lib.hid (HC.out k hkN)
  clear hkk
  obtain ⟨g1, g2, g3, g4, g5, g6, g7⟩ := ask_again s hk
  obtain ⟨P1, H1, x, y, n, e1, HP0, d1, d2, d3, d4, d5, d6⟩ := aparse_any s (by omega)
  rw [← d1, ← d2, ← d3, ← d4] at g1
  rw [← d3] at g4 g5
  rw [← d4] at g6 g7
  rw [← d5] at g2 g3
  rw [hk] at d6
  subst d6
  clear d1 d2 d3 d4 d5
  have HP := Lib.hid HP0
  have HU := Lib.hid (fun w hE => print_good P1 H1 x y g1 w hE (by omega) (by omega) (by omega) (by omega))
  have HV := Lib.hid (fun w hE => again_one P1 H1 x y g1 (by omega) (by omega) w hE)
  generalize bs (reqL P1.data.toList H1.data.toList x y) = U at HU HV
  have hgt : decide (n > 0) = true := decide_eq_true g2
  have hle : decide (n ≤ (s.size : Int)) = true := decide_eq_true g3
  clear HP0 g1 g4 g5 g6 g7
  have heq := eq_req
  have hnq := neq_req
  have hgd := guard_req
  clear hE he hk
  go_enter Tryz.func4, Tryz.ntmps4
  go_wp2_with fail
  refine (law_ownq p h a b _).mono ?_
  rintro e w1 ⟨rfl, hb1⟩
  have HE1 := Lib.hid (HE0.out.below hb1)
  have Q1 := Lib.hid (Q0.out.below hb1)
  have hb1' := bstep hbb hb1
  clear hb1 hbb Q0 HE0
  go_wp2_with fail
  refine (HA.out _ HE1.out).mono ?_
  rintro e w2 ⟨rfl, hb2⟩
  have HE2 := Lib.hid (HE1.out.below hb2)
  have Q2 := Lib.hid (Q1.out.below hb2)
  have hb2' := bstep hb1' hb2
  clear hb2 hb1' Q1 HE1
  go_wp2_with fail
  refine (HT.out _ HE2.out).mono ?_
  rintro e w3 ⟨rfl, hb3⟩
  have HE3 := Lib.hid ((HE2.out.below hb3).below (below_agg4 w3 (.string p) (.string h) (.int .i64 a) (.int .i64 b) 32))
  have Q3 := Lib.hid ((Q2.out.below hb3).alloc (.cells #[.string p, .string h, .int .i64 a, .int .i64 b] 32))
  have X3 := Lib.hid (Four.new w3 (.string p) (.string h) (.int .i64 a) (.int .i64 b) 32)
  have hb3' := bstep hb2' (bstep hb3 (below_agg4 w3 (.string p) (.string h) (.int .i64 a) (.int .i64 b) 32))
  clear hb3 hb2' HE2 Q2
  go_wp2_with fail
  refine (HC.out _ HE3.out).mono ?_
  rintro e w4 ⟨rfl, hb4⟩
  have HE4 := Lib.hid ((HE3.out.below hb4).below (below_agg4 w4 (.string ⟨#[]⟩) (.string ⟨#[]⟩) (.int .i64 0) (.int .i64 0) 32))
  have Q4 := (Q3.out.below hb4).alloc (.cells #[.string ⟨#[]⟩, .string ⟨#[]⟩, .int .i64 0, .int .i64 0] 32)
  have X4 := (X3.out.below hb4).alloc (.cells #[.string ⟨#[]⟩, .string ⟨#[]⟩, .int .i64 0, .int .i64 0] 32)
  have hb4' := Lib.hid (bstep hb3' (bstep hb4 (below_agg4 w4 (.string ⟨#[]⟩) (.string ⟨#[]⟩) (.int .i64 0) (.int .i64 0) 32)))
  clear hb4 hb3' HE3 Q3 X3
  go_wp2_with fail
  generalize w4.alloc (.cells #[.string ⟨#[]⟩, .string ⟨#[]⟩, .int .i64 0, .int .i64 0] 32) = W0 at HE4 Q4 X4 hb4' ⊢
  obtain ⟨k0, k1, k2, k3⟩ := cells_of Q4
  obtain ⟨x0, x1, x2, x3⟩ := cells_of X4
  clear Q4 X4
  refine wp_region_quiet_below (by kernel_rfl) (by kernel_rfl) ?_
  repeat (go_big_quiet_step ((first
    | (go_at_call 17; exact below_of (law_ownq _ _ _ _ _))
    | fail)))
  refine wpQuiet_nil ?_
  intro W1 hw'
  have hb5 := of_class hw'
  clear hw' k0 k1 k2 k3 x0 x1 x2 x3
  have HE5 := Lib.hid (HE4.out.below hb5)
  have hb5' := Lib.hid (bstep hb4'.out hb5)
  clear hb5 hb4' HE4
  go_wp2_with fail
  refine (HP.out _ HE5.out).mono ?_
  rintro e w6 ⟨rfl, hb6⟩
  have HE6 := Lib.hid ((HE5.out.below hb6).below (below_agg4 w6 (.string P1) (.string H1) (.int .i64 x) (.int .i64 y) 32))
  have X6 := Lib.hid (Four.new w6 (.string P1) (.string H1) (.int .i64 x) (.int .i64 y) 32)
  have hb6' := Lib.hid (bstep hb5'.out (bstep hb6 (below_agg4 w6 (.string P1) (.string H1) (.int .i64 x) (.int .i64 y) 32)))
  clear hb6 hb5' HE5
  go_wp2_with fail
  refine (HU.out _ HE6.out).mono ?_
  rintro e w7 ⟨rfl, hb7⟩
  have HE7 := Lib.hid (HE6.out.below hb7)
  have X7 := Lib.hid (X6.out.below hb7)
  have hb7' := Lib.hid (bstep hb6'.out hb7)
  clear hb7 hb6' HE6 X6
  go_wp2_with fail
  refine (HV.out _ HE7.out).mono ?_
  rintro e w8 ⟨rfl, hb8⟩
  have HE8 := Lib.hid ((HE7.out.below hb8).below (below_agg4 w8 (.string P1) (.string H1) (.int .i64 x) (.int .i64 y) 32))
  have X8 := (X7.out.below hb8).alloc (.cells #[.string P1, .string H1, .int .i64 x, .int .i64 y] 32)
  have Y8 := Four.new w8 (.string P1) (.string H1) (.int .i64 x) (.int .i64 y) 32
  have hb8' := Lib.hid (bstep hb7'.out (bstep hb8 (below_agg4 w8 (.string P1) (.string H1) (.int .i64 x) (.int .i64 y) 32)))
  clear hb8 hb7' HE7 X7
  obtain ⟨lx, x0, x1, x2, x3⟩ := X8
  obtain ⟨ly, y0, y1, y2, y3⟩ := Y8
  go_wp2_with fail
  refine (awake25 _ HE8.out).mono ?_
  rintro e w9 ⟨rfl, hb9⟩
  go_wp2_with fail
  go_ret
  exact ⟨rfl, bstep hb8'.out hb9⟩
end Go.Proofs.YtgaojfebmcmpaaaGreatDoor
namespace Go.Proofs.YtgaojfebmcmpaaaGreatDoor
open Go.RowKit
set_option maxRecDepth 100000 in
set_option maxHeartbeats 4000000 in
theorem askingBack_10 (p h : ByteArray) (a b : Int) (s : ByteArray) (c : Nat) (hc : c ≤ 65535) (w : World) (hE : EnvF w) (ha0 : -9223372036854775808 ≤ a) (ha : a ≤ 9223372036854775807) (hb0 : -9223372036854775808 ≤ b) (hb : b ≤ 9223372036854775807) (hp : p.size ≤ 700) (hh : h.size ≤ 700) (hs : s.size ≤ 700) (he : aErr p.data.toList h.data.toList a b = 0) (hk : askE s ≠ 0) :
    Calls Tryz.prog 4 #[.agg #[.string p, .string h, .int .i64 a, .int .i64 b], .string s, .int .u16 (c : Int)] w fun e w' => e = .returned (.bool true) ∧ Below w.heap.size w w' := by
  have HE0 := Lib.hid (hE.below (below_agg4 w (.string p) (.string h) (.int .i64 a) (.int .i64 b) 25))
  have hbb := below_agg4 w (.string p) (.string h) (.int .i64 a) (.int .i64 b) 25
  have Q0 := Lib.hid (Four.new w (.string p) (.string h) (.int .i64 a) (.int .i64 b) 25)
  have HA := Lib.hid (fun w hE => print_good p h a b he w hE ha0 ha hb0 hb)
  have HT := Lib.hid (fun w hE => again_any p h a b he ha hb s hs w hE)
  have HC := Lib.hid (fun k hk w hE => cut_any p h a b he ha hb k hk w hE)
  have hl := reqL_len _ _ _ _ he ha hb
  rw [← bs_size] at hl
  generalize bs (reqL p.data.toList h.data.toList a b) = S at HA HT HC hl
  obtain ⟨N, hN⟩ : ∃ N, S.size = N := ⟨_, rfl⟩
  rw [hN] at hl HC HT
  have hne : (S.toList == []) = false := by
    rw [beq_eq_false_iff_ne]
    intro e
    have : S.toList.length = 0 := by rw [e]; rfl
    rw [ByteArray.toList_eq, size_len] at this
    omega
  obtain ⟨k, hkk⟩ : ∃ k, c % N = k := ⟨_, rfl⟩
  have hkN : k < N := by rw [← hkk]; exact Nat.mod_lt _ (by omega)
  have hm1 : (c : Int) % (N : Int) = (k : Int) := by omega
  have hm2 : (c : Int).tmod (N : Int) = (k : Int) := by rw [Int.tmod_eq_emod_of_nonneg (by omega)]; exact hm1
  have n0 : ((N : Int) == 0) = false := by rw [beq_eq_false_iff_ne]; omega
  replace HC := Lib.hid (HC.out k hkN)
  clear hkk
  obtain ⟨P1, H1, x, y, n, e1, HP0, d1, d2, d3, d4, d5, d6⟩ := aparse_any s (by omega)
  obtain ⟨z1, z2, z3, z4, z5⟩ := ask_bad s hk
  obtain rfl : P1 = ⟨#[]⟩ := by rw [bs_of P1 _ (d1.trans z1)]; rfl
  obtain rfl : H1 = ⟨#[]⟩ := by rw [bs_of H1 _ (d2.trans z2)]; rfl
  rw [z3] at d3
  rw [z4] at d4
  rw [z5] at d5
  subst d3 d4 d5
  have he1 : ((e1 : Int) != 0) = true := by rw [bne_iff_ne]; omega
  have he2 : ((e1 : Int) == 0) = false := by rw [beq_eq_false_iff_ne]; omega
  clear d1 d2 z1 z2 z3 z4 z5 d6
  have HP := Lib.hid HP0
  clear HP0
  have heq := eq_req
  have hnq := neq_req
  have hgd := guard_req
  clear hE he hk
  go_enter Tryz.func4, Tryz.ntmps4
  go_wp2_with fail
  refine (law_ownq p h a b _).mono ?_
  rintro e w1 ⟨rfl, hb1⟩
  have HE1 := Lib.hid (HE0.out.below hb1)
  have Q1 := Lib.hid (Q0.out.below hb1)
  have hb1' := bstep hbb hb1
  clear hb1 hbb Q0 HE0
  go_wp2_with fail
  refine (HA.out _ HE1.out).mono ?_
  rintro e w2 ⟨rfl, hb2⟩
  have HE2 := Lib.hid (HE1.out.below hb2)
  have Q2 := Lib.hid (Q1.out.below hb2)
  have hb2' := bstep hb1' hb2
  clear hb2 hb1' Q1 HE1
  go_wp2_with fail
  refine (HT.out _ HE2.out).mono ?_
  rintro e w3 ⟨rfl, hb3⟩
  have HE3 := Lib.hid ((HE2.out.below hb3).below (below_agg4 w3 (.string p) (.string h) (.int .i64 a) (.int .i64 b) 32))
  have Q3 := Lib.hid ((Q2.out.below hb3).alloc (.cells #[.string p, .string h, .int .i64 a, .int .i64 b] 32))
  have X3 := Lib.hid (Four.new w3 (.string p) (.string h) (.int .i64 a) (.int .i64 b) 32)
  have hb3' := bstep hb2' (bstep hb3 (below_agg4 w3 (.string p) (.string h) (.int .i64 a) (.int .i64 b) 32))
  clear hb3 hb2' HE2 Q2
  go_wp2_with fail
  refine (HC.out _ HE3.out).mono ?_
  rintro e w4 ⟨rfl, hb4⟩
  have HE4 := Lib.hid ((HE3.out.below hb4).below (below_agg4 w4 (.string ⟨#[]⟩) (.string ⟨#[]⟩) (.int .i64 0) (.int .i64 0) 32))
  have Q4 := (Q3.out.below hb4).alloc (.cells #[.string ⟨#[]⟩, .string ⟨#[]⟩, .int .i64 0, .int .i64 0] 32)
  have X4 := (X3.out.below hb4).alloc (.cells #[.string ⟨#[]⟩, .string ⟨#[]⟩, .int .i64 0, .int .i64 0] 32)
  have hb4' := Lib.hid (bstep hb3' (bstep hb4 (below_agg4 w4 (.string ⟨#[]⟩) (.string ⟨#[]⟩) (.int .i64 0) (.int .i64 0) 32)))
  clear hb4 hb3' HE3 Q3 X3
  go_wp2_with fail
  generalize w4.alloc (.cells #[.string ⟨#[]⟩, .string ⟨#[]⟩, .int .i64 0, .int .i64 0] 32) = W0 at HE4 Q4 X4 hb4' ⊢
  obtain ⟨k0, k1, k2, k3⟩ := cells_of Q4
  obtain ⟨x0, x1, x2, x3⟩ := cells_of X4
  clear Q4 X4
  refine wp_region_quiet_below (by kernel_rfl) (by kernel_rfl) ?_
  repeat (go_big_quiet_step ((first
    | (go_at_call 17; exact below_of (law_ownq _ _ _ _ _))
    | fail)))
  refine wpQuiet_nil ?_
  intro W1 hw'
  have hb5 := of_class hw'
  clear hw' k0 k1 k2 k3 x0 x1 x2 x3
  have HE5 := Lib.hid (HE4.out.below hb5)
  have hb5' := Lib.hid (bstep hb4'.out hb5)
  clear hb5 hb4' HE4
  go_wp2_with fail
  refine (HP.out _ HE5.out).mono ?_
  rintro e w6 ⟨rfl, hb6⟩
  have HE6 := Lib.hid ((HE5.out.below hb6).below (below_agg4 w6 (.string ⟨#[]⟩) (.string ⟨#[]⟩) (.int .i64 0) (.int .i64 0) 32))
  have X6 := Lib.hid (Four.new w6 (.string ⟨#[]⟩) (.string ⟨#[]⟩) (.int .i64 0) (.int .i64 0) 32)
  have hb6' := Lib.hid (bstep hb5'.out (bstep hb6 (below_agg4 w6 (.string ⟨#[]⟩) (.string ⟨#[]⟩) (.int .i64 0) (.int .i64 0) 32)))
  clear hb6 hb5' HE5
  go_wp2_with fail
  refine (awake25 _ HE6.out).mono ?_
  rintro e w7 ⟨rfl, hb7⟩
  go_wp2_with fail
  go_ret
  exact ⟨rfl, bstep hb6'.out hb7⟩
end Go.Proofs.YtgaojfebmcmpaaaGreatDoor
namespace Go.Proofs.YtgaojfebmcmpaaaGreatDoor
open Go.RowKit
set_option maxRecDepth 100000 in
set_option maxHeartbeats 4000000 in
theorem askingBack_01 (p h : ByteArray) (a b : Int) (s : ByteArray) (c : Nat) (hc : c ≤ 65535) (w : World) (hE : EnvF w) (ha0 : -9223372036854775808 ≤ a) (ha : a ≤ 9223372036854775807) (hb0 : -9223372036854775808 ≤ b) (hb : b ≤ 9223372036854775807) (hp : p.size ≤ 700) (hh : h.size ≤ 700) (hs : s.size ≤ 700) (he : aErr p.data.toList h.data.toList a b ≠ 0) (hk : askE s = 0) :
    Calls Tryz.prog 4 #[.agg #[.string p, .string h, .int .i64 a, .int .i64 b], .string s, .int .u16 (c : Int)] w fun e w' => e = .returned (.bool true) ∧ Below w.heap.size w w' := by
  have HE0 := Lib.hid (hE.below (below_agg4 w (.string p) (.string h) (.int .i64 a) (.int .i64 b) 25))
  have hbb := below_agg4 w (.string p) (.string h) (.int .i64 a) (.int .i64 b) 25
  have Q0 := Lib.hid (Four.new w (.string p) (.string h) (.int .i64 a) (.int .i64 b) 25)
  have HA := Lib.hid (fun w hE => asking_print p h a b w hE ha0 ha hb0 hb)
  generalize bs (aPrint p.data.toList h.data.toList a b) = S at HA
  generalize aErr p.data.toList h.data.toList a b = E at HA he
  have hE0 : ((E : Int) == 0) = false := by rw [beq_eq_false_iff_ne]; omega
  obtain ⟨g1, g2, g3, g4, g5, g6, g7⟩ := ask_again s hk
  obtain ⟨P1, H1, x, y, n, e1, HP0, d1, d2, d3, d4, d5, d6⟩ := aparse_any s (by omega)
  rw [← d1, ← d2, ← d3, ← d4] at g1
  rw [← d3] at g4 g5
  rw [← d4] at g6 g7
  rw [← d5] at g2 g3
  rw [hk] at d6
  subst d6
  clear d1 d2 d3 d4 d5
  have HP := Lib.hid HP0
  have HU := Lib.hid (fun w hE => print_good P1 H1 x y g1 w hE (by omega) (by omega) (by omega) (by omega))
  have HV := Lib.hid (fun w hE => again_one P1 H1 x y g1 (by omega) (by omega) w hE)
  generalize bs (reqL P1.data.toList H1.data.toList x y) = U at HU HV
  have hgt : decide (n > 0) = true := decide_eq_true g2
  have hle : decide (n ≤ (s.size : Int)) = true := decide_eq_true g3
  clear HP0 g1 g4 g5 g6 g7
  have heq := eq_req
  have hnq := neq_req
  have hgd := guard_req
  clear hE he hk
  go_enter Tryz.func4, Tryz.ntmps4
  go_wp2_with fail
  refine (law_ownq p h a b _).mono ?_
  rintro e w1 ⟨rfl, hb1⟩
  have HE1 := Lib.hid (HE0.out.below hb1)
  have Q1 := Lib.hid (Q0.out.below hb1)
  have hb1' := bstep hbb hb1
  clear hb1 hbb Q0 HE0
  go_wp2_with fail
  refine (HA.out _ HE1.out).mono ?_
  rintro e w2 ⟨rfl, hb2⟩
  have HE2 := Lib.hid (HE1.out.below hb2)
  have Q2 := Lib.hid (Q1.out.below hb2)
  have hb2' := bstep hb1' hb2
  clear hb2 hb1' Q1 HE1
  go_wp2_with fail
  clear Q2
  have hb2'' := Lib.hid hb2'
  clear hb2'
  refine (HP.out _ HE2.out).mono ?_
  rintro e w6 ⟨rfl, hb6⟩
  have HE6 := Lib.hid ((HE2.out.below hb6).below (below_agg4 w6 (.string P1) (.string H1) (.int .i64 x) (.int .i64 y) 32))
  have X6 := Lib.hid (Four.new w6 (.string P1) (.string H1) (.int .i64 x) (.int .i64 y) 32)
  have hb6' := Lib.hid (bstep hb2''.out (bstep hb6 (below_agg4 w6 (.string P1) (.string H1) (.int .i64 x) (.int .i64 y) 32)))
  clear hb6 hb2'' HE2
  go_wp2_with fail
  refine (HU.out _ HE6.out).mono ?_
  rintro e w7 ⟨rfl, hb7⟩
  have HE7 := Lib.hid (HE6.out.below hb7)
  have X7 := Lib.hid (X6.out.below hb7)
  have hb7' := Lib.hid (bstep hb6'.out hb7)
  clear hb7 hb6' HE6 X6
  go_wp2_with fail
  refine (HV.out _ HE7.out).mono ?_
  rintro e w8 ⟨rfl, hb8⟩
  have HE8 := Lib.hid ((HE7.out.below hb8).below (below_agg4 w8 (.string P1) (.string H1) (.int .i64 x) (.int .i64 y) 32))
  have X8 := (X7.out.below hb8).alloc (.cells #[.string P1, .string H1, .int .i64 x, .int .i64 y] 32)
  have Y8 := Four.new w8 (.string P1) (.string H1) (.int .i64 x) (.int .i64 y) 32
  have hb8' := Lib.hid (bstep hb7'.out (bstep hb8 (below_agg4 w8 (.string P1) (.string H1) (.int .i64 x) (.int .i64 y) 32)))
  clear hb8 hb7' HE7 X7
  obtain ⟨lx, x0, x1, x2, x3⟩ := X8
  obtain ⟨ly, y0, y1, y2, y3⟩ := Y8
  go_wp2_with fail
  refine (awake25 _ HE8.out).mono ?_
  rintro e w9 ⟨rfl, hb9⟩
  go_wp2_with fail
  go_ret
  exact ⟨rfl, bstep hb8'.out hb9⟩
end Go.Proofs.YtgaojfebmcmpaaaGreatDoor
namespace Go.Proofs.YtgaojfebmcmpaaaGreatDoor
open Go.RowKit
set_option maxRecDepth 100000 in
set_option maxHeartbeats 4000000 in
theorem askingBack_00 (p h : ByteArray) (a b : Int) (s : ByteArray) (c : Nat) (hc : c ≤ 65535) (w : World) (hE : EnvF w) (ha0 : -9223372036854775808 ≤ a) (ha : a ≤ 9223372036854775807) (hb0 : -9223372036854775808 ≤ b) (hb : b ≤ 9223372036854775807) (hp : p.size ≤ 700) (hh : h.size ≤ 700) (hs : s.size ≤ 700) (he : aErr p.data.toList h.data.toList a b ≠ 0) (hk : askE s ≠ 0) :
    Calls Tryz.prog 4 #[.agg #[.string p, .string h, .int .i64 a, .int .i64 b], .string s, .int .u16 (c : Int)] w fun e w' => e = .returned (.bool true) ∧ Below w.heap.size w w' := by
  have HE0 := Lib.hid (hE.below (below_agg4 w (.string p) (.string h) (.int .i64 a) (.int .i64 b) 25))
  have hbb := below_agg4 w (.string p) (.string h) (.int .i64 a) (.int .i64 b) 25
  have Q0 := Lib.hid (Four.new w (.string p) (.string h) (.int .i64 a) (.int .i64 b) 25)
  have HA := Lib.hid (fun w hE => asking_print p h a b w hE ha0 ha hb0 hb)
  generalize bs (aPrint p.data.toList h.data.toList a b) = S at HA
  generalize aErr p.data.toList h.data.toList a b = E at HA he
  have hE0 : ((E : Int) == 0) = false := by rw [beq_eq_false_iff_ne]; omega
  obtain ⟨P1, H1, x, y, n, e1, HP0, d1, d2, d3, d4, d5, d6⟩ := aparse_any s (by omega)
  obtain ⟨z1, z2, z3, z4, z5⟩ := ask_bad s hk
  obtain rfl : P1 = ⟨#[]⟩ := by rw [bs_of P1 _ (d1.trans z1)]; rfl
  obtain rfl : H1 = ⟨#[]⟩ := by rw [bs_of H1 _ (d2.trans z2)]; rfl
  rw [z3] at d3
  rw [z4] at d4
  rw [z5] at d5
  subst d3 d4 d5
  have he1 : ((e1 : Int) != 0) = true := by rw [bne_iff_ne]; omega
  have he2 : ((e1 : Int) == 0) = false := by rw [beq_eq_false_iff_ne]; omega
  clear d1 d2 z1 z2 z3 z4 z5 d6
  have HP := Lib.hid HP0
  clear HP0
  have heq := eq_req
  have hnq := neq_req
  have hgd := guard_req
  clear hE he hk
  go_enter Tryz.func4, Tryz.ntmps4
  go_wp2_with fail
  refine (law_ownq p h a b _).mono ?_
  rintro e w1 ⟨rfl, hb1⟩
  have HE1 := Lib.hid (HE0.out.below hb1)
  have Q1 := Lib.hid (Q0.out.below hb1)
  have hb1' := bstep hbb hb1
  clear hb1 hbb Q0 HE0
  go_wp2_with fail
  refine (HA.out _ HE1.out).mono ?_
  rintro e w2 ⟨rfl, hb2⟩
  have HE2 := Lib.hid (HE1.out.below hb2)
  have Q2 := Lib.hid (Q1.out.below hb2)
  have hb2' := bstep hb1' hb2
  clear hb2 hb1' Q1 HE1
  go_wp2_with fail
  clear Q2
  have hb2'' := Lib.hid hb2'
  clear hb2'
  refine (HP.out _ HE2.out).mono ?_
  rintro e w6 ⟨rfl, hb6⟩
  have HE6 := Lib.hid ((HE2.out.below hb6).below (below_agg4 w6 (.string ⟨#[]⟩) (.string ⟨#[]⟩) (.int .i64 0) (.int .i64 0) 32))
  have X6 := Lib.hid (Four.new w6 (.string ⟨#[]⟩) (.string ⟨#[]⟩) (.int .i64 0) (.int .i64 0) 32)
  have hb6' := Lib.hid (bstep hb2''.out (bstep hb6 (below_agg4 w6 (.string ⟨#[]⟩) (.string ⟨#[]⟩) (.int .i64 0) (.int .i64 0) 32)))
  clear hb6 hb2'' HE2
  go_wp2_with fail
  refine (awake25 _ HE6.out).mono ?_
  rintro e w7 ⟨rfl, hb7⟩
  go_wp2_with fail
  go_ret
  exact ⟨rfl, bstep hb6'.out hb7⟩
end Go.Proofs.YtgaojfebmcmpaaaGreatDoor
namespace Go.Proofs.YtgaojfebmcmpaaaGreatDoor
open Go.RowKit
set_option maxRecDepth 100000 in
set_option maxHeartbeats 4000000 in
theorem askingBack_walk (p h : ByteArray) (a b : Int) (s : ByteArray) (c : Nat) (hc : c ≤ 65535) (w : World) (hE : EnvF w) (ha0 : -9223372036854775808 ≤ a) (ha : a ≤ 9223372036854775807) (hb0 : -9223372036854775808 ≤ b) (hb : b ≤ 9223372036854775807) (hp : p.size ≤ 9223372036854775807) (hh : h.size ≤ 9223372036854775807) (hs : s.size ≤ 9223372036854775807) :
    Calls Tryz.prog 4 #[.agg #[.string p, .string h, .int .i64 a, .int .i64 b], .string s, .int .u16 (c : Int)] w fun e w' => e = .returned (.bool true) ∧ Below w.heap.size w w' := by
  have HE0 := Lib.hid (hE.below (below_agg4 w (.string p) (.string h) (.int .i64 a) (.int .i64 b) 25))
  have hbb := below_agg4 w (.string p) (.string h) (.int .i64 a) (.int .i64 b) 25
  by_cases h1 : (700 : Int) < (p.size : Int)
  · clear hE
    go_enter Tryz.func4, Tryz.ntmps4
    go_wp2_with fail
    refine (awake25 _ HE0.out).mono ?_
    rintro e w1 ⟨rfl, hb⟩
    go_wp2_with fail
    go_ret
    exact ⟨rfl, bstep hbb hb⟩
  by_cases h2 : (700 : Int) < (h.size : Int)
  · clear hE
    go_enter Tryz.func4, Tryz.ntmps4
    go_wp2_with fail
    refine (awake25 _ HE0.out).mono ?_
    rintro e w1 ⟨rfl, hb⟩
    go_wp2_with fail
    go_ret
    exact ⟨rfl, bstep hbb hb⟩
  by_cases h3 : (700 : Int) < (s.size : Int)
  · clear hE
    go_enter Tryz.func4, Tryz.ntmps4
    go_wp2_with fail
    refine (awake25 _ HE0.out).mono ?_
    rintro e w1 ⟨rfl, hb⟩
    go_wp2_with fail
    go_ret
    exact ⟨rfl, bstep hbb hb⟩
  by_cases he : aErr p.data.toList h.data.toList a b = 0
  · by_cases hk : askE s = 0
    · exact askingBack_11 p h a b s c hc w hE ha0 ha hb0 hb (by omega) (by omega) (by omega) he hk
    · exact askingBack_10 p h a b s c hc w hE ha0 ha hb0 hb (by omega) (by omega) (by omega) he hk
  · by_cases hk : askE s = 0
    · exact askingBack_01 p h a b s c hc w hE ha0 ha hb0 hb (by omega) (by omega) (by omega) he hk
    · exact askingBack_00 p h a b s c hc w hE ha0 ha hb0 hb (by omega) (by omega) (by omega) he hk
end Go.Proofs.YtgaojfebmcmpaaaGreatDoor
namespace Go.Proofs.YtgaojfebmcmpaaaGreatDoor
open Go.RowKit
theorem askingBack_go (p h : ByteArray) (a b : Int) (s : ByteArray) (c : Int) (k : p.size ≤ maxLen ∧ h.size ≤ maxLen ∧ (Lit.int .i64 a).wf = true ∧ (Lit.int .i64 b).wf = true) (ks : s.size ≤ maxLen) (kc : (Lit.int .u16 c).wf = true) (W : World) (hL : laidMetH Tryz.prog Rows.askingBackRow.laid W) (hsh : W.ShapedOpen Tryz.prog) :
    Calls Tryz.prog 4 #[.agg #[.string p, .string h, .int .i64 a, .int .i64 b], .string s, .int .u16 c] W fun e w' => e = .returned (.bool true) ∧ Below W.heap.size W w' := by
  rw [MakeChecks.laidMetH_plain _ _ _ (by kernel_rfl)] at hL
  obtain ⟨k0, k1, k2, k3⟩ := k
  obtain ⟨b1, b2⟩ := bounds_i64 k2
  obtain ⟨b3, b4⟩ := bounds_i64 k3
  have hc := bounds_u16 kc
  obtain ⟨n, rfl⟩ : ∃ n : Nat, c = (n : Int) := ⟨c.toNat, by omega⟩
  unfold maxLen at k0 k1 ks
  exact askingBack_walk p h a b s n (by omega) W (env_of hL (by simp) hsh) (by omega) (by omega) (by omega) (by omega) (by omega) (by omega) (by omega)
end Go.Proofs.YtgaojfebmcmpaaaGreatDoor
