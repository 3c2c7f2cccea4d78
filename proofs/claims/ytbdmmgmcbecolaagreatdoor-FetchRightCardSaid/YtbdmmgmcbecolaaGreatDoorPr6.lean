/- A request as printed is taken for itself; cut anywhere it is too short; what is taken may be printed (no program in sight). Plain words on replies: what one is printed as, and what is taken of bytes (no program in sight). DERIVED: THE SHELF's CONTRACTS AT THIS DUMP, IN PLAIN WORDS (tools/lay-plain.mjs out of 'YtbdmmgmcbecolaaGreatDoorSlLaysG.lean', which tools/lay-shelf.mjs wrote): THE SAME DECLARATIONS UNDER THE SAME NAMES: 'import', 'namespace', 'open', 'def', 'theorem' AND NOTHING ELSE: no command of the shelf's: FOR A HAND-IN. Each laying: the table of numbers ('.._ren') and one theorem, a field a fact of the dump's own or the kernel's comparison; each contract: ONE APPLICATION. slices.Equal and slices.Clone at the fields of a reply. copy of elements of more cells than one. The field that tells a body's length: reply.named; slices.IndexFunc and slices.DeleteFunc by it. What head of package reply returns. errors.Is at the errors that the reader of a reply's head tells. (The numbers of package variables and of types + 100 are filled in by fill.py.) Whether two replies are the same: the program's and the document's. -/
import Derived.Test.YtbdmmgmcbecolaaGreatDoorPr5
import Derived.Shelf.SlicesQ.Equal
import Derived.Shelf.SlicesE.Clone
import Derived.Shelf.SlicesQ.IndexFunc
import Derived.Ground.SlgqProg
import Derived.Ground.SlgnProg
import Derived.Ground.SlgfProg
import Derived.Test.YtbdmmgmcbecolaaGreatDoorProg
import Derived.Laws.StructEq
import Derived.Laws.IdiomCopy
import Derived.Laws.CopyOwn
import Derived.Shelf.Spec.SlicesInsert
import Derived.Test.YtbdmmgmcbecolaaGreatDoorChecked
import Derived.WalkKit
import Derived.LaidEql
import Derived.Stop.Asserts
import Derived.RowKitTokens
import Derived.Elder7
set_option linter.unusedVariables false
set_option linter.unusedSimpArgs false
namespace Go.Proofs.YtbdmmgmcbecolaaGreatDoor
open Go.RowKit

/-- the end of a head lies behind its beginning, within the text -/
theorem take_next_bd (s : ByteArray) (a : Int) (h : takeErr s a = 0) (h0 : 0 ≤ a) : a + 2 ≤ takeNext s a ∧ takeNext s a ≤ (s.size : Int) := by
  have hin : ¬ (a < 0 ∨ (s.size : Int) < a) := by
    intro hh
    rw [takeErr_out s a hh] at h
    exact absurd h (by decide)
  obtain ⟨i, rfl⟩ : ∃ i : Nat, a = (i : Int) := ⟨a.toNat, by omega⟩
  have hi : i ≤ s.size := by omega
  have hz := h
  rw [takeErr_in s i hi] at hz
  unfold takeNext
  rw [if_pos h, Int.toNat_natCast]
  have := scan_zero (s.data.toList.drop i) 0 hz
  unfold scanAt
  have hl : (s.data.toList.drop i).length = s.size - i := by rw [List.length_drop, size_len]
  omega
theorem headR_bd (s : ByteArray) : ∀ (f : Nat) (a : Int) (xs : List (List UInt8)), 0 ≤ a → (headR f s a xs).2.2 = 0 → 0 < f → a + 2 ≤ (headR f s a xs).2.1 ∧ (headR f s a xs).2.1 ≤ (s.size : Int) := by
  intro f
  induction f with
  | zero => intro a xs _ _ hf; omega
  | succ f ih =>
    intro a xs h0 he _
    by_cases h : takeErr s a = 0
    · obtain ⟨b1, b2⟩ := take_next_bd s a h h0
      by_cases h2 : (takeLine s a).toList.isEmpty = true
      · rw [headR_end f s a xs h h2]
        exact ⟨b1, b2⟩
      · rw [Bool.not_eq_true] at h2
        by_cases h3 : xs.length = 17
        · rw [headR_many f s a xs h h2 h3] at he
          exact absurd he (by decide)
        · rw [headR_more f s a xs h h2 h3] at he ⊢
          rcases f with _ | f
          · simp [headR] at he
          · obtain ⟨c1, c2⟩ := ih (takeNext s a) _ (by omega) he (by omega)
            exact ⟨by omega, c2⟩
    · rw [headR_err f s a xs h] at he
      exact absurd he h
theorem headOf_bd (s : ByteArray) (h : (headOf s).2.2 = 0) : 0 < (headOf s).2.1 ∧ (headOf s).2.1 ≤ (s.size : Int) := by
  have := headR_bd s 18 0 [] (by omega) h (by omega)
  unfold headOf
  exact ⟨by omega, this.2⟩

theorem words_one (p : List UInt8) (h : ∀ c ∈ p, c ≠ 32) : words p = [p] := by
  induction p with
  | nil => rfl
  | cons c t ih =>
    rw [words, if_neg (h c (List.mem_cons_self ..)), ih fun c hc => h c (List.mem_cons_of_mem _ hc)]
theorem words_pre (p r : List UInt8) (h : ∀ c ∈ p, c ≠ 32) : words (p ++ 32 :: r) = p :: words r := by
  induction p with
  | nil => rw [List.nil_append, words, if_pos rfl]
  | cons c t ih =>
    rw [List.cons_append, words, if_neg (h c (List.mem_cons_self ..)), ih fun c hc => h c (List.mem_cons_of_mem _ hc)]
theorem path_no32 (p : List UInt8) (h : pathB p = true) : ∀ c ∈ p, c ≠ 32 := by
  intro c hc e
  subst e
  exact absurd ((pathB_and p h).2.1 32 hc) (by decide)
theorem line1_words (p : List UInt8) (h : pathB p = true) : words (line1 p) = [[71, 69, 84], p, [72, 84, 84, 80, 47, 49, 46, 49]] := by
  have e : line1 p = [71, 69, 84] ++ 32 :: (p ++ 32 :: [72, 84, 84, 80, 47, 49, 46, 49]) := by unfold line1; simp
  rw [e, words_pre _ _ (by decide), words_pre _ _ (path_no32 p h), words_one _ (by decide)]
theorem line2_print (h : List UInt8) (hh : hostB h = true) : line2 h = printL hostK h := by
  have hne := (hostB_and h hh).2.2
  unfold line2 printL tailV
  rw [if_neg (by cases h <;> simp_all), show titL true hostK = [72, 111, 115, 116] by decide]
  rfl
theorem host_gap (h : List UInt8) (hh : hostB h = true) : printOk hostK h = true := by
  obtain ⟨-, h2, h3⟩ := hostB_and h hh
  have hg : ∀ c ∈ h, gapB c = false := by
    intro c hc
    have := hostN_plain c.toNat (h2 c hc)
    have h9 : c ≠ 9 := by rintro rfl; exact absurd (h2 9 hc) (by decide)
    have h32 : c ≠ 32 := by rintro rfl; exact absurd (h2 32 hc) (by decide)
    rw [← gapL_contains]
    unfold gapL
    simp [h9, h32]
  have hgap : ∀ l : List UInt8, (∀ c ∈ l, gapB c = false) → headGap l = false := by
    intro l hl
    cases l with
    | nil => rfl
    | cons c t => exact hl c (List.mem_cons_self ..)
  unfold printOk
  rw [show nameL hostK = true by decide, Bool.true_and, Bool.and_eq_true]
  refine ⟨List.all_eq_true.2 fun c hc => (hostN_plain c.toNat (h2 c hc)).1, ?_⟩
  unfold noGap
  rw [hgap h hg, hgap h.reverse (fun c hc => hg c (List.mem_reverse.1 hc))]
  rfl
theorem rangeL_eq (a b : Int) (h : rErr a b = 0) : askL a b = asksL ++ (Go.Lib.decDigits a.toNat ++ 45 :: Go.Lib.decDigits b.toNat) := by
  obtain ⟨h1, h2, h3⟩ := rErr_ok a b h
  unfold askL textR digL
  rw [if_pos h, if_neg (by omega), if_neg (by omega)]
theorem line3_print (a b : Int) (h : rErr a b = 0) : line3 a b = printL rangeK (askL a b) := by
  unfold line3 printL tailV
  rw [rangeL_eq a b h, if_neg (by simp [asksL]), show titL true rangeK = [82, 97, 110, 103, 101] by decide]
  rfl
theorem dig_no (n : Nat) : ∀ c ∈ Go.Lib.decDigits n, gapB c = false ∧ c ≠ 45 ∧ c ≠ 47 := by
  intro c hc
  have := digN_bd _ (List.all_eq_true.1 (decDigits_all n) c hc)
  have h9 : c ≠ 9 := by rintro rfl; exact absurd this (by decide)
  have h32 : c ≠ 32 := by rintro rfl; exact absurd this (by decide)
  refine ⟨?_, by rintro rfl; exact absurd this (by decide), by rintro rfl; exact absurd this (by decide)⟩
  rw [← gapL_contains]
  unfold gapL
  simp [h9, h32]
theorem dig_last (n : Nat) (x : List UInt8) : headGap (x ++ Go.Lib.decDigits n).reverse = false := by
  rw [List.reverse_append]
  cases e : (Go.Lib.decDigits n).reverse with
  | nil => exact absurd (List.reverse_eq_nil_iff.1 e) (decDigits_ne n)
  | cons c t => exact (dig_no n c (by rw [← List.mem_reverse, e]; exact List.mem_cons_self ..)).1
theorem range_gap (a b : Int) (h : rErr a b = 0) : printOk rangeK (askL a b) = true := by
  unfold printOk
  rw [show nameL rangeK = true by decide, Bool.true_and, Bool.and_eq_true]
  refine ⟨List.all_eq_true.2 fun c hc => askL_plain a b c hc, ?_⟩
  unfold noGap
  rw [rangeL_eq a b h]
  have e1 : headGap (asksL ++ (Go.Lib.decDigits a.toNat ++ 45 :: Go.Lib.decDigits b.toNat)) = false := by
    unfold asksL; rfl
  have e2 : asksL ++ (Go.Lib.decDigits a.toNat ++ 45 :: Go.Lib.decDigits b.toNat) = (asksL ++ (Go.Lib.decDigits a.toNat ++ [45])) ++ Go.Lib.decDigits b.toNat := by simp
  rw [e1, e2, dig_last]
  rfl
theorem upTo_of (c : UInt8) (x t : List UInt8) (h : ∀ d ∈ x, d ≠ c) : upTo c (x ++ c :: t) = x := by
  unfold upTo
  rw [List.takeWhile_append_of_pos (fun d hd => by simpa using h d hd), List.takeWhile_cons_of_neg (by simp)]
  simp
theorem hasB_of (c : UInt8) (x t : List UInt8) (h : ∀ d ∈ x, d ≠ c) : hasB c (x ++ c :: t) = true := by
  unfold hasB
  rw [upTo_of c x t h]
  simp
theorem behind_of (c : UInt8) (x t : List UInt8) (h : ∀ d ∈ x, d ≠ c) : behind c (x ++ c :: t) = t := by
  unfold behind
  rw [upTo_of c x t h, ← List.drop_drop, List.drop_left]
  rfl
theorem numE_dec (n : Nat) (h : n ≤ 9007199254740991) : numE (Go.Lib.decDigits n) = 0 ∧ numV (Go.Lib.decDigits n) = n := by
  have e : numE (Go.Lib.decDigits n) = 0 := by
    unfold numE
    rw [numBad_dec, if_neg (by decide), decV_decDigits, if_neg (by omega)]
  refine ⟨e, ?_⟩
  unfold numV
  rw [if_pos e, decV_decDigits]
theorem asked_ask (a b : Int) (h : rErr a b = 0) : askedE (askL a b) = 0 ∧ askedA (askL a b) = a ∧ askedB (askL a b) = b := by
  obtain ⟨h1, h2, h3⟩ := rErr_ok a b h
  have hd : (askL a b).drop 6 = Go.Lib.decDigits a.toNat ++ 45 :: Go.Lib.decDigits b.toNat := by rw [rangeL_eq a b h]; rfl
  have hno : ∀ d ∈ Go.Lib.decDigits a.toNat, d ≠ 45 := fun d hd => (dig_no _ d hd).2.1
  have hok : askedOk (askL a b) = true := by
    unfold askedOk
    rw [hd, hasB_of _ _ _ hno, rangeL_eq a b h, Bool.and_true]
    exact List.isPrefixOf_iff_prefix.2 (List.prefix_append _ _)
  have hF : askedF (askL a b) = a.toNat := by unfold askedF; rw [hd, upTo_of _ _ _ hno, (numE_dec _ (by omega)).2]
  have hT : askedT (askL a b) = b.toNat := by unfold askedT; rw [hd, behind_of _ _ _ hno, (numE_dec _ (by omega)).2]
  have he : askedE (askL a b) = 0 := by
    unfold askedE
    rw [if_neg (by rw [hok]; decide), hF, hT, hd, upTo_of _ _ _ hno, behind_of _ _ _ hno]
    unfold twoE
    rw [(numE_dec _ (by omega)).1, (numE_dec _ (by omega)).1, if_neg (by decide), Int.toNat_of_nonneg h1, Int.toNat_of_nonneg (by omega)]
    exact h
  refine ⟨he, ?_, ?_⟩
  · unfold askedA; rw [if_pos he, hF]; exact Int.toNat_of_nonneg h1
  · unfold askedB; rw [if_pos he, hT]; exact Int.toNat_of_nonneg (by omega)

theorem fields_req (h : List UInt8) (a b : Int) (hh : hostB h = true) (hr : rErr a b = 0) : fldE [line2 h, line3 a b] = 0 ∧ fldL [line2 h, line3 a b] = [(hostK, h), (rangeK, askL a b)] := by
  obtain ⟨x1, x2, x3⟩ := print_parse hostK h (host_gap h hh)
  obtain ⟨y1, y2, y3⟩ := print_parse rangeK (askL a b) (range_gap a b hr)
  rw [line2_print h hh, line3_print a b hr]
  refine ⟨?_, ?_⟩
  · unfold fldE fldE fldE
    rw [x3, y3]; rfl
  · unfold fldL
    simp [x1, x2, y1, y2]
theorem hits_req (x y : List UInt8) : getE [(hostK, x), (rangeK, y)] hostK = 0 ∧ getS [(hostK, x), (rangeK, y)] hostK = x ∧ getE [(hostK, x), (rangeK, y)] rangeK = 0 ∧ getS [(hostK, x), (rangeK, y)] rangeK = y := by
  have n1 : (rangeK == hostK) = false := by decide
  have n2 : (hostK == rangeK) = false := by decide
  have e1 : hits [(hostK, x), (rangeK, y)] hostK = [x] := by unfold hits; simp [List.filter, n1]
  have e2 : hits [(hostK, x), (rangeK, y)] rangeK = [y] := by unfold hits; simp [List.filter, n2]
  unfold getE getS
  rw [e1, e2]
  exact ⟨rfl, rfl, rfl, rfl⟩
theorem ln_req (p h : List UInt8) (a b : Int) (he : aErr p h a b = 0) : lnE [line1 p, line2 h, line3 a b] = 0 ∧ wordL [line1 p, line2 h, line3 a b] = p := by
  obtain ⟨hp, hh, hr⟩ := aErr_zero p h a b he
  obtain ⟨f1, f2⟩ := fields_req h a b hh hr
  obtain ⟨g1, g2, g3, g4⟩ := hits_req h (askL a b)
  obtain ⟨k1, k2, k3⟩ := asked_ask a b hr
  have hf : firstL [line1 p, line2 h, line3 a b] = 0 := by
    unfold firstL firstW
    rw [if_neg (by simp), show ([line1 p, line2 h, line3 a b] : List (List UInt8)).getD 0 [] = line1 p from rfl, line1_words p hp]
    simp [hp]
  refine ⟨?_, ?_⟩
  · unfold lnE
    rw [hf, List.tail_cons, f1, f2]
    unfold whoE whatE
    rw [g1, g2, g3, g4, hh, k1]
    rfl
  · unfold wordL
    rw [show ([line1 p, line2 h, line3 a b] : List (List UInt8)).getD 0 [] = line1 p from rfl, line1_words p hp]
    rfl
theorem lines_good (p h : List UInt8) (a b : Int) (he : aErr p h a b = 0) (ha : a ≤ 9223372036854775807) (hb : b ≤ 9223372036854775807) : ∀ x ∈ [line1 p, line2 h, line3 a b], goodLine x := by
  obtain ⟨hp, hh, hr⟩ := aErr_zero p h a b he
  intro x hx
  simp only [List.mem_cons, List.not_mem_nil, or_false] at hx
  rcases hx with rfl | rfl | rfl
  · have := putErr_good _ (line1_put p hp); exact ⟨by simp [line1], this.1, this.2⟩
  · have := putErr_good _ (line2_put h hh); exact ⟨by simp [line2], this.1, this.2⟩
  · have := putErr_good _ (line3_put a b ha hb); exact ⟨by simp [line3], this.1, this.2⟩
/-- what is taken of a printed request with anything behind it -/
theorem ask_req (p h : List UInt8) (a b : Int) (he : aErr p h a b = 0) (ha : a ≤ 9223372036854775807) (hb : b ≤ 9223372036854775807) (s : ByteArray) (rest : List UInt8) (hs : s.data.toList = reqL p h a b ++ rest) :
    askE s = 0 ∧ askPath s = p ∧ askHost s = h ∧ askA s = a ∧ askB s = b ∧ askN s = (reqL p h a b).length := by
  obtain ⟨hp, hh, hr⟩ := aErr_zero p h a b he
  have hd : headOf s = ([line1 p, line2 h, line3 a b], ((reqL p h a b).length : Int), 0) := by
    have := head_ok s rest [line1 p, line2 h, line3 a b] [] [] 18 (lines_good p h a b he ha hb) (by simp) (by simp) (by rw [hs]; unfold reqL; simp)
    unfold headOf
    rw [show (0 : Int) = ((([] : List UInt8).length : Nat) : Int) from rfl, this]
    unfold reqL
    simp
  obtain ⟨l1, l2⟩ := ln_req p h a b he
  obtain ⟨f1, f2⟩ := fields_req h a b hh hr
  obtain ⟨g1, g2, g3, g4⟩ := hits_req h (askL a b)
  obtain ⟨k1, k2, k3⟩ := asked_ask a b hr
  have e0 : askE s = 0 := by unfold askE; rw [hd]; simpa using l1
  refine ⟨e0, ?_, ?_, ?_, ?_, ?_⟩
  · unfold askPath; rw [if_pos e0, hd]; exact l2
  · unfold askHost; rw [if_pos e0, hd]; simp only [List.tail_cons]; rw [f2, g2]
  · unfold askA; rw [if_pos e0, hd]; simp only [List.tail_cons]; rw [f2, g4, k2]
  · unfold askB; rw [if_pos e0, hd]; simp only [List.tail_cons]; rw [f2, g4, k3]
  · unfold askN; rw [if_pos e0, hd]
/-- what is taken may be printed, and what is printed of it is taken for the same -/
theorem ask_again (s : ByteArray) (h0 : askE s = 0) : aErr (askPath s) (askHost s) (askA s) (askB s) = 0 ∧ 0 < askN s ∧ askN s ≤ (s.size : Int) ∧ 0 ≤ askA s ∧ askA s ≤ 9007199254740990 ∧ 0 ≤ askB s ∧ askB s ≤ 9007199254740990 := by
  have hh : (headOf s).2.2 = 0 := by
    by_cases h : (headOf s).2.2 = 0
    · exact h
    · unfold askE at h0; rw [if_pos h] at h0; exact h0
  have hl : lnE (headOf s).1 = 0 := by unfold askE at h0; rw [if_neg (by simp [hh])] at h0; exact h0
  have h1 : firstL (headOf s).1 = 0 := by
    by_cases h : firstL (headOf s).1 = 0
    · exact h
    · unfold lnE at hl; rw [if_pos h] at hl; exact hl
  unfold lnE at hl
  rw [if_neg (by simp [h1])] at hl
  have h2 : fldE (headOf s).1.tail = 0 := by
    by_cases h : fldE (headOf s).1.tail = 0
    · exact h
    · rw [if_pos h] at hl; exact hl
  rw [if_neg (by simp [h2])] at hl
  have h3 : whoE (fldL (headOf s).1.tail) = 0 := by
    by_cases h : whoE (fldL (headOf s).1.tail) = 0
    · exact h
    · rw [if_pos h] at hl; exact hl
  rw [if_neg (by simp [h3])] at hl
  have hp : pathB (wordL (headOf s).1) = true := by
    unfold firstL firstW at h1
    unfold wordL
    split at h1
    · exact absurd h1 (by decide)
    split at h1
    · exact absurd h1 (by decide)
    split at h1
    · exact absurd h1 (by decide)
    split at h1
    · exact absurd h1 (by decide)
    split at h1
    · exact absurd h1 (by decide)
    · rename_i hx
      simpa using hx
  have hH : hostB (getS (fldL (headOf s).1.tail) hostK) = true := by
    unfold whoE at h3
    split at h3
    · rename_i hx; exact absurd h3 hx
    split at h3
    · exact absurd h3 (by decide)
    · rename_i hx
      simpa using hx
  have hA : askedE (getS (fldL (headOf s).1.tail) rangeK) = 0 := by
    unfold whatE at hl
    split at hl
    · rename_i hx; exact absurd hl hx
    · exact hl
  have hr : rErr (askedF (getS (fldL (headOf s).1.tail) rangeK)) (askedT (getS (fldL (headOf s).1.tail) rangeK)) = 0 := by
    have hA' := hA
    unfold askedE at hA'
    split at hA'
    · exact absurd hA' (by decide)
    split at hA'
    · rename_i hx; exact absurd hA' hx
    · exact hA'
  obtain ⟨n1, n2⟩ := headOf_bd s hh
  obtain ⟨r1, r2, r3⟩ := rErr_ok _ _ hr
  unfold askPath askHost askA askB askN
  rw [if_pos h0, if_pos h0, if_pos h0, if_pos h0, if_pos h0]
  unfold askedA askedB
  rw [if_pos hA, if_pos hA]
  refine ⟨?_, n1, n2, r1, by omega, by omega, r3⟩
  unfold aErr
  rw [if_neg (by simp [hp, hH])]
  exact hr
theorem ask_bad (s : ByteArray) (h0 : askE s ≠ 0) : askPath s = [] ∧ askHost s = [] ∧ askA s = 0 ∧ askB s = 0 ∧ askN s = 0 := by
  unfold askPath askHost askA askB askN
  rw [if_neg h0, if_neg h0, if_neg h0, if_neg h0, if_neg h0]
  exact ⟨rfl, rfl, rfl, rfl, rfl⟩
end Go.Proofs.YtbdmmgmcbecolaaGreatDoor
namespace Go.Proofs.YtbdmmgmcbecolaaGreatDoor
open Go.RowKit

def clen : List UInt8 := [99, 111, 110, 116, 101, 110, 116, 45, 108, 101, 110, 103, 116, 104]
def ownE : List (List UInt8 × List UInt8) → Nat
  | [] => 0
  | f :: t => if f.1 = clen then 22 else if fieldE f.1 f.2 ≠ 0 then fieldE f.1 f.2 else ownE t
/-- what is wrong with a reply that is to be printed -/
def repE (c : Int) (fs : List (List UInt8 × List UInt8)) : Nat := if printErr c ≠ 0 then printErr c else if 15 < fs.length then 21 else ownE fs
def repLines (c : Int) (fs : List (List UInt8 × List UInt8)) (n : Nat) : List (List UInt8) := (printOf c).data.toList :: printL clen (digL n) :: fs.map (fun f => printL f.1 f.2)
def repL (c : Int) (fs : List (List UInt8 × List UInt8)) (b : List UInt8) : List UInt8 := body (repLines c fs b.length) ++ 13 :: 10 :: b
def repS (c : Int) (fs : List (List UInt8 × List UInt8)) (b : List UInt8) : List UInt8 := if repE c fs = 0 then repL c fs b else []
theorem ownE_at (xs : List (List UInt8 × List UInt8)) : ∀ k, (∀ j (hj : j < xs.length), j < k → xs[j].1 ≠ clen ∧ fieldE xs[j].1 xs[j].2 = 0) → ownE xs = ownE (xs.drop k) := by
  induction xs with
  | nil => intro k _; simp
  | cons x t ih =>
    intro k h
    cases k with
    | zero => rfl
    | succ k =>
      have h0 : x.1 ≠ clen ∧ fieldE x.1 x.2 = 0 := h 0 (by simp) (by omega)
      show (if x.1 = clen then 22 else if fieldE x.1 x.2 ≠ 0 then fieldE x.1 x.2 else ownE t) = ownE (t.drop k)
      rw [if_neg h0.1, if_neg (fun hh => hh h0.2)]
      exact ih k (fun j hj hk => h (j + 1) (by simp; omega) (by omega))
theorem ownE_zero (fs : List (List UInt8 × List UInt8)) (h : ownE fs = 0) : ∀ f ∈ fs, f.1 ≠ clen ∧ fieldE f.1 f.2 = 0 := by
  induction fs with
  | nil => intro f hf; simp at hf
  | cons x t ih =>
    unfold ownE at h
    split at h
    · exact absurd h (by decide)
    · rename_i h1
      split at h
      · rename_i h2; exact absurd h h2
      · rename_i h2
        intro f hf
        rcases List.mem_cons.1 hf with rfl | hf
        · exact ⟨h1, Decidable.not_not.1 h2⟩
        · exact ih h f hf
theorem repE_zero (c : Int) (fs : List (List UInt8 × List UInt8)) (h : repE c fs = 0) : 100 ≤ c ∧ c ≤ 599 ∧ fs.length ≤ 15 ∧ ∀ f ∈ fs, f.1 ≠ clen ∧ fieldE f.1 f.2 = 0 := by
  unfold repE at h
  split at h
  · rename_i hx; exact absurd h hx
  · rename_i hx
    split at h
    · exact absurd h (by decide)
    · have hc : classOf c ≠ 0 := fun e => hx (by unfold printErr; rw [if_pos e]; decide)
      rw [Ne, class_iff] at hc
      exact ⟨by omega, by omega, by omega, ownE_zero fs h⟩
theorem clen_named : nameL clen = true := by decide
theorem dig_gapless (n : Nat) : noGap (Go.Lib.decDigits n) = true := by
  have e1 : headGap (Go.Lib.decDigits n) = false := by
    cases e : Go.Lib.decDigits n with
    | nil => rfl
    | cons c t => exact (dig_no n c (by rw [e]; exact List.mem_cons_self ..)).1
  unfold noGap
  rw [e1]
  have := dig_last n []
  rw [List.nil_append] at this
  rw [this]; rfl
theorem digL_nat (n : Nat) : digL (n : Int) = Go.Lib.decDigits n := by unfold digL; rw [if_neg (by omega), Int.toNat_natCast]
theorem clen_ok (n : Nat) (hn : n ≤ 1000000) : fieldE clen (digL n) = 0 := by
  have hp : printOk clen (digL n) = true := by
    unfold printOk
    rw [clen_named, Bool.true_and, Bool.and_eq_true]
    refine ⟨List.all_eq_true.2 fun c hc => digL_plain n c hc, ?_⟩
    rw [digL_nat]; exact dig_gapless n
  unfold fieldE
  rw [if_pos hp, if_neg]
  have := decDigits_len n (by omega)
  unfold printL tailV
  rw [digL_nat]
  split
  · simp [titL_len, clen]
  · simp only [List.length_append, List.length_cons, titL_len]
    rw [show clen.length = 14 from rfl]; omega
theorem printL_ne (n v : List UInt8) : printL n v ≠ [] := by unfold printL; simp
theorem good_print (n v : List UInt8) (h : fieldE n v = 0) : goodLine (printL n v) := by
  have := putErr_good _ (print_put n v h)
  exact ⟨printL_ne n v, this.1, this.2⟩
theorem printOf_line (c : Int) (h1 : 100 ≤ c) (h2 : c ≤ 599) : printOf c = statusLine c := by
  unfold printOf; rw [if_neg (by rw [class_iff]; omega)]
theorem good_status (c : Int) (h1 : 100 ≤ c) (h2 : c ≤ 599) : goodLine (printOf c).data.toList ∧ statusOf (printOf c).data.toList = (c, 0) := by
  obtain ⟨n, rfl⟩ : ∃ n : Nat, c = n := ⟨c.toNat, by omega⟩
  rw [printOf_line _ h1 h2]
  have := putErr_good _ (status_print_put n (by omega) (by omega))
  refine ⟨⟨?_, this.1, this.2⟩, status_print_parse n (by omega) (by omega)⟩
  rw [statusLine_data n (by omega) (by omega)]; simp [versionL]
theorem good_lines (c : Int) (fs : List (List UInt8 × List UInt8)) (n : Nat) (h : repE c fs = 0) (hn : n ≤ 1000000) : (∀ x ∈ repLines c fs n, goodLine x) ∧ (repLines c fs n).length ≤ 17 := by
  obtain ⟨h1, h2, h3, h4⟩ := repE_zero c fs h
  refine ⟨?_, by unfold repLines; simp; omega⟩
  intro x hx
  unfold repLines at hx
  rcases List.mem_cons.1 hx with rfl | hx
  · exact (good_status c h1 h2).1
  rcases List.mem_cons.1 hx with rfl | hx
  · exact good_print _ _ (clen_ok n hn)
  · obtain ⟨f, hf, rfl⟩ := List.mem_map.1 hx
    exact good_print _ _ (h4 f hf).2
theorem fldE_cons (x : List UInt8) (t : List (List UInt8)) (h : parseE x = 0) : fldE (x :: t) = fldE t := if_neg (fun hh => hh h)
theorem fld_print (fs : List (List UInt8 × List UInt8)) (h : ∀ f ∈ fs, fieldE f.1 f.2 = 0) : fldE (fs.map (fun f => printL f.1 f.2)) = 0 ∧ fldL (fs.map (fun f => printL f.1 f.2)) = fs := by
  induction fs with
  | nil => exact ⟨rfl, rfl⟩
  | cons f t ih =>
    obtain ⟨x1, x2, x3⟩ := print_parse f.1 f.2 (fieldE_zero _ _ (h f (List.mem_cons_self ..))).1
    obtain ⟨i1, i2⟩ := ih (fun g hg => h g (List.mem_cons_of_mem _ hg))
    refine ⟨by rw [List.map_cons, fldE_cons _ _ x3, i1], ?_⟩
    unfold fldL at i2 ⊢
    rw [List.map_cons, List.map_cons, i2, x1, x2]
/-- what is wrong with a head's lines; its code, its body's length, its other fields -/
def hdE (ls : List (List UInt8)) : Nat := if ls = [] then 4 else if (statusOf (ls.getD 0 [])).2 ≠ 0 then (statusOf (ls.getD 0 [])).2 else if fldE ls.tail ≠ 0 then fldE ls.tail else if getE (fldL ls.tail) clen ≠ 0 then getE (fldL ls.tail) clen else numE (getS (fldL ls.tail) clen)
def hdC (ls : List (List UInt8)) : Int := (statusOf (ls.getD 0 [])).1
def hdN (ls : List (List UInt8)) : Nat := numV (getS (fldL ls.tail) clen)
def restF (fs : List (List UInt8 × List UInt8)) : List (List UInt8 × List UInt8) := fs.filter (fun f => f.1 != clen)
def takE (s : ByteArray) (most : Int) : Nat := if (headOf s).2.2 ≠ 0 then (headOf s).2.2 else if hdE (headOf s).1 ≠ 0 then hdE (headOf s).1 else if most < (hdN (headOf s).1 : Int) then 5 else if (s.size : Int) - (headOf s).2.1 < (hdN (headOf s).1 : Int) then 3 else 0
def takC (s : ByteArray) (most : Int) : Int := if takE s most = 0 then hdC (headOf s).1 else 0
def takF (s : ByteArray) (most : Int) : List (List UInt8 × List UInt8) := if takE s most = 0 then restF (fldL (headOf s).1.tail) else []
def takB (s : ByteArray) (most : Int) : List UInt8 := if takE s most = 0 then (s.data.toList.take ((headOf s).2.1.toNat + hdN (headOf s).1)).drop (headOf s).2.1.toNat else []
def takN (s : ByteArray) (most : Int) : Int := if takE s most = 0 then (headOf s).2.1 + (hdN (headOf s).1 : Int) else 0
theorem tak_bad (s : ByteArray) (most : Int) (h : takE s most ≠ 0) : takC s most = 0 ∧ takF s most = [] ∧ takB s most = [] ∧ takN s most = 0 := by
  unfold takC takF takB takN
  rw [if_neg h, if_neg h, if_neg h, if_neg h]
  exact ⟨rfl, rfl, rfl, rfl⟩
theorem rest_none (fs : List (List UInt8 × List UInt8)) (h : ∀ f ∈ fs, f.1 ≠ clen) : restF fs = fs ∧ hits fs clen = [] := by
  refine ⟨List.filter_eq_self.2 (fun f hf => bne_iff_ne.2 (h f hf)), ?_⟩
  unfold hits
  rw [List.filter_eq_nil_iff.2 (fun f hf => by simpa using h f hf)]; rfl
theorem hd_rep (c : Int) (fs : List (List UInt8 × List UInt8)) (n : Nat) (h : repE c fs = 0) (hn : n ≤ 1000000) :
    hdE (repLines c fs n) = 0 ∧ hdC (repLines c fs n) = c ∧ hdN (repLines c fs n) = n ∧ restF (fldL (repLines c fs n).tail) = fs := by
  obtain ⟨h1, h2, h3, h4⟩ := repE_zero c fs h
  have hs := (good_status c h1 h2).2
  obtain ⟨i1, i2⟩ := fld_print fs (fun f hf => (h4 f hf).2)
  obtain ⟨x1, x2, x3⟩ := print_parse clen (digL n) (fieldE_zero _ _ (clen_ok n hn)).1
  obtain ⟨r1, r2⟩ := rest_none fs (fun f hf => (h4 f hf).1)
  have hg : (repLines c fs n).getD 0 [] = (printOf c).data.toList := rfl
  have ht : (repLines c fs n).tail = printL clen (digL n) :: fs.map (fun f => printL f.1 f.2) := rfl
  have hF : fldL (repLines c fs n).tail = (clen, digL n) :: fs := by
    rw [ht]
    unfold fldL at i2 ⊢
    rw [List.map_cons, i2, x1, x2]
  have hE : fldE (repLines c fs n).tail = 0 := by rw [ht, fldE_cons _ _ x3, i1]
  have hh : hits ((clen, digL n) :: fs) clen = [digL n] := by
    unfold hits at r2 ⊢
    rw [List.filter_cons_of_pos (by simp), List.map_cons, r2]
  obtain ⟨n1, n2⟩ := numE_dec n (by omega)
  refine ⟨?_, ?_, ?_, ?_⟩
  · unfold hdE
    rw [if_neg (by unfold repLines; simp), hg, hs, if_neg (by simp), hE, if_neg (by simp), hF]
    unfold getE getS
    rw [hh]
    show (if (0 : Nat) ≠ 0 then 0 else numE (digL n)) = 0
    rw [if_neg (by simp), digL_nat, n1]
  · unfold hdC; rw [hg, hs]
  · unfold hdN; rw [hF]; unfold getS; rw [hh]
    show numV (digL n) = n
    rw [digL_nat, n2]
  · rw [hF]
    unfold restF at r1 ⊢
    rw [List.filter_cons_of_neg (by simp), r1]
theorem head_rep (c : Int) (fs : List (List UInt8 × List UInt8)) (b rest : List UInt8) (s : ByteArray) (h : repE c fs = 0) (hn : b.length ≤ 1000000) (hs : s.data.toList = body (repLines c fs b.length) ++ 13 :: 10 :: rest) :
    headOf s = (repLines c fs b.length, ((body (repLines c fs b.length)).length : Int) + 2, 0) := by
  obtain ⟨g1, g2⟩ := good_lines c fs b.length h hn
  have := head_ok s rest (repLines c fs b.length) [] [] 18 g1 (by simpa using g2) (by simp) (by simpa using hs)
  unfold headOf
  rw [show (0 : Int) = ((([] : List UInt8).length : Nat) : Int) from rfl, this]
  simp
/-- what is taken of a printed reply with anything behind it -/
theorem rep_take (c : Int) (fs : List (List UInt8 × List UInt8)) (b rest : List UInt8) (s : ByteArray) (most : Int) (h : repE c fs = 0) (hn : b.length ≤ 1000000) (hs : s.data.toList = repL c fs b ++ rest) (hm : (b.length : Int) ≤ most) :
    takE s most = 0 ∧ takC s most = c ∧ takF s most = fs ∧ takB s most = b ∧ takN s most = (repL c fs b).length := by
  have hd := head_rep c fs b (b ++ rest) s h hn (by rw [hs]; unfold repL; simp)
  obtain ⟨e1, e2, e3, e4⟩ := hd_rep c fs b.length h hn
  have hsz : s.size = (body (repLines c fs b.length)).length + 2 + b.length + rest.length := by
    rw [← size_len, hs]; unfold repL; simp only [List.length_append, List.length_cons]; omega
  have hE : takE s most = 0 := by
    unfold takE
    rw [hd]
    simp only [e1, e3]
    rw [if_neg (by simp), if_neg (by simp), if_neg (by omega), if_neg (by omega)]
  refine ⟨hE, ?_, ?_, ?_, ?_⟩
  · unfold takC; rw [if_pos hE, hd]; exact e2
  · unfold takF; rw [if_pos hE, hd]; exact e4
  · unfold takB; rw [if_pos hE, hd]
    simp only [e3]
    have ht : (((body (repLines c fs b.length)).length : Int) + 2).toNat = (body (repLines c fs b.length) ++ [13, 10]).length := by simp; omega
    rw [ht, hs]
    unfold repL
    have e5 : body (repLines c fs b.length) ++ 13 :: 10 :: b ++ rest = (body (repLines c fs b.length) ++ [13, 10]) ++ (b ++ rest) := by simp
    rw [e5, List.take_length_add_append, List.drop_left, List.take_left]
  · unfold takN; rw [if_pos hE, hd]
    simp only [e3]
    unfold repL
    simp only [List.length_append, List.length_cons]; omega
theorem rep_long (c : Int) (fs : List (List UInt8 × List UInt8)) (b rest : List UInt8) (s : ByteArray) (most : Int) (h : repE c fs = 0) (hn : b.length ≤ 1000000) (hs : s.data.toList = repL c fs b ++ rest) (hm : most < (b.length : Int)) : takE s most = 5 := by
  have hd := head_rep c fs b (b ++ rest) s h hn (by rw [hs]; unfold repL; simp)
  obtain ⟨e1, e2, e3, e4⟩ := hd_rep c fs b.length h hn
  unfold takE
  rw [hd]
  simp only [e1, e3]
  rw [if_neg (by simp), if_neg (by simp), if_pos hm]
theorem rep_cut (c : Int) (fs : List (List UInt8 × List UInt8)) (b : List UInt8) (s : ByteArray) (k : Nat) (h : repE c fs = 0) (hn : b.length ≤ 1000000) (hk : k < (repL c fs b).length) (hs : s.data.toList = (repL c fs b).take k) : takE s (b.length : Int) = 3 := by
  obtain ⟨g1, g2⟩ := good_lines c fs b.length h hn
  by_cases hb : k < (body (repLines c fs b.length)).length + 2
  · have hs2 : s.data.toList = (body (repLines c fs b.length) ++ [13, 10]).take k := by
      rw [hs]; unfold repL
      have e5 : body (repLines c fs b.length) ++ 13 :: 10 :: b = (body (repLines c fs b.length) ++ [13, 10]) ++ b := by simp
      rw [e5, List.take_append_of_le_length (by simp; omega)]
    have := head_cut s (repLines c fs b.length) [] [] 18 k g1 (by simpa using g2) (by simp) hb (by rw [hs2]; simp)
    have hd : headOf s = ([], 0, 3) := by
      unfold headOf
      rw [show (0 : Int) = ((([] : List UInt8).length : Nat) : Int) from rfl, this]
      rfl
    unfold takE
    rw [hd]
    rfl
  · have hl : (repL c fs b).length = (body (repLines c fs b.length)).length + 2 + b.length := by unfold repL; simp only [List.length_append, List.length_cons]; omega
    have hd := head_rep c fs b (b.take (k - ((body (repLines c fs b.length)).length + 2))) s h hn (by
      rw [hs]; unfold repL
      have e5 : ∀ x, body (repLines c fs b.length) ++ 13 :: 10 :: x = (body (repLines c fs b.length) ++ [13, 10]) ++ x := fun x => by simp
      rw [e5, e5, List.take_append, List.take_of_length_le (by simp; omega)]
      simp)
    obtain ⟨e1, e2, e3, e4⟩ := hd_rep c fs b.length h hn
    have hsz : s.size = k := by rw [← size_len, hs, List.length_take]; omega
    unfold takE
    rw [hd]
    simp only [e1, e3]
    rw [if_neg (by simp), if_neg (by simp), if_neg (by omega), if_pos (by omega)]
theorem tak_zero (s : ByteArray) (most : Int) (h : takE s most = 0) : (headOf s).2.2 = 0 ∧ hdE (headOf s).1 = 0 ∧ (hdN (headOf s).1 : Int) ≤ most ∧ (hdN (headOf s).1 : Int) ≤ (s.size : Int) - (headOf s).2.1 := by
  unfold takE at h
  split at h
  · rename_i hx; exact absurd h hx
  rename_i h1
  split at h
  · rename_i hx; exact absurd h hx
  rename_i h2
  split at h
  · exact absurd h (by decide)
  split at h
  · exact absurd h (by decide)
  exact ⟨Decidable.not_not.1 h1, Decidable.not_not.1 h2, by omega, by omega⟩
theorem hdE_zero (ls : List (List UInt8)) (h : hdE ls = 0) : ls ≠ [] ∧ (statusOf (ls.getD 0 [])).2 = 0 ∧ fldE ls.tail = 0 ∧ getE (fldL ls.tail) clen = 0 ∧ numE (getS (fldL ls.tail) clen) = 0 := by
  unfold hdE at h
  split at h
  · exact absurd h (by decide)
  rename_i h1
  split at h
  · rename_i hx; exact absurd h hx
  rename_i h2
  split at h
  · rename_i hx; exact absurd h hx
  rename_i h3
  split at h
  · rename_i hx; exact absurd h hx
  rename_i h4
  exact ⟨h1, Decidable.not_not.1 h2, Decidable.not_not.1 h3, Decidable.not_not.1 h4, h⟩
theorem fldE_none (ls : List (List UInt8)) (h : fldE ls = 0) : ∀ x ∈ ls, parseE x = 0 := by
  induction ls with
  | nil => intro x hx; simp at hx
  | cons y t ih =>
    unfold fldE at h
    split at h
    · rename_i hx; exact absurd h hx
    · rename_i hx
      intro x hm
      rcases List.mem_cons.1 hm with rfl | hm
      · exact Decidable.not_not.1 hx
      · exact ih h x hm
theorem split_one (fs : List (List UInt8 × List UInt8)) (h : getE fs clen = 0) : ∃ a x b, fs = a ++ x :: b ∧ x.1 = clen ∧ (∀ y ∈ a, y.1 ≠ clen) ∧ (∀ y ∈ b, y.1 ≠ clen) ∧ restF fs = a ++ b := by
  have hl : (fs.filter (fun f => f.1 == clen)).length = 1 := by
    unfold getE hits at h
    cases e : (fs.filter (fun f => f.1 == clen)) with
    | nil => rw [e] at h; exact absurd h (by decide)
    | cons x t =>
      cases t with
      | nil => rfl
      | cons y u => rw [e] at h; exact absurd h (by simp)
  clear h
  induction fs with
  | nil => simp at hl
  | cons f t ih =>
    by_cases hf : f.1 = clen
    · rw [List.filter_cons_of_pos (by simp [hf]), List.length_cons] at hl
      have hn : t.filter (fun f => f.1 == clen) = [] := List.length_eq_zero_iff.1 (by omega)
      have ht : ∀ y ∈ t, y.1 ≠ clen := fun y hy e => by
        have := List.filter_eq_nil_iff.1 hn y hy
        simp [e] at this
      refine ⟨[], f, t, rfl, hf, fun y hy => by simp at hy, ht, ?_⟩
      unfold restF
      rw [List.filter_cons_of_neg (by simp [hf])]
      exact (rest_none t ht).1
    · rw [List.filter_cons_of_neg (by simp [hf])] at hl
      obtain ⟨a, x, b, e1, e2, e3, e4, e5⟩ := ih hl
      refine ⟨f :: a, x, b, by rw [e1]; rfl, e2, ?_, e4, ?_⟩
      · intro y hy
        rcases List.mem_cons.1 hy with rfl | hy
        · exact hf
        · exact e3 y hy
      · unfold restF at e5 ⊢
        rw [List.filter_cons_of_pos (by simp [hf]), e5]; rfl
end Go.Proofs.YtbdmmgmcbecolaaGreatDoor
namespace Go.Proofs
open Go.Shelf
def layCloneF_ren : Go.Shelf.Ren := ⟨fun | 41 => 123 | n => n, fun | 22 => 111 | 23 => 161 | 4 => 4 | n => n, fun | n => n⟩
theorem layCloneF : Go.Proofs.SlLaysE0.n41 Tryz.prog layCloneF_ren := {
  mixed := by kernel_rfl
  f41 := ⟨Tryz.f123.name, by decide, Tryz.func123.trans (congrArg some (by kernel_rfl))⟩
  t4 := Tryz.underlying4
  a4 := Tryz.isAgg4
  z4 := Tryz.sizeOf4
  v4 := Tryz.zeroValue4
  t22 := Tryz.underlying111
  a22 := Tryz.isAgg111
  z22 := Tryz.sizeOf111
  v22 := Tryz.zeroValue111 }
def layIndexF_ren : Go.Shelf.Ren := ⟨fun | 6 => 150 | n => n, fun | 22 => 111 | 23 => 161 | 25 => 223 | 3 => 3 | 0 => 0 | 4 => 4 | n => n, fun | n => n⟩
theorem layIndexF : Go.Proofs.SlLaysH0.n6 Tryz.prog layIndexF_ren := {
  mixed := by kernel_rfl
  f6 := ⟨Tryz.f150.name, by decide, Tryz.func150.trans (congrArg some (by kernel_rfl))⟩
  t0 := Tryz.underlying0
  a0 := Tryz.isAgg0
  z0 := Tryz.sizeOf0
  v0 := Tryz.zeroValue0
  t3 := Tryz.underlying3
  a3 := Tryz.isAgg3
  z3 := Tryz.sizeOf3
  v3 := Tryz.zeroValue3
  t4 := Tryz.underlying4
  a4 := Tryz.isAgg4
  z4 := Tryz.sizeOf4
  v4 := Tryz.zeroValue4
  t22 := Tryz.underlying111
  a22 := Tryz.isAgg111
  z22 := Tryz.sizeOf111
  v22 := Tryz.zeroValue111
  t25 := Tryz.underlying223
  a25 := Tryz.isAgg223
  z25 := Tryz.sizeOf223
  v25 := Tryz.zeroValue223 }
end Go.Proofs
namespace Go.Proofs.YtbdmmgmcbecolaaGreatDoor
open Go.RowKit Go.Shelf Go.Lib
/-- a field's two cells -/
def encF (x : List UInt8 × List UInt8) : List Value := [.string (bs x.1), .string (bs x.2)]
theorem fcell {w : World} {b o : Nat} {fs : List (List UInt8 × List UInt8)} (h : ∀ j (hj : j < fs.length), w.cell? ⟨b, o + j * 2, none⟩ = some (.string (bs fs[j].1)) ∧ w.cell? ⟨b, o + j * 2 + 1, none⟩ = some (.string (bs fs[j].2))) :
    ∀ j, j < fs.length → ∀ i v, (encF fs[j]!)[i]? = some v → w.cell? ⟨b, o + j * 2 + i, none⟩ = some v := by
  intro j hj i v hv
  rw [getElem!_pos fs j hj] at hv
  obtain ⟨h1, h2⟩ := h j hj
  match i, hv with
  | 0, hv => simp only [encF, List.getElem?_cons_zero, Option.some.injEq] at hv; subst hv; exact h1
  | 1, hv => simp only [encF, List.getElem?_cons_succ, List.getElem?_cons_zero, Option.some.injEq] at hv; subst hv; exact h2
theorem info_fieldS : (Tryz.prog.info? 161).map (fun i => (i.zero, i.size, i.bytes)) = some (some (.agg #[.string ByteArray.empty, .string ByteArray.empty]), 2, 32) := by kernel_rfl
theorem fcells_one (fs : List (List UInt8 × List UInt8)) : ∀ u ∈ fcells fs, u.oneCell' = true := by
  induction fs with
  | nil => intro u hu; cases hu
  | cons f t ih =>
    intro u hu
    rcases List.mem_cons.1 hu with rfl | hu
    · rfl
    rcases List.mem_cons.1 hu with rfl | hu
    · rfl
    · exact ih u hu
theorem fcells_at {w : World} {b o : Nat} {fs : List (List UInt8 × List UInt8)} (h : ∀ j (hj : j < fs.length), w.cell? ⟨b, o + j * 2, none⟩ = some (.string (bs fs[j].1)) ∧ w.cell? ⟨b, o + j * 2 + 1, none⟩ = some (.string (bs fs[j].2))) :
    ∀ j u, (fcells fs)[j]? = some u → w.cell? ⟨b, o + j, none⟩ = some u := by
  intro j u hu
  have hj : j < fs.length * 2 := by rw [← fcells_length]; exact (List.getElem?_eq_some_iff.1 hu).1
  have hk : j / 2 < fs.length := by omega
  obtain ⟨g1, g2⟩ := fcells_get fs (j / 2) hk
  obtain ⟨h1, h2⟩ := h (j / 2) hk
  rcases Nat.mod_two_eq_zero_or_one j with e | e
  · have e2 : j / 2 * 2 = j := by omega
    rw [e2] at g1 h1
    rw [g1] at hu
    rw [← Option.some.inj hu]
    exact h1
  · have e2 : j / 2 * 2 + 1 = j := by omega
    have e3 : o + j / 2 * 2 + 1 = o + j := by omega
    rw [e2] at g2
    rw [e3] at h2
    rw [g2] at hu
    rw [← Option.some.inj hu]
    exact h2
/-- slices.Clone of fields that are there: the same fields in memory of the call's own -/
theorem clone_fields (v : Value) (fs : List (List UInt8 × List UInt8)) (w : World) (h : HoldsF w v fs) (hne : fs ≠ []) (hl : fs.length ≤ 1000000) :
    Calls Tryz.prog 123 #[v] w fun e w' => ∃ v', e = .returned v' ∧ w'.ownsRow w.heap.size 161 2 v' fs.length (fcells fs) ∧ Below w.heap.size w w' := by
  obtain ⟨a, c, rfl, h1, h2⟩ := h
  obtain ⟨b, o, rfl, hlt, hc⟩ := h2 hne
  have hi := info_fieldS
  cases e : Tryz.prog.info? 161 with
  | none => rw [e] at hi; cases hi
  | some i =>
    rw [e] at hi
    simp only [Option.map_some, Option.some.injEq, Prod.mk.injEq] at hi
    obtain ⟨i1, i2, i3⟩ := hi
    refine (AnyE.slices_Clone layCloneF i _ 2 32 e i1 i2 i3 rfl (by decide) Tryz.sizeOf161 b o fs.length c (fcells fs) w (fcells_length fs) (by unfold maxLen; omega) (by omega) (fcells_at hc) (fcells_one fs)).mono ?_
    rintro e w' ⟨v', rfl, h3, -, h4⟩
    exact ⟨v', rfl, h3, h4⟩
/-- slices.Clone of no field -/
theorem clone_empty (a : Option Addr) (c : Nat) (w : World) (ha : ∀ p, a = some p → ∃ b o, p = ⟨b, o, none⟩) :
    Calls Tryz.prog 123 #[.slice a 0 c] w fun e w' => ∃ v', e = .returned v' ∧ w'.ownsRow w.heap.size 161 2 v' 0 [] ∧ Below w.heap.size w w' := by
  cases a with
  | none =>
    refine (AnyE.slices_Clone_nil layCloneF 0 c w).mono ?_
    rintro e w' ⟨rfl, rfl⟩
    exact ⟨_, rfl, ⟨rfl, .inl ⟨rfl, rfl⟩⟩, Below.refl _ _⟩
  | some p =>
    obtain ⟨b, o, rfl⟩ := ha p rfl
    have hi := info_fieldS
    cases e : Tryz.prog.info? 161 with
    | none => rw [e] at hi; cases hi
    | some i =>
      rw [e] at hi
      simp only [Option.map_some, Option.some.injEq, Prod.mk.injEq] at hi
      obtain ⟨i1, i2, i3⟩ := hi
      refine (AnyE.slices_Clone layCloneF i _ 2 32 e i1 i2 i3 rfl (by decide) Tryz.sizeOf161 b o 0 c [] w rfl (Nat.zero_le _) (by omega) (fun j u hu => by simp at hu) (fun u hu => by cases hu)).mono ?_
      rintro e w' ⟨v', rfl, h3, -, h4⟩
      exact ⟨v', rfl, h3, h4⟩
end Go.Proofs.YtbdmmgmcbecolaaGreatDoor
namespace Go.Proofs.YtbdmmgmcbecolaaGreatDoor
open Go.RowKit
variable {P : Program}
theorem run_copy_row_wide (w : World) (dT sT ty elem : TypeId) (k m g o dLen dCap : Nat) (a : Addr) (sLen sCap : Nat) (cur : Array Value) (t : TypeId) (cs : List Value)
    (hu : P.underlying dT = some (.slice elem)) (hs : (P.info? elem).map (·.size) = some k) (hm : Nat.min sLen dLen = m) (hn : m * k = cs.length)
    (hg : w.heap[g]? = some (.cells cur t (0, 0)))
    (hsrc : ∀ j v, cs[j]? = some v → w.cell? (a.add j) = some v) (hfit : o + cs.length ≤ cur.size) (h1 : ∀ v ∈ cs, v.oneCell' = true) :
    (Builtin.copy_ #[dT, sT] ty #[.slice (some ⟨g, o, none⟩) dLen dCap, .slice (some a) sLen sCap]).run P w = .ok (goInt m) (w.setRow g (splice cur.toList o cs).toArray) := by
  have hl := run_loadCells_list (P := P) w a cs hsrc
  have hst := run_storeCells_at P g o t cs 0 cur w hg (by simpa using hfit) h1
  rw [List.append_assoc] at hst
  cases hq : P.info? elem with
  | none => simp [hq] at hs
  | some i =>
    have hi : i.size = k := by simpa [hq] using hs
    simp [Builtin.copy_, run_underlying hu, Builtin.lenOf, Builtin.firstCells, sizeOf, typeInfo, hq, hi, hm, hn, hl, hst, splice]
end Go.Proofs.YtbdmmgmcbecolaaGreatDoor
namespace Go.Proofs.YtbdmmgmcbecolaaGreatDoor
open Go.RowKit Go.Shelf Go.Lib
set_option maxHeartbeats 1000000 in
theorem reply_named (p q : List UInt8) (w : World) : Calls Tryz.prog 110 #[.agg #[.string (bs p), .string (bs q)]] w fun e w' => e = .returned (.bool (decide (p = clen))) ∧ Below w.heap.size w w' := by
  obtain ⟨r, hr⟩ : ∃ r, decide (p = clen) = r := ⟨_, rfl⟩
  have e0 : ((bs p).toList == [99, 111, 110, 116, 101, 110, 116, 45, 108, 101, 110, 103, 116, 104]) = r := by rw [← hr]; exact bs_lit p clen
  rw [hr]
  clear hr
  go_enter Tryz.func110, Tryz.ntmps110
  go_wp2_with fail
  go_ret
  exact ⟨rfl, (Below.refl _ _).alloc (Nat.le_refl _) _⟩
theorem named_gives (w : World) : PredBelow Tryz.prog 110 #[] (fun x => .agg (encF x).toArray) (fun x => decide (x.1 = clen)) w := fun W x hb => by
  show Calls Tryz.prog 110 #[.agg #[.string (bs x.1), .string (bs x.2)]] W _
  refine (reply_named x.1 x.2 W).mono ?_
  rintro e w' ⟨rfl, h⟩
  exact ⟨rfl, bstep hb h⟩
theorem idx_hit (a b : List (List UInt8 × List UInt8)) (h : List UInt8 × List UInt8) (hh : h.1 = clen) (ha : ∀ x ∈ a, x.1 ≠ clen) : Lib.idxBy (fun _ y => decide (y.1 = clen)) (a ++ h :: b) (default : List UInt8 × List UInt8) = (a.length : Int) := by
  unfold Lib.idxBy
  rw [Lib.idxByFrom_hit _ _ _ a.length 0 (by simp)]
  · simp
  · rw [getElem!_pos _ _ (by simp)]; simp [hh]
  · intro j hj
    rw [getElem!_pos _ _ (by simp; omega), List.getElem_append_left hj]
    exact decide_eq_false (ha _ (List.getElem_mem hj))
theorem index_named (g n cap : Nat) (fs : List (List UInt8 × List UInt8)) (w : World) (hn : n = fs.length) (hl : fs.length ≤ 1000000) (hg : g < w.heap.size)
    (hc : ∀ j (hj : j < fs.length), w.cell? ⟨g, 0 + j * 2, none⟩ = some (.string (bs fs[j].1)) ∧ w.cell? ⟨g, 0 + j * 2 + 1, none⟩ = some (.string (bs fs[j].2))) :
    Calls Tryz.prog 150 #[.slice (some ⟨g, 0, none⟩) n cap, .func (.func 110) #[] #[]] w fun e w' => e = .returned (.int .i64 (Lib.idxBy (fun _ y => decide (y.1 = clen)) fs default)) ∧ Below w.heap.size w w' := by
  subst hn
  have eg : ∀ args w, (callFunc 110 args).run Tryz.prog w = .ok (.enter 110 args) w := enters_of Tryz.func110 (by kernel_rfl) rfl
  have := AnyQ.slices_IndexFunc layIndexF 2 Tryz.isAgg161 Tryz.sizeOf161 encF (fun _ => rfl) (fun x => decide (x.1 = clen)) 110 #[] eg g 0 fs.length cap fs w (named_gives w) (Nat.le_refl _) (by omega) hg (fcell hc)
  rw [List.take_length] at this
  exact this
theorem run_clear_row_wide {P : Program} (w : World) (t e ty : TypeId) (z : Value) (ht : P.underlying t = some (.slice e)) (hv : ∀ w, (zeroValue e).run P w = .ok z w) (g o c : Nat) (cur : Array Value) (te : TypeId) (hg : w.heap[g]? = some (.cells cur te (0, 0)))
    (hfit : o + z.cells.toList.length ≤ cur.size) (h1 : ∀ v ∈ z.cells.toList, v.oneCell' = true) :
    (Builtin.clear_ #[t] ty #[.slice (some ⟨g, o, none⟩) 1 c]).run P w = .ok (.tuple #[]) (w.setRow g (splice cur.toList o z.cells.toList).toArray) := by
  have hzc : (Builtin.zeroCells z.cells 1).toList = z.cells.toList := by
    apply List.ext_getElem
    · simp [Builtin.zeroCells]
    · intro i h1 h2
      have hi : i < z.cells.size := by simpa using h2
      simp [Builtin.zeroCells, Nat.mod_eq_of_lt hi, getElem!_pos z.cells i hi]
  have hst := run_storeCells_at P g o te z.cells.toList 0 cur w hg (by simpa using hfit) h1
  simp only [Nat.add_zero] at hst
  rw [List.append_assoc] at hst
  simp [Builtin.clear_, run_underlying ht, hv, hzc, hst, splice]
theorem fcells_set (L : List (List UInt8 × List UInt8)) (i : Nat) (f : List UInt8 × List UInt8) : fcells (L.set i f) = ((fcells L).set (i * 2) (.string (bs f.1))).set (i * 2 + 1) (.string (bs f.2)) := by
  induction L generalizing i with
  | nil => rfl
  | cons x t ih =>
    cases i with
    | zero => rfl
    | succ i =>
      show _ :: _ :: fcells (t.set i f) = _
      rw [ih, show (i + 1) * 2 = i * 2 + 1 + 1 by omega]
      rfl
theorem row_set2 {w : World} {g : Nat} {cur : Array Value} {t : TypeId} (h : w.heap[g]? = some (.cells cur t (0, 0))) (i j : Nat) (p q : Value) :
    ((w.setCell ⟨g, i, none⟩ p).setCell ⟨g, j, none⟩ q).heap[g]? = some (.cells ((cur.setIfInBounds i p).setIfInBounds j q) t (0, 0)) := by
  simp [World.setCell, Array.getElem?_modify, h]
theorem mid_set (a b : List (List UInt8 × List UInt8)) (x y : List UInt8 × List UInt8) (k i : Nat) (hk : k < b.length) (hy : b[k] = y) (hi : a.length + k = i) : (a ++ (b.take k ++ x :: b.drop k)).set i y = a ++ (b.take (k + 1) ++ y :: b.drop (k + 1)) := by
  subst hi hy
  rw [List.set_append_right _ _ (by omega), Nat.add_sub_cancel_left, List.set_append_right _ _ (by rw [List.length_take]; omega), List.length_take, Nat.min_eq_left (by omega), Nat.sub_self, List.set_cons_zero, List.take_succ_eq_append_getElem hk, List.append_assoc, List.drop_eq_getElem_cons hk]
  rfl
theorem mid_get (a b : List (List UInt8 × List UInt8)) (x : List UInt8 × List UInt8) (k : Nat) (hk : k < b.length) (h : a.length + 1 + k < (a ++ (b.take k ++ x :: b.drop k)).length) : (a ++ (b.take k ++ x :: b.drop k))[a.length + 1 + k] = b[k] := by
  apply Option.some.inj
  rw [← List.getElem?_eq_getElem h, List.getElem?_append_right (by omega), List.getElem?_append_right (by rw [List.length_take]; omega), List.length_take, Nat.min_eq_left (by omega), show a.length + 1 + k - a.length - k = 1 by omega, List.drop_eq_getElem_cons hk]
  rfl
/-- what a row of fields holds while one is being taken out -/
structure MidRow (wr : World) (g cap N : Nat) (L : List (List UInt8 × List UInt8)) : Prop where
  ex : ∃ cur, wr.heap[g]? = some (.cells cur 161 (0, 0)) ∧ cur.size = cap * 2 ∧ cur.toList.take (N * 2) = fcells L ∧ L.length = N ∧ N ≤ cap ∧ cap ≤ maxLen
theorem MidRow.below {w w' : World} {g cap N : Nat} {L : List (List UInt8 × List UInt8)} (h : MidRow w g cap N L) (hb : Below w.heap.size w w') : MidRow w' g cap N L := by
  obtain ⟨cur, h1, h2⟩ := h.ex
  exact ⟨cur, (hb.block g (Array.getElem?_eq_some_iff.1 h1).1).trans h1, h2⟩
theorem MidRow.lt {w : World} {g cap N : Nat} {L : List (List UInt8 × List UInt8)} (h : MidRow w g cap N L) : g < w.heap.size := by
  obtain ⟨cur, h1, h2⟩ := h.ex
  exact (Array.getElem?_eq_some_iff.1 h1).1
theorem MidRow.cells {w : World} {g cap N : Nat} {L : List (List UInt8 × List UInt8)} (h : MidRow w g cap N L) (j : Nat) (hj : j < N) (y : List UInt8 × List UInt8) (hy : L[j]? = some y) :
    w.cell? ⟨g, j * 2, none⟩ = some (.string (bs y.1)) ∧ w.cell? ⟨g, j * 2 + 1, none⟩ = some (.string (bs y.2)) ∧ w.frozen? ⟨g, j * 2, none⟩ = false ∧ w.frozen? ⟨g, j * 2 + 1, none⟩ = false := by
  obtain ⟨cur, h1, h2, h3, h4, h5, h6⟩ := h.ex
  have hjl : j < L.length := by omega
  obtain ⟨g1, g2⟩ := fcells_get L j hjl
  rw [List.getElem?_eq_getElem hjl] at hy
  obtain rfl := Option.some.inj hy
  have key : ∀ k u, k < N * 2 → (fcells L)[k]? = some u → w.cell? ⟨g, k, none⟩ = some u := by
    intro k u hk hu
    rw [cell_of_row w g k cur _ (0, 0) h1, ← Array.getElem?_toList]
    rw [← h3, List.getElem?_take, if_pos hk] at hu
    exact hu
  refine ⟨key _ _ (by omega) g1, key _ _ (by omega) g2, ?_, ?_⟩
  · unfold World.frozen?; rw [h1]; rfl
  · unfold World.frozen?; rw [h1]; rfl
theorem MidRow.set {w : World} {g cap N : Nat} {L : List (List UInt8 × List UInt8)} (h : MidRow w g cap N L) (i : Nat) (y : List UInt8 × List UInt8) :
    MidRow ((w.setCell ⟨g, i * 2, none⟩ (.string (bs y.1))).setCell ⟨g, i * 2 + 1, none⟩ (.string (bs y.2))) g cap N (L.set i y) := by
  obtain ⟨cur, h1, h2, h3, h4, h5, h6⟩ := h.ex
  refine ⟨_, row_set2 h1 _ _ _ _, by simp [h2], ?_, by rw [List.length_set, h4], h5, h6⟩
  rw [Array.toList_setIfInBounds, Array.toList_setIfInBounds, List.take_set, List.take_set, h3, fcells_set]
theorem MidRow.clear {w : World} {g cap i : Nat} {L : List (List UInt8 × List UInt8)} (h : MidRow w g cap (i + 1) L) (base : Nat) (hb : base ≤ g) :
    ∃ w', (∀ ty dc, (Builtin.clear_ #[111] ty #[.slice (some ⟨g, i * 2, none⟩) 1 dc]).run Tryz.prog w = .ok (.tuple #[]) w') ∧ w'.ownsRow base 161 2 (.slice (some ⟨g, 0, none⟩) i cap) i (fcells (L.take i)) ∧ w.grownBy w' (some g) := by
  obtain ⟨cur, h1, h2, h3, h4, h5, h6⟩ := h.ex
  have hz := Tryz.zeroValue161
  refine ⟨_, fun ty dc => run_clear_row_wide w 111 161 ty _ Tryz.underlying111 hz g (i * 2) dc cur 161 h1 (by show i * 2 + 2 ≤ _; omega) (by simp [Value.cells, Value.oneCell']), ?_, ?_⟩
  · refine ⟨by rw [fcells_length, List.length_take]; omega, .inr ⟨g, cap, _, rfl, hb, setRow_heap w g cur _ _ _ h1, by omega, ?_, ?_, ?_⟩⟩
    · exact h6
    · rw [List.size_toArray, length_splice _ _ _ (by show i * 2 + 2 ≤ _; rw [Array.length_toList]; omega), Array.length_toList, h2]
    · have e1 : fcells L = fcells (L.take i) ++ fcells (L.drop i) := by rw [← fcells_append, List.take_append_drop]
      have e2 : (fcells (L.take i)).length = i * 2 := by rw [fcells_length, List.length_take]; omega
      unfold splice
      rw [List.toList_toArray, List.take_left' (by rw [List.length_take, Array.length_toList]; omega)]
      have : cur.toList.take (i * 2) = (cur.toList.take ((i + 1) * 2)).take (i * 2) := by rw [List.take_take]; congr 1; omega
      rw [this, h3, e1, List.take_left' e2]
  · exact ⟨rfl, rfl, rfl, by simp [World.setRow], fun k hk hn => setRow_other w g k _ (fun e => hn (by rw [e]))⟩

theorem grown_trans {w w1 w2 : World} {r : Option Nat} (h : w.grownBy w1 r) (k : w1.grownBy w2 r) : w.grownBy w2 r :=
  ⟨k.os.trans h.os, k.tape.trans h.tape, k.output.trans h.output, Nat.le_trans h.size k.size, fun b hb hn => (k.block b (Nat.lt_of_lt_of_le hb h.size) hn).trans (h.block b hb hn)⟩
def DelPost (g base cap : Nat) (fs : List (List UInt8 × List UInt8)) (w : World) (e : Ending) (w' : World) : Prop :=
  e = .returned (.slice (some ⟨g, 0, none⟩) fs.length cap) ∧ w'.ownsRow base 161 2 (.slice (some ⟨g, 0, none⟩) fs.length cap) fs.length (fcells fs) ∧ w.grownBy w' (some g)
set_option maxRecDepth 100000 in
set_option maxHeartbeats 4000000 in
theorem delete_named (g base cap n : Nat) (a b : List (List UInt8 × List UInt8)) (h : List UInt8 × List UInt8) (w : World) (hn : n = (a ++ h :: b).length) (hh : h.1 = clen) (ha : ∀ x ∈ a, x.1 ≠ clen) (hb : ∀ x ∈ b, x.1 ≠ clen) (hl : n ≤ 1000000)
    (hown : w.ownsRow base 161 2 (.slice (some ⟨g, 0, none⟩) n cap) n (fcells (a ++ h :: b))) :
    Calls Tryz.prog 109 #[.slice (some ⟨g, 0, none⟩) n cap, .func (.func 110) #[] #[]] w (DelPost g base cap (a ++ b) w) := by
  obtain ⟨hM, hbase⟩ : MidRow w g cap n (a ++ h :: b) ∧ base ≤ g := by
    rcases hown.2 with ⟨h0, -⟩ | ⟨g', cap', cur, e1, h1, h2, h3, h4, h5, h6⟩
    · cases h0
    · cases e1
      exact ⟨⟨cur, h2, h5, h6, hn.symm, h3, h4⟩, h1⟩
  have hMg := hM.lt
  have HI := Lib.hid (index_named g n cap (a ++ h :: b) w hn (by omega) hMg (fun j hj => by
    obtain ⟨h1, h2, -, -⟩ := hM.cells j (by omega) _ (List.getElem?_eq_getElem hj)
    rw [Nat.zero_add]; exact ⟨h1, h2⟩))
  rw [idx_hit a b h hh ha] at HI
  obtain ⟨i, hi⟩ : ∃ i, a.length + b.length = i := ⟨_, rfl⟩
  have hni : n = i + 1 := by rw [hn]; simp; omega
  subst hni
  have hcap : i + 1 ≤ cap := by obtain ⟨cur, h1, h2, h3, h4, h5, h6⟩ := hM.ex; exact h5
  have hcap2 : cap ≤ 9223372036854775807 := by obtain ⟨cur, h1, h2, h3, h4, h5, h6⟩ := hM.ex; unfold maxLen at h6; exact h6
  have HM := Lib.hid hM
  have HB := Lib.hid hb
  have hal : a.length ≤ i := by omega
  have t1 : ((a.length : Int) == -1) = false := by rw [beq_eq_false_iff_ne]; omega
  obtain ⟨al, hAL⟩ : ∃ al, a.length = al := ⟨_, rfl⟩
  obtain ⟨bl, hBL⟩ : ∃ bl, b.length = bl := ⟨_, rfl⟩
  rw [hAL] at HI t1 hal
  have HAB := Lib.hid (And.intro hAL hBL)
  rw [hAL, hBL] at hi
  clear hown hM hn hb ha hAL hBL
  go_enter Tryz.func109, Tryz.ntmps109
  go_wp2_with fail
  refine HI.out.mono ?_
  rintro e w1 ⟨rfl, hb1⟩
  have HM1 := Lib.hid (HM.out.below hb1)
  have HG1 := Lib.hid ((GR.refl g w).below hb1)
  clear hb1 HI
  go_wp2_with fail
  go_loopg [5, 6, 7] bl (fun gk s5 s6 _ wr => ∃ (k : Nat) (x : List UInt8 × List UInt8), s5 = .int .i64 ((al + k : Nat) : Int) ∧ s6 = .int .i64 ((al + 1 + k : Nat) : Int) ∧ k + gk = bl ∧ Hid (MidRow wr g cap (i + 1) (a ++ (b.take k ++ x :: b.drop k))) ∧ Hid (w.grownBy wr (some g)))
  case atStart => exact ⟨0, h, by simp, by simp, by omega, HM1, HG1⟩
  case round =>
    obtain ⟨k, x, rfl, rfl, hgk, HR, HG⟩ := hrel
    obtain ⟨p, hp⟩ : ∃ p, al + k = p := ⟨_, rfl⟩
    obtain ⟨q, hq⟩ : ∃ q, al + 1 + k = q := ⟨_, rfl⟩
    have HQP : Hid (q = p + 1) := Lib.hid (by omega)
    have hrg := HR.out.lt
    rw [hp, hq]
    by_cases hk : k < bl
    · obtain ⟨g', rfl⟩ : ∃ g', gk = g' + 1 := ⟨gk - 1, by omega⟩
      have tk : decide ((q : Int) < (i : Int) + 1) = true := decide_eq_true (by have := HQP.out; omega)
      have hk2 : k < b.length := by rw [HAB.out.2]; exact hk
      obtain ⟨y, hy⟩ : ∃ y, b[k] = y := ⟨_, rfl⟩
      have HY : Hid ((a ++ (b.take k ++ x :: b.drop k))[q]? = some y) := Lib.hid (by
        have hlen : a.length + 1 + k < (a ++ (b.take k ++ x :: b.drop k)).length := by
          simp only [List.length_append, List.length_cons, List.length_take, List.length_drop]; omega
        have := mid_get a b x k hk2 hlen
        rw [← hq, ← HAB.out.1, List.getElem?_eq_getElem hlen, this, hy])
      have HS : Hid ((a ++ (b.take k ++ x :: b.drop k)).set p y = a ++ (b.take (k + 1) ++ y :: b.drop (k + 1))) := Lib.hid (mid_set a b x y k p hk2 hy (by rw [HAB.out.1]; exact hp))
      have hyc : decide (y.1 = clen) = false := decide_eq_false (by rw [← hy]; exact HB.out _ (List.getElem_mem hk2))
      obtain ⟨c0, c1, -, -⟩ := HR.out.cells q (by omega) y HY.out
      have HN := Lib.hid (fun w => reply_named y.1 y.2 w)
      rw [hyc] at HN
      clear hyc hy HY hk2
      go_wp2_with fail
      refine (HN.out _).mono ?_
      rintro e w2 ⟨rfl, hb2⟩
      have HR2 := Lib.hid ((HR.out.below ((Below.refl _ _).alloc (Nat.le_refl _) (.cells #[.string (bs y.1), .string (bs y.2)] 161))).below hb2)
      have HG2 := Lib.hid ((HG.out.below ((Below.refl _ _).alloc (Nat.le_refl _) (.cells #[.string (bs y.1), .string (bs y.2)] 161))).below hb2)
      obtain ⟨z, hz⟩ : ∃ z, (a ++ (b.take k ++ x :: b.drop k))[p]? = some z := ⟨_, List.getElem?_eq_getElem (by
        have := HAB.out
        simp only [List.length_append, List.length_cons, List.length_take, List.length_drop]; omega)⟩
      obtain ⟨d0, d1, f0, f1⟩ := HR2.out.cells p (by omega) z hz
      have hk0 : w2.heap[wr.heap.size]? = some (.cells #[.string (bs y.1), .string (bs y.2)] 161 (0, 0)) := (hb2.block wr.heap.size (by simp)).trans (heap_alloc_new wr _)
      have k0 : w2.cell? ⟨wr.heap.size, 0, none⟩ = some (.string (bs y.1)) := by unfold World.cell?; rw [hk0]; rfl
      have k1 : w2.cell? ⟨wr.heap.size, 1, none⟩ = some (.string (bs y.2)) := by unfold World.cell?; rw [hk0]; rfl
      clear hb2 c0 c1 hk0 hz
      go_wp2_with fail
      go_roundg g'
      case measure => omega
      case rel => exact ⟨k + 1, y, by go_num, by go_num, by omega, Lib.hid (by rw [← HS.out]; exact HR2.out.set p y), Lib.hid ((HG2.out.set _ _).set _ _)⟩
    · obtain rfl : k = bl := by omega
      have hpi : p = i := by omega
      subst hpi
      have tk : decide ((q : Int) < (p : Int) + 1) = false := decide_eq_false (by have := HQP.out; omega)
      obtain ⟨w2, hcl, hown, hg⟩ := HR.out.clear base hbase
      have HO := Lib.hid hown
      have HGG := Lib.hid hg
      have HT : Hid ((a ++ (b.take k ++ x :: b.drop k)).take p = a ++ b ∧ (a ++ b).length = p) := Lib.hid (by
        have := HAB.out
        have e1 : b.take k = b := List.take_of_length_le (by omega)
        rw [e1, ← List.append_assoc]
        exact ⟨List.take_left' (by rw [List.length_append]; omega), by rw [List.length_append]; omega⟩)
      clear hown hg
      go_wp2_with fail
      go_ret
      unfold DelPost
      rw [HT.out.2]
      have := HO.out
      rw [HT.out.1] at this
      exact ⟨rfl, this, grown_trans HG.out HGG.out⟩
end Go.Proofs.YtbdmmgmcbecolaaGreatDoor
namespace Go.Proofs.YtbdmmgmcbecolaaGreatDoor
open Go.RowKit

/-- the block of a reply that is being taken -/
def RpB (w : World) (R : Nat) (c f b : Value) : Prop := w.heap[R]? = some (.cells #[c, f, b] 113 (0, 0))
theorem RpB.below {w w' : World} {R : Nat} {c f b : Value} (k : RpB w R c f b) (hb : Below w.heap.size w w') : RpB w' R c f b :=
  (hb.block R (Array.getElem?_eq_some_iff.1 k).1).trans k
theorem RpB.lt {w : World} {R : Nat} {c f b : Value} (k : RpB w R c f b) : R < w.heap.size := (Array.getElem?_eq_some_iff.1 k).1
theorem RpB.cells {w : World} {R : Nat} {c f b : Value} (k : RpB w R c f b) :
    w.cell? ⟨R, 0, none⟩ = some c ∧ w.cell? ⟨R, 1, none⟩ = some f ∧ w.cell? ⟨R, 2, none⟩ = some b := by
  unfold RpB at k
  refine ⟨?_, ?_, ?_⟩ <;> (unfold World.cell?; rw [k]; rfl)
theorem RpB.free {w : World} {R : Nat} {c f b : Value} (k : RpB w R c f b) :
    w.frozen? ⟨R, 0, none⟩ = false ∧ w.frozen? ⟨R, 1, none⟩ = false ∧ w.frozen? ⟨R, 2, none⟩ = false := by
  unfold RpB at k
  refine ⟨?_, ?_, ?_⟩ <;> (unfold World.frozen?; rw [k]; rfl)
theorem RpB.set0 {w : World} {R : Nat} {c f b : Value} (k : RpB w R c f b) (v : Value) : RpB (w.setCell ⟨R, 0, none⟩ v) R v f b := by
  unfold RpB at k ⊢; simp [World.setCell, Array.getElem?_modify, k]
theorem RpB.set1 {w : World} {R : Nat} {c f b : Value} (k : RpB w R c f b) (v : Value) : RpB (w.setCell ⟨R, 1, none⟩ v) R c v b := by
  unfold RpB at k ⊢; simp [World.setCell, Array.getElem?_modify, k]
/-- behind the append: the block as it was, all below it, too -/
def AfterAppP (R : Nat) (W w' : World) (c v b : Value) : Prop := RpB w' R c v b ∧ W.grownBy w' (some R)
theorem step_appP {ops : Array Oper} {o : Oper} {a : Act} {K : Act → World → Prop} {Q : Exit → Act → World → Prop} {E : Prop} {R base : Nat} (w0 : World) (hw0 : w0.heap.size = base) (hR0 : R < base) {c v b : Value} {W2 : World} {fs : List (List UInt8 × List UInt8)} (W : World) (hgd : o.guard = none) (s z : Operand)
    (ho : o.op = .call { callee := .builtin .append, args := #[s, z], argTypes := #[111, 111] })
    (hR2 : RpB W2 R c v b) (hown : W2.ownsRow base 161 2 v fs.length (fcells fs)) (hg0 : w0.grownBy W2 (some R)) (hs : a.eval s = v) (hn : fs.length < 2147483648) (hbW : Below W2.heap.size W2 W)
    (B : Nat) (f : List UInt8 × List UInt8) (hB : W.heap[B]? = some (.cells #[.string (bs f.1), .string (bs f.2)] 161 (0, 0))) (hx : a.eval z = .slice (some ⟨B, 0, none⟩) 1 1)
    (hK : ∀ g cap w', w'.ownsRow base 161 2 (.slice (some ⟨g, 0, none⟩) (fs.length + 1) cap) (fs ++ [f]).length (fcells (fs ++ [f])) → w'.cell? ⟨R, 1, none⟩ = some v → w'.frozen? ⟨R, 1, none⟩ = false → AfterAppP R w0 w' c v b → K (a.put o.dst (.slice (some ⟨g, 0, none⟩) (fs.length + 1) cap)) w') :
    if Region.wanted o (yielded ops a.tmps) = true then Oper.wp Tryz.prog o a W K Q else E := by
  have hoW := own_keep hown hbW
  have hlt := hR2.lt
  have hsz := hbW.size
  have hs0 := hg0.size
  refine step_appF W hgd s z ho base v fs hs hoW B f hB hx hn (by omega) (fun g cap w' h1 h2 => ?_)
  have hR3 : RpB w' R c v b := (grow_block h2 hoW hR0 (by omega)).trans (hR2.below hbW)
  have hg1 := hg0.below hbW
  have hb3 : w0.grownBy w' (some R) := ⟨h2.os.trans hg1.os, h2.tape.trans hg1.tape, h2.output.trans hg1.output, Nat.le_trans hg1.size h2.size, fun k hk hne =>
    (h2.block k (Nat.lt_of_lt_of_le hk hg1.size) (fun h => by have := (hoW.lt k h.symm).1; omega)).trans (hg1.block k hk hne)⟩
  exact hK g cap w' h1 hR3.cells.2.1 hR3.free.2.1 ⟨hR3, hb3⟩
/-- what a head leaves: the length and the mark that it is whole, or an error -/
def HdPost (R : Nat) (w : World) (b : Value) (ls : List (List UInt8)) (e : Ending) (w' : World) : Prop :=
  (hdE ls ≠ 0 ∧ e = .returned (.tuple #[.int .i64 0, .iface 25 (.int .i64 (hdE ls : Nat))]) ∧ (∃ c f, RpB w' R c f b) ∧ w.grownBy w' (some R)) ∨
  (hdE ls = 0 ∧ e = .returned (.tuple #[.int .i64 (hdN ls : Nat), .iface 159 (.string ⟨#[116, 97, 107, 101, 110]⟩)]) ∧ (∃ f, RpB w' R (.int .i64 (hdC ls)) f b ∧ w'.ownsRow w.heap.size 161 2 f (restF (fldL ls.tail)).length (fcells (restF (fldL ls.tail)))) ∧ w.grownBy w' (some R))
theorem get_clen (v : Value) (fs : List (List UInt8 × List UInt8)) (w : World) (hv : HoldsF w v fs) (hlen : fs.length ≤ 1000000) :
    Calls Tryz.prog 47 #[v, .string ⟨#[99, 111, 110, 116, 101, 110, 116, 45, 108, 101, 110, 103, 116, 104]⟩] w fun e w' => e = .returned (.tuple #[.string (bs (getS fs clen)), .int .i64 (getE fs clen : Nat)]) ∧ Below w.heap.size w w' :=
  fields_get v fs ⟨#[99, 111, 110, 116, 101, 110, 116, 45, 108, 101, 110, 103, 116, 104]⟩ w hv hlen
theorem get_none (w : World) : Calls Tryz.prog 47 #[.slice none 0 0, .string ⟨#[99, 111, 110, 116, 101, 110, 116, 45, 108, 101, 110, 103, 116, 104]⟩] w fun e w' => e = .returned (.tuple #[.string ⟨#[]⟩, .int .i64 6]) ∧ Below w.heap.size w w' :=
  get_clen (.slice none 0 0) [] w (HoldsF.nil _ _ _) (by decide)
set_option maxRecDepth 100000 in
set_option maxHeartbeats 4000000 in
theorem reply_head (R : Nat) (w : World) (lv b : Value) (ls : List (List UInt8)) (hR : RpB w R (.int .i64 0) (.slice none 0 0) b) (hl : HoldsS w lv ls) (hlen : ls.length ≤ 17) (hx : ∀ x ∈ ls, x.length ≤ 256) (hA : Anchor R w) (hbk : lv.ownBlock ≠ some R) :
    Calls Tryz.prog 74 #[.pointer (some ⟨R, 0, none⟩), lv] w (HdPost R w b ls) := by
  have hRl := hR.lt
  by_cases hne : ls = []
  · subst hne
    obtain ⟨av, c, rfl, hc, hh⟩ := hl
    have HR := Lib.hid hR
    clear hR hh hx hA hbk
    go_enter Tryz.func74, Tryz.ntmps74
    go_wp2_with fail
    go_ret2
    exact .inl ⟨by decide, rfl, ⟨_, _, HR.out⟩, GR.refl _ _⟩
  obtain ⟨x0, ts, rfl⟩ : ∃ x ts, ls = x :: ts := by cases ls with
    | nil => exact absurd rfl hne
    | cons x ts => exact ⟨x, ts, rfl⟩
  obtain ⟨av, c, rfl, hc, hh⟩ := hl
  obtain ⟨B, o, rfl, hBl, hcell⟩ := hh (by simp)
  have c0 := hcell 0 (by simp)
  rw [Nat.add_zero] at c0
  change w.cell? ⟨B, o, none⟩ = some (.string (bs x0)) at c0
  have HC : Hid (∀ j (hj : j < ts.length), w.cell? ⟨B, o + 1 + j, none⟩ = some (.string (bs ts[j]))) := Lib.hid (fun j hj => by
    have := hcell (j + 1) (by simp; omega)
    rw [show o + 1 + j = o + (j + 1) by omega]; exact this)
  have HX : Hid (∀ x ∈ ts, x.length ≤ 256) := Lib.hid (fun x hxx => hx x (List.mem_cons_of_mem _ hxx))
  have hx0 := hx x0 (List.mem_cons_self ..)
  have HA := Lib.hid hA
  have HR := Lib.hid hR
  have hBR : Hid (B < w.heap.size ∧ B ≠ R) := Lib.hid ⟨hBl, fun e => hbk (by rw [e]; rfl)⟩
  clear hbk
  obtain ⟨X0, hX0⟩ : ∃ X, bs x0 = X := ⟨_, rfl⟩
  have hXd : X0.data.toList = x0 := by rw [← hX0, bs_data]
  have HS := Lib.hid (fun w => status_parse X0 w (by rw [← hX0, bs_size]; omega))
  rw [hXd] at HS
  rw [hX0] at c0
  have hn1 : (x0 :: ts).length = ts.length + 1 := rfl
  rw [hn1] at hc hlen ⊢
  have tl : (((ts.length : Int) + 1) == 0) = false := by rw [beq_eq_false_iff_ne]; omega
  have HG : Hid ((x0 :: ts).getD 0 [] = x0 ∧ (x0 :: ts).tail = ts ∧ (x0 :: ts) ≠ []) := Lib.hid ⟨rfl, rfl, by simp⟩
  generalize (x0 :: ts) = LS at HG ⊢
  clear hcell hh hx hA hR hne hX0 hXd hn1
  have hts : ts.length ≤ 16 := by omega
  obtain ⟨⟨C, e0⟩, hst⟩ : ∃ T, statusOf x0 = T := ⟨_, rfl⟩
  rw [hst] at HS
  by_cases he : e0 = 0
  case neg =>
    have HF : Hid (hdE LS = e0 ∧ e0 ≠ 0) := Lib.hid ⟨by unfold hdE; rw [if_neg HG.out.2.2, HG.out.1, hst, if_pos he], he⟩
    have tz : ((e0 : Int) != 0) = true := by rw [bne_iff_ne]; omega
    clear he hst
    go_enter Tryz.func74, Tryz.ntmps74
    go_wp2_with fail
    refine (HS.out _).mono ?_
    rintro e w1 ⟨rfl, hb1⟩
    have HR1 := Lib.hid (HR.out.below hb1)
    have HG1 := Lib.hid ((GR.refl R w).below hb1)
    clear hb1 c0
    go_wp2_with fail
    go_ret2
    exact .inl ⟨by rw [HF.out.1]; exact HF.out.2, by rw [HF.out.1]; rfl, ⟨_, _, HR1.out⟩, HG1.out⟩
  subst he
  have HST : Hid ((statusOf (LS.getD 0 [])).2 = 0 ∧ hdC LS = C) := Lib.hid ⟨by rw [HG.out.1, hst], by unfold hdC; rw [HG.out.1, hst]⟩
  clear hst
  have HAft : Hid (fldE ts ≠ 0 → hdE LS = fldE ts) := Lib.hid (fun h => by unfold hdE; rw [if_neg HG.out.2.2, if_neg (by rw [HST.out.1]; simp), HG.out.2.1, if_pos h])
  have HAf2 : Hid (fldE ts = 0 → hdE LS = if getE (fldL ts) clen ≠ 0 then getE (fldL ts) clen else numE (getS (fldL ts) clen)) := Lib.hid (fun h => by unfold hdE; rw [if_neg HG.out.2.2, if_neg (by rw [HST.out.1]; simp), HG.out.2.1, if_neg (by rw [h]; simp)])
  have HAf3 : Hid (hdN LS = numV (getS (fldL ts) clen) ∧ restF (fldL LS.tail) = restF (fldL ts)) := Lib.hid ⟨by unfold hdN; rw [HG.out.2.1], by rw [HG.out.2.1]⟩
  clear HG
  by_cases h1 : c = 1
  · have ht0 : ts = [] := List.length_eq_zero_iff.1 (by omega)
    subst ht0
    subst h1
    have HP : Hid (hdE LS = 6) := Lib.hid (by rw [HAf2.out rfl]; rfl)
    have HGet := Lib.hid (fun w => get_none w)
    clear HC HX HAft HAf2 HAf3
    go_enter Tryz.func74, Tryz.ntmps74
    go_wp2_with fail
    refine (HS.out _).mono ?_
    rintro e w1 ⟨rfl, hb1⟩
    have HR1 := Lib.hid (HR.out.below hb1)
    have HG1 := Lib.hid ((GR.refl R w).below hb1)
    obtain ⟨k0, k1, -⟩ := HR1.out.cells
    obtain ⟨f0, f1, -⟩ := HR1.out.free
    clear hb1 c0
    go_wp2_with fail
    refine wp_loop_rounds 1 ?_
    rw [rounds_succ]
    go_wp2_with fail
    refine (HGet.out _).mono ?_
    rintro e w2 ⟨rfl, hb2⟩
    have HR2 := Lib.hid ((HR1.out.set0 (.int .i64 C)).below hb2)
    have HG2 := Lib.hid ((HG1.out.set 0 (.int .i64 C)).below hb2)
    clear hb2 k0 k1 f0 f1
    go_wp2_with fail
    go_ret2
    exact .inl ⟨by rw [HP.out]; decide, by rw [HP.out]; rfl, ⟨_, _, HR2.out⟩, HG2.out⟩
  · have hc1 : 1 < c := by omega
    go_enter Tryz.func74, Tryz.ntmps74
    go_wp2_with fail
    refine (HS.out _).mono ?_
    rintro e w1 ⟨rfl, hb1⟩
    have HR1 := Lib.hid (HR.out.below hb1)
    have HG1 := Lib.hid ((GR.refl R w).below hb1)
    obtain ⟨k0, k1, -⟩ := HR1.out.cells
    obtain ⟨f0, f1, -⟩ := HR1.out.free
    clear hb1 c0
    go_wp2_with fail
    have hR2 := HR1.out.set0 (.int .i64 C)
    have hG2 := HG1.out.set 0 (.int .i64 C)
    generalize w1.setCell ⟨R, 0, none⟩ (.int .i64 C) = W1 at hR2 hG2 ⊢
    have HR2 := Lib.hid hR2
    have HG2 := Lib.hid hG2
    clear hR2 hG2 k0 k1 f0 f1 HR1 HG1
    go_loopg [36] ts.length (fun gk s36 wr => ∃ (k : Nat) (fv : Value), s36 = .int .i64 (k : Int) ∧ k + gk = ts.length ∧ RpB wr R (.int .i64 C) fv b ∧ wr.ownsRow w.heap.size 161 2 fv (fldL (ts.take k)).length (fcells (fldL (ts.take k))) ∧ w.grownBy wr (some R) ∧ Hid (∀ j (hj : j < ts.length), j < k → parseE ts[j] = 0))
    case atStart => exact ⟨0, _, by simp, by omega, HR2.out, by rw [List.take_zero]; exact World.ownsRow_nil _ _ _ _, HG2.out, Lib.hid (fun j hj h => absurd h (Nat.not_lt_zero _))⟩
    case round =>
      obtain ⟨k, fv, rfl, hgk, hRr, hown, hgr, HK⟩ := hrel
      have HGR := Lib.hid hgr
      have hbr := hgr.toBelow (Nat.le_of_lt hRl)
      have hAB := (HA.out.step hbr)
      have HE := Lib.hid hAB.env
      have HANC := Lib.hid hAB
      clear hgr
      have HO := Lib.hid hown
      have HRr := Lib.hid hRr
      clear hown hRr hAB
      by_cases hk : k < ts.length
      · obtain ⟨g', rfl⟩ : ∃ g', gk = g' + 1 := ⟨gk - 1, by omega⟩
        have tk : decide ((k : Int) < (ts.length : Int)) = true := decide_eq_true (by omega)
        have c0 : wr.cell? ⟨B, o + 1 + k, none⟩ = some (.string (bs ts[k])) := by
          have hx1 := HGR.out.block B hBR.out.1 (fun e => hBR.out.2 (Option.some.inj e))
          have := HC.out k hk
          unfold World.cell? at this ⊢
          rw [hx1]; exact this
        obtain ⟨S, hS⟩ : ∃ S, bs ts[k] = S := ⟨_, rfl⟩
        have hSd : S.data.toList = ts[k] := by rw [← hS, bs_data]
        have hSs : S.size ≤ 1000000 := by rw [← hS, bs_size]; have := HX.out _ (List.getElem_mem hk); omega
        rw [hS] at c0
        have HP := Lib.hid (fun w hE => fields_parse S w hSs hE)
        rw [hSd] at HP
        have hkl : Hid ((fldL (ts.take k)).length < 2147483648) := Lib.hid (by unfold fldL; rw [List.length_map, List.length_take]; omega)
        clear hS hSd
        by_cases hz : parseE ts[k] = 0
        · rw [hz] at HP
          have HK2 : Hid (∀ j (hj : j < ts.length), j < k + 1 → parseE ts[j] = 0) := Lib.hid (fun j hj h => by
            by_cases e : j = k
            · subst e; exact hz
            · exact HK.out j hj (by omega))
          have hstep : Hid (fldL (ts.take (k + 1)) = fldL (ts.take k) ++ [(parseN ts[k], parseV ts[k])]) := Lib.hid (fldL_snoc ts k hk)
          clear hz HK
          go_wp2_with fail
          refine (HP.out _ HE.out).mono ?_
          rintro e w1 ⟨rfl, hb1⟩
          have HR1 := Lib.hid (HRr.out.below hb1)
          have HO1 := Lib.hid (own_keep HO.out hb1)
          have HG1 := Lib.hid (HGR.out.below hb1)
          have hR1l := HR1.out.lt
          clear hb1 hbr c0
          go_wp2_with fail
          have hR2 : RpB (w1.alloc (.cells #[.string (bs (parseN ts[k])), .string (bs (parseV ts[k]))] 161)) R (.int .i64 C) fv b := HR1.out.below ((Below.refl _ _).alloc (Nat.le_refl _) _)
          have hO2 := own_keep HO1.out ((Below.refl w1.heap.size w1).alloc (Nat.le_refl _) (.cells #[.string (bs (parseN ts[k])), .string (bs (parseV ts[k]))] 161))
          have hg2 := HG1.out.below ((Below.refl w1.heap.size w1).alloc (Nat.le_refl _) (.cells #[.string (bs (parseN ts[k])), .string (bs (parseV ts[k]))] 161))
          obtain ⟨j0, j1⟩ := box2 w1 (.string (bs (parseN ts[k]))) (.string (bs (parseV ts[k]))) 161
          have hj : w1.heap.size < (w1.alloc (.cells #[.string (bs (parseN ts[k])), .string (bs (parseV ts[k]))] 161)).heap.size := by simp
          generalize w1.alloc (.cells #[.string (bs (parseN ts[k])), .string (bs (parseV ts[k]))] 161) = W2 at hR2 hO2 hg2 j0 j1 hj ⊢
          have HR2 := Lib.hid hR2
          have HO2 := Lib.hid hO2
          have HG2 := Lib.hid hg2
          obtain ⟨-, k1, -⟩ := hR2.cells
          obtain ⟨-, f1, -⟩ := hR2.free
          have hRl2 := hR2.lt
          clear hR2 hO2 hg2 HR1 HO1 HG1
          go_region_law (refine step_appP w rfl hRl _ rfl _ _ rfl HR2.out HO2.out HG2.out rfl hkl.out ?_ W2.heap.size (parseN ts[k], parseV ts[k]) ?_ rfl ?_; exact ((Below.refl _ _).alloc (Nat.le_refl _) _).drew; exact heap_alloc_new W2 _; intro g cap w3 hown3 hc3 hf3 haf)
          all_goals
            go_wp2_with fail
            go_roundg g'
            case measure => omega
            case rel =>
              refine ⟨k + 1, _, by simp, by omega, haf.1.set1 _, ?_, haf.2.set 1 _, HK2⟩
              rw [hstep.out]; exact ownsRow_setCell_below hown3 (a := ⟨R, 1, none⟩) hRl _
        · have HF : Hid (hdE LS = parseE ts[k] ∧ hdE LS ≠ 0) := Lib.hid (by
            have hfe := fldE_at ts k hk HK.out hz
            have := HAft.out (by rw [hfe]; exact hz)
            rw [this, hfe]; exact ⟨rfl, hz⟩)
          have tz : ((parseE ts[k] : Int) != 0) = true := by rw [bne_iff_ne]; omega
          clear hz HK
          go_wp2_with fail
          refine (HP.out _ HE.out).mono ?_
          rintro e w1 ⟨rfl, hb1⟩
          have HR1 := Lib.hid (HRr.out.below hb1)
          have HG1 := Lib.hid (HGR.out.below hb1)
          have hR1l := HR1.out.lt
          clear hb1 hbr c0
          go_wp2_with fail
          go_ret2
          exact .inl ⟨HF.out.2, by rw [HF.out.1]; rfl, ⟨_, _, HR1.out.below ((Below.refl _ _).alloc (Nat.le_refl _) _)⟩, HG1.out.below ((Below.refl _ _).alloc (Nat.le_refl _) _)⟩
      · obtain rfl : k = ts.length := by omega
        have tk : decide ((ts.length : Int) < (ts.length : Int)) = false := decide_eq_false (by omega)
        have hz : fldE ts = 0 := fldE_all ts (fun j hj => HK.out j hj hj)
        rw [List.take_length] at HO
        obtain ⟨fs, hfs⟩ : ∃ fs, fldL ts = fs := ⟨_, rfl⟩
        have hfl : fs.length ≤ 16 := by rw [← hfs]; unfold fldL; rw [List.length_map]; omega
        have hgl : (getS fs clen).length ≤ 256 := by rw [← hfs]; exact getS_len ts clen HX.out
        have HE2 := Lib.hid (HAf2.out hz)
        rw [hfs] at HO HE2 HAf3
        have HGet := Lib.hid (fun w h => get_clen fv fs w h (by omega))
        have HNum := Lib.hid (fun w hE => fields_number (bs (getS fs clen)) w (by rw [bs_size]; omega) hE)
        rw [bs_data] at HNum
        obtain ⟨-, k1, -⟩ := HRr.out.cells
        clear hz HK hfs hbr
        by_cases hz : getE fs clen = 0
        case neg =>
          have HF : Hid (hdE LS = getE fs clen ∧ hdE LS ≠ 0) := Lib.hid (by rw [HE2.out, if_pos hz]; exact ⟨rfl, hz⟩)
          have tz : ((getE fs clen : Int) != 0) = true := by rw [bne_iff_ne]; omega
          clear hz
          go_wp2_with fail
          refine (HGet.out _ (HoldsF.of_own HO.out)).mono ?_
          rintro e w2 ⟨rfl, hb2⟩
          have HR2 := Lib.hid (HRr.out.below hb2)
          have HG2 := Lib.hid (HGR.out.below hb2)
          clear hb2 k1
          go_wp2_with fail
          go_ret2
          exact .inl ⟨HF.out.2, by rw [HF.out.1]; rfl, ⟨_, _, HR2.out⟩, HG2.out⟩
        rw [hz] at HGet
        have hz' : Hid (getE fs clen = 0) := Lib.hid hz
        rw [hz, if_neg (by simp)] at HE2
        clear hz
        by_cases hn : numE (getS fs clen) = 0
        case neg =>
          have HF : Hid (hdE LS = numE (getS fs clen) ∧ hdE LS ≠ 0) := Lib.hid (by rw [HE2.out]; exact ⟨rfl, hn⟩)
          have tz : ((numE (getS fs clen) : Int) != 0) = true := by rw [bne_iff_ne]; omega
          clear hn
          go_wp2_with fail
          refine (HGet.out _ (HoldsF.of_own HO.out)).mono ?_
          rintro e w2 ⟨rfl, hb2⟩
          have HR2 := Lib.hid (HRr.out.below hb2)
          have HG2 := Lib.hid (HGR.out.below hb2)
          have HE3 := Lib.hid (HE.out.below hb2)
          clear hb2 k1
          go_wp2_with fail
          refine (HNum.out _ HE3.out).mono ?_
          rintro e w3 ⟨rfl, hb3⟩
          have HR3 := Lib.hid (HR2.out.below hb3)
          have HG3 := Lib.hid (HG2.out.below hb3)
          clear hb3
          go_wp2_with fail
          go_ret2
          exact .inl ⟨HF.out.2, by rw [HF.out.1]; rfl, ⟨_, _, HR3.out⟩, HG3.out⟩
        have HF : Hid (hdE LS = 0) := Lib.hid (by rw [HE2.out]; exact hn)
        rw [hn] at HNum
        obtain ⟨N, hN⟩ : ∃ N, numV (getS fs clen) = N := ⟨_, rfl⟩
        rw [hN] at HNum HAf3
        obtain ⟨A, x, Bf, e1, e2, e3, e4, e5⟩ := split_one fs hz'.out
        have HSp := Lib.hid (And.intro e1 (And.intro e2 (And.intro e3 (And.intro e4 e5))))
        have hpos : 0 < fs.length := by rw [e1, List.length_append, List.length_cons]; omega
        obtain ⟨g, cap, hfv, hgb⟩ : ∃ g cap, fv = .slice (some ⟨g, 0, none⟩) fs.length cap ∧ w.heap.size ≤ g := by
          rcases HO.out.2 with ⟨-, h0⟩ | ⟨g, cap, cur, hv, hb, -⟩
          · omega
          · exact ⟨g, cap, hv, hb⟩
        subst hfv
        obtain ⟨nn, hnn⟩ : ∃ nn, fs.length = nn := ⟨_, rfl⟩
        rw [hnn] at HO k1 HRr HGet
        have HD := Lib.hid (fun W (h : W.ownsRow w.heap.size 161 2 (.slice (some ⟨g, 0, none⟩) nn cap) nn (fcells fs)) => delete_named g w.heap.size cap nn A Bf x W (by rw [← hnn, HSp.out.1]) HSp.out.2.1 HSp.out.2.2.1 HSp.out.2.2.2.1 (by omega) (by rw [HSp.out.1] at h; exact h))
        obtain ⟨rs, hrs⟩ : ∃ rs, A ++ Bf = rs := ⟨_, rfl⟩
        rw [hrs] at HD
        have HRS : Hid (restF fs = rs) := Lib.hid (e5.trans hrs)
        clear hn e1 e2 e3 e4 e5 hN hnn hpos hrs
        go_wp2_with fail
        refine (HGet.out _ (by have := HoldsF.of_own HO.out; exact this)).mono ?_
        rintro e w2 ⟨rfl, hb2⟩
        have HR2 := Lib.hid (HRr.out.below hb2)
        have HG2 := Lib.hid (HGR.out.below hb2)
        have HE3 := Lib.hid (HE.out.below hb2)
        have HO2 := Lib.hid (own_keep HO.out hb2)
        clear hb2 k1
        go_wp2_with fail
        refine (HNum.out _ HE3.out).mono ?_
        rintro e w3 ⟨rfl, hb3⟩
        have HR3 := Lib.hid (HR2.out.below hb3)
        have HG3 := Lib.hid (HG2.out.below hb3)
        have HO3 := Lib.hid (own_keep HO2.out hb3)
        obtain ⟨-, k1, -⟩ := HR3.out.cells
        have hs3 := HG3.out.size
        clear hb3
        go_wp2_with fail
        refine (HD.out _ HO3.out).mono ?_
        rintro e w4 ⟨rfl, hown4, hg4⟩
        have HR4 : Hid (RpB w4 R (.int .i64 C) (.slice (some ⟨g, 0, none⟩) nn cap) b) := Lib.hid ((hg4.block R HR3.out.lt (fun e => by have := Option.some.inj e; omega)).trans HR3.out)
        have HG4 : Hid (w.grownBy w4 (some R)) := Lib.hid ⟨hg4.os.trans HG3.out.os, hg4.tape.trans HG3.out.tape, hg4.output.trans HG3.out.output, Nat.le_trans hs3 hg4.size, fun k hk hne => (hg4.block k (Nat.lt_of_lt_of_le hk hs3) (fun e => by have := Option.some.inj e; omega)).trans (HG3.out.block k hk hne)⟩
        have HO4 := Lib.hid hown4
        obtain ⟨-, k1, -⟩ := HR4.out.cells
        obtain ⟨-, f1, -⟩ := HR4.out.free
        clear hown4 hg4
        go_wp2_with fail
        go_ret2
        refine .inr ⟨HF.out, by rw [HAf3.out.1]; rfl, ⟨.slice (some ⟨g, 0, none⟩) rs.length cap, ?_, ?_⟩, HG4.out.set 1 _⟩
        · rw [HST.out.2]; exact HR4.out.set1 _
        · rw [HAf3.out.2, HRS.out]; exact ownsRow_setCell_below HO4.out (a := ⟨R, 1, none⟩) hRl _
end Go.Proofs.YtbdmmgmcbecolaaGreatDoor
namespace Go.Proofs.YtbdmmgmcbecolaaGreatDoor
open Go.RowKit Go.Extern.Stop Go.Stop Go.Extern Go.Extern.Rtype
theorem ri_typeOf (v : Value) (w : World) : (Extern.ReflectliteType.typeOf #[.iface 159 v]).run Tryz.prog w = .ok (.iface 171 (.agg #[.pointer (some ⟨9, 159, none⟩)])) w := by kernel_rfl
theorem ri_comparable (w : World) : ((Extern.ReflectliteType.method fun t => do noPackHeld "Comparable" t; Functor.map (fun a => Value.bool a.comparable) (typeInfo t)) #[.agg #[.pointer (some ⟨9, 159, none⟩)]]).run Tryz.prog w = .ok (.bool true) w := by kernel_rfl
theorem ri_method (v : Value) (w : World) : (Go.method 528 171 v "Comparable").run Tryz.prog w = .ok (297, v) w := by kernel_rfl
theorem ri_same (w : World) : (binOp .eql 70 (.iface 159 (.string ⟨#[116, 97, 107, 101, 110]⟩)) (.iface 159 (.string ⟨#[116, 97, 107, 101, 110]⟩))).run Tryz.prog w = .ok (.bool true) w := by kernel_rfl
theorem ri_other (e : Int) (w : World) : (binOp .eql 70 (.iface 25 (.int .i64 e)) (.iface 159 (.string ⟨#[116, 97, 107, 101, 110]⟩))).run Tryz.prog w = .ok (.bool false) w := by kernel_rfl
theorem ri_noIs (v : Value) (xT : TypeId) (w : World) : (Instr.typeAssert (.iface 25 v) xT 249 true).run Tryz.prog w = .ok (.tuple #[.nilIface, .bool false]) w := run_typeAssert_lacksB Tryz.underlying249 (by kernel_rfl) (by kernel_rfl) v xT w
theorem ri_noUnwrap (v : Value) (xT : TypeId) (w : World) : (Instr.typeAssert (.iface 25 v) xT 179 true).run Tryz.prog w = .ok (.tuple #[.nilIface, .bool false]) w := run_typeAssert_lacksB Tryz.underlying179 (by kernel_rfl) (by kernel_rfl) v xT w
theorem ri_noUnwraps (v : Value) (xT : TypeId) (w : World) : (Instr.typeAssert (.iface 25 v) xT 181 true).run Tryz.prog w = .ok (.tuple #[.nilIface, .bool false]) w := run_typeAssert_lacksB Tryz.underlying181 (by kernel_rfl) (by kernel_rfl) v xT w
set_option maxRecDepth 1000000 in
set_option maxHeartbeats 2000000 in
/-- errors.Is(taken, taken) -/
theorem is_taken (w : World) : Calls Tryz.prog 75 #[.iface 159 (.string ⟨#[116, 97, 107, 101, 110]⟩), .iface 159 (.string ⟨#[116, 97, 107, 101, 110]⟩)] w fun e w' => e = .returned (.bool true) ∧ w' = w := by
  have h8 := @run_callFunc_extern Tryz.prog 80 _ Extern.ReflectliteType.typeOf Tryz.func80 (by kernel_rfl) (by kernel_rfl) (by kernel_rfl) (by kernel_rfl)
  have h32 := @run_callFunc_extern Tryz.prog 297 _ (Extern.ReflectliteType.method fun t => do noPackHeld "Comparable" t; pure (.bool (← typeInfo t).comparable)) Tryz.func297 (by kernel_rfl) (by kernel_rfl) (by kernel_rfl) (by kernel_rfl)
  have tT := ri_typeOf
  have cT := ri_comparable
  have mR := ri_method
  have heq := ri_same
  go_enter Tryz.func75, Tryz.ntmps75
  go_wp2
  refine wp_loop_rounds 1 ?_
  rw [rounds_succ]
  go_wp2
  go_ret
  exact ⟨rfl, rfl⟩
set_option maxRecDepth 1000000 in
set_option maxHeartbeats 2000000 in
/-- errors.Is(e, taken), e a number of the program's errors -/
theorem is_errno (n : Int) (w : World) : Calls Tryz.prog 75 #[.iface 25 (.int .i64 n), .iface 159 (.string ⟨#[116, 97, 107, 101, 110]⟩)] w fun e w' => e = .returned (.bool false) ∧ w' = w := by
  have h8 := @run_callFunc_extern Tryz.prog 80 _ Extern.ReflectliteType.typeOf Tryz.func80 (by kernel_rfl) (by kernel_rfl) (by kernel_rfl) (by kernel_rfl)
  have h32 := @run_callFunc_extern Tryz.prog 297 _ (Extern.ReflectliteType.method fun t => do noPackHeld "Comparable" t; pure (.bool (← typeInfo t).comparable)) Tryz.func297 (by kernel_rfl) (by kernel_rfl) (by kernel_rfl) (by kernel_rfl)
  have tT := ri_typeOf
  have cT := ri_comparable
  have mR := ri_method
  have heq := ri_other n
  have nE := ri_noIs
  have uE := ri_noUnwrap
  have vE := ri_noUnwraps
  go_enter Tryz.func75, Tryz.ntmps75
  go_wp2
  refine wp_loop_rounds 1 ?_
  rw [rounds_succ]
  go_wp2
  go_ret
  exact ⟨rfl, rfl⟩
end Go.Proofs.YtbdmmgmcbecolaaGreatDoor
namespace Go.Proofs.YtbdmmgmcbecolaaGreatDoor
open Go.RowKit
theorem below_agg3 (w : World) (x y z : Value) (t : TypeId) : Below w.heap.size w (w.alloc (.cells #[x, y, z] t)) := (Below.refl _ _).alloc (Nat.le_refl _) _
/-- a block of three cells -/
def Three (w : World) (b : Nat) (x y z : Value) : Prop := b < w.heap.size ∧ w.cell? ⟨b, 0, none⟩ = some x ∧ w.cell? ⟨b, 1, none⟩ = some y ∧ w.cell? ⟨b, 2, none⟩ = some z
theorem Three.below {w w' : World} {b : Nat} {x y z : Value} (h : Three w b x y z) (hb : Below w.heap.size w w') : Three w' b x y z :=
  ⟨Nat.lt_of_lt_of_le h.1 hb.size, (hb.cell (p := ⟨b, 0, none⟩) h.1).trans h.2.1, (hb.cell (p := ⟨b, 1, none⟩) h.1).trans h.2.2.1, (hb.cell (p := ⟨b, 2, none⟩) h.1).trans h.2.2.2⟩
theorem Three.alloc {w : World} {b : Nat} {x y z : Value} (h : Three w b x y z) (o : Obj) : Three (w.alloc o) b x y z := h.below ((Below.refl _ _).alloc (Nat.le_refl _) o)
theorem Three.new (w : World) (x y z : Value) (t : TypeId) : Three (w.alloc (.cells #[x, y, z] t)) w.heap.size x y z := by
  have hh := heap_alloc_new w (.cells #[x, y, z] t)
  refine ⟨by simp, ?_, ?_, ?_⟩ <;> (unfold World.cell?; rw [hh]; rfl)
end Go.Proofs.YtbdmmgmcbecolaaGreatDoor
