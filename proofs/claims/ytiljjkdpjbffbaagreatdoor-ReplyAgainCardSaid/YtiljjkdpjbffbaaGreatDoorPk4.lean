/- Plain laws: a printed field is parsed as it was; a parsed one is printed again (no program in sight). What Print of package asking returns. What Print of the reference of asking returns. What cutting a line at its blanks returns. What first of package asking returns. What named of package asking returns. What whom and what of package asking return. What Parse of package asking returns. What name, plain, small and gap of the reference of fields return. What Parse of the reference of fields returns. What first and Fields of the reference of asking return. What Parse of the reference of asking returns. The small example of the laws of layer 25. The law function AskingTells. -/
import Derived.Test.YtiljjkdpjbffbaaGreatDoorPk3
import Derived.Deep.RegionWith
import Derived.Deep.RegionHeld3
import Derived.Deep.AppendLies
import Derived.Deep.RegionLaw
import Derived.LoopN
import Derived.Laws.EntriesVeiled
import Derived.Laws.IdiomStrings
import Derived.Laws.StructEq
set_option linter.unusedVariables false
namespace Go.Proofs.YtiljjkdpjbffbaaGreatDoor
open Go.RowKit

theorem ahead_of (m t : List UInt8) (h : ∀ c ∈ m, c ≠ 58) : ahead (m ++ 58 :: t) = m := by
  unfold ahead
  rw [List.takeWhile_append_of_pos (fun c hc => by simpa using h c hc), List.takeWhile_cons_of_neg (by decide), List.append_nil]
theorem parse_of (m n v t : List UInt8) (h : ∀ c ∈ m, c ≠ 58) (hm : plainAll m = true) (ht : plainAll t = true) (hn : nameL n = true) (e : m.map smallB = n) (hv : Go.Lib.trimS t gapL = v) :
    parseN (m ++ 58 :: t) = n ∧ parseV (m ++ 58 :: t) = v ∧ parseE (m ++ 58 :: t) = 0 := by
  have ha := ahead_of m t h
  have hname : parseName (m ++ 58 :: t) = n := by unfold parseName; rw [ha, e]
  have hval : parseVal (m ++ 58 :: t) = v := by
    unfold parseVal; rw [ha]
    rw [show (m ++ 58 :: t).drop (m.length + 1) = t by
      rw [← List.drop_drop, List.drop_left]; rfl]
    exact hv
  have hok : parseOk (m ++ 58 :: t) = true := by
    unfold parseOk
    rw [hname, hn, ha]
    have hp : plainAll (m ++ 58 :: t) = true := by
      unfold plainAll at hm ht ⊢
      rw [List.all_append, hm, List.all_cons, ht]; rfl
    rw [hp, decide_eq_true (by simp)]; rfl
  unfold parseN parseV parseE
  rw [hok]
  exact ⟨hname, hval, rfl⟩

theorem namedN_bd (n : Nat) (h : namedN n = true) : (97 ≤ n ∧ n ≤ 122) ∨ (48 ≤ n ∧ n ≤ 57) ∨ n = 45 := by
  rcases named_cases n with ⟨a, b, _⟩ | ⟨a, b, _⟩ | ⟨a, _⟩ | ⟨_, _, c⟩ | ⟨_, _, c⟩ | ⟨_, c⟩
  · exact .inl ⟨a, b⟩
  · exact .inr (.inl ⟨a, b⟩)
  · exact .inr (.inr a)
  · rw [c] at h; exact absurd h (by decide)
  · rw [c] at h; exact absurd h (by decide)
  · rw [c] at h; exact absurd h (by decide)
theorem letN_iff (n : Nat) : letN n = true ↔ 97 ≤ n ∧ n ≤ 122 := by
  unfold letN; simp
theorem titN_named (b : Bool) (n : Nat) (h : namedN n = true) : titN b n = n ∨ (97 ≤ n ∧ n ≤ 122 ∧ titN b n = n - 32) := by
  unfold titN
  split
  · rename_i hb
    simp only [Bool.and_eq_true] at hb
    have := (letN_iff n).1 hb.2
    exact .inr ⟨this.1, this.2, rfl⟩
  · exact .inl rfl
theorem tit_byte (b : Bool) (c : UInt8) (h : namedN c.toNat = true) : (UInt8.ofNat (titN b c.toNat)).toNat = titN b c.toNat := by
  rw [UInt8.toNat_ofNat']
  have := namedN_bd _ h
  rcases titN_named b _ h with e | ⟨_, _, e⟩ <;> rw [e] <;> omega
theorem tit_small (b : Bool) (c : UInt8) (h : namedN c.toNat = true) : smallB (UInt8.ofNat (titN b c.toNat)) = c := by
  unfold smallB
  rw [tit_byte b c h]
  have hb := namedN_bd _ h
  apply UInt8.toNat_inj.1
  rw [UInt8.toNat_ofNat']
  unfold smallN
  rcases titN_named b _ h with e | ⟨a1, a2, e⟩
  · rw [e, if_neg (by omega)]; omega
  · rw [e, if_pos (by omega)]; omega
theorem plainB_of (n : Nat) (h1 : 32 ≤ n) (h2 : n ≤ 126) : plainB n = true := by
  unfold plainB; rw [decide_eq_true h1, decide_eq_true h2]; simp
theorem tit_plain (b : Bool) (c : UInt8) (h : namedN c.toNat = true) : plainB (UInt8.ofNat (titN b c.toNat)).toNat = true ∧ UInt8.ofNat (titN b c.toNat) ≠ 58 := by
  rw [tit_byte b c h]
  have hb := namedN_bd _ h
  rcases titN_named b _ h with e | ⟨a1, a2, e⟩
  · refine ⟨by rw [e]; exact plainB_of _ (by omega) (by omega), fun he => ?_⟩
    have := congrArg UInt8.toNat he
    rw [tit_byte b c h, e] at this
    have : (58 : UInt8).toNat = 58 := rfl
    omega
  · refine ⟨by rw [e]; exact plainB_of _ (by omega) (by omega), fun he => ?_⟩
    have := congrArg UInt8.toNat he
    rw [tit_byte b c h, e] at this
    have : (58 : UInt8).toNat = 58 := rfl
    omega
theorem titL_small (b : Bool) (l : List UInt8) (h : ∀ c ∈ l, namedN c.toNat = true) : (titL b l).map smallB = l := by
  induction l generalizing b with
  | nil => rfl
  | cons c t ih =>
    show smallB _ :: (titL _ t).map smallB = c :: t
    rw [tit_small b c (h c (List.mem_cons_self ..)), ih _ (fun d hd => h d (List.mem_cons_of_mem _ hd))]
theorem titL_plain (b : Bool) (l : List UInt8) (h : ∀ c ∈ l, namedN c.toNat = true) : plainAll (titL b l) = true ∧ ∀ c ∈ titL b l, c ≠ 58 := by
  induction l generalizing b with
  | nil => exact ⟨rfl, fun c hc => by simp [titL] at hc⟩
  | cons c t ih =>
    have h1 := tit_plain b c (h c (List.mem_cons_self ..))
    have h2 := ih (stB c) (fun d hd => h d (List.mem_cons_of_mem _ hd))
    constructor
    · show plainAll (_ :: _) = true
      unfold plainAll at h2 ⊢
      rw [List.all_cons, h1.1, h2.1]; rfl
    · intro d hd
      change d ∈ UInt8.ofNat (titN b c.toNat) :: titL (stB c) t at hd
      rcases List.mem_cons.1 hd with rfl | hd
      · exact h1.2
      · exact h2.2 d hd
theorem nameL_all (n : List UInt8) (h : nameL n = true) : (∀ c ∈ n, namedN c.toNat = true) ∧ n ≠ [] ∧ n.length ≤ 32 := by
  unfold nameL at h
  simp only [Bool.and_eq_true, Bool.not_eq_true', decide_eq_true_eq, List.all_eq_true] at h
  exact ⟨h.2, fun e => by rw [e] at h; exact absurd h.1.1 (by decide), h.1.2⟩
theorem printOk_and (n v : List UInt8) (h : printOk n v = true) : nameL n = true ∧ plainAll v = true ∧ noGap v = true := by
  unfold printOk at h; simp only [Bool.and_eq_true] at h; exact ⟨h.1.1, h.1.2, h.2⟩
theorem fieldE_zero (n v : List UInt8) (h : fieldE n v = 0) : printOk n v = true ∧ (printL n v).length ≤ 256 := by
  unfold fieldE at h
  split at h
  · split at h
    · exact absurd h (by decide)
    · exact ⟨by assumption, by omega⟩
  · exact absurd h (by decide)
theorem tailV_plain (v : List UInt8) (h : plainAll v = true) : plainAll (tailV v) = true := by
  unfold tailV; split
  · rfl
  · unfold plainAll at h ⊢; rw [List.all_cons, h]; rfl
theorem trimS_tail (v : List UInt8) (h : noGap v = true) : Go.Lib.trimS (tailV v) gapL = v := by
  unfold tailV
  split
  · rename_i he; rw [List.isEmpty_iff] at he; rw [he]; rfl
  · rw [trimS_cons 32 v (by decide)]; exact (trimS_iff v).2 h
/-- a printed field, parsed -/
theorem print_parse (n v : List UInt8) (h : printOk n v = true) : parseN (printL n v) = n ∧ parseV (printL n v) = v ∧ parseE (printL n v) = 0 := by
  obtain ⟨h1, h2, h3⟩ := printOk_and n v h
  obtain ⟨ha, hne, hlen⟩ := nameL_all n h1
  obtain ⟨p1, p2⟩ := titL_plain true n ha
  exact parse_of _ n v _ p2 p1 (tailV_plain v h2) h1 (titL_small true n ha) (trimS_tail v h3)
theorem print_put (n v : List UInt8) (h : fieldE n v = 0) : putErr (printL n v) = 0 := by
  obtain ⟨hk, hl⟩ := fieldE_zero n v h
  obtain ⟨h1, h2, h3⟩ := printOk_and n v hk
  obtain ⟨ha, hne, hlen⟩ := nameL_all n h1
  obtain ⟨p1, p2⟩ := titL_plain true n ha
  have hp : plainAll (printL n v) = true := by
    have ht := tailV_plain v h2
    unfold printL
    unfold plainAll at p1 ht ⊢
    rw [List.all_append, p1, List.all_cons, ht]; rfl
  unfold putErr
  unfold plainAll at hp
  rw [hp, if_neg (by decide), if_neg (by omega)]
/-- in great letters -/
def greatB (c : UInt8) : UInt8 := if 97 ≤ c.toNat ∧ c.toNat ≤ 122 then UInt8.ofNat (c.toNat - 32) else c
theorem great_byte (c : UInt8) (h : namedN c.toNat = true) : smallB (greatB c) = c ∧ plainB (greatB c).toNat = true ∧ greatB c ≠ 58 := by
  have hb := namedN_bd _ h
  unfold greatB
  split
  · rename_i hl
    have e : (UInt8.ofNat (c.toNat - 32)).toNat = c.toNat - 32 := by rw [UInt8.toNat_ofNat']; omega
    refine ⟨?_, by rw [e]; exact plainB_of _ (by omega) (by omega), fun he => ?_⟩
    · unfold smallB; rw [e]; apply UInt8.toNat_inj.1; rw [UInt8.toNat_ofNat']; unfold smallN; rw [if_pos (by omega)]; omega
    · have := congrArg UInt8.toNat he
      rw [e] at this
      have : (58 : UInt8).toNat = 58 := rfl
      omega
  · refine ⟨?_, plainB_of _ (by omega) (by omega), fun he => ?_⟩
    · unfold smallB; apply UInt8.toNat_inj.1; rw [UInt8.toNat_ofNat']; unfold smallN; rw [if_neg (by omega)]; omega
    · have := congrArg UInt8.toNat he
      have : (58 : UInt8).toNat = 58 := rfl
      omega
theorem great_all (n : List UInt8) (h : ∀ c ∈ n, namedN c.toNat = true) : (n.map greatB).map smallB = n ∧ plainAll (n.map greatB) = true ∧ ∀ c ∈ n.map greatB, c ≠ 58 := by
  refine ⟨?_, ?_, ?_⟩
  · rw [List.map_map]; conv => rhs; rw [← List.map_id n]
    exact List.map_congr_left (fun c hc => (great_byte c (h c hc)).1)
  · unfold plainAll; rw [List.all_map, List.all_eq_true]; intro c hc; exact (great_byte c (h c hc)).2.1
  · intro c hc
    obtain ⟨d, hd, rfl⟩ := List.mem_map.1 hc
    exact (great_byte d (h d hd)).2.2
theorem trimS_pre (g : UInt8) (hg : gapB g = true) (k : Nat) (t : List UInt8) : Go.Lib.trimS (List.replicate k g ++ t) gapL = Go.Lib.trimS t gapL := by
  induction k with
  | zero => rfl
  | succ k ih => rw [List.replicate_succ, List.cons_append, trimS_cons g _ hg, ih]
theorem trimS_post (g : UInt8) (hg : gapB g = true) (k : Nat) (t : List UInt8) : Go.Lib.trimS (t ++ List.replicate k g) gapL = Go.Lib.trimS t gapL := by
  induction k with
  | zero => rw [List.replicate_zero, List.append_nil]
  | succ k ih => rw [List.replicate_succ', ← List.append_assoc, trimS_snoc _ g hg, ih]
theorem gaps_plain (g : UInt8) (hg : gapB g = true) (k : Nat) : plainAll (List.replicate k g) = true := by
  unfold plainAll
  rw [List.all_eq_true]
  intro c hc
  rw [(List.mem_replicate.1 hc).2]
  unfold gapB at hg
  simp only [Bool.or_eq_true, beq_iff_eq] at hg
  rcases hg with rfl | rfl <;> rfl
def greatLine (n v : List UInt8) (a b c : Nat) : List UInt8 := n.map greatB ++ 58 :: (List.replicate a 32 ++ (List.replicate b 9 ++ (v ++ List.replicate c 32)))
theorem great_parse (n v : List UInt8) (h : printOk n v = true) (a b c : Nat) : parseN (greatLine n v a b c) = n ∧ parseV (greatLine n v a b c) = v ∧ parseE (greatLine n v a b c) = 0 := by
  obtain ⟨h1, h2, h3⟩ := printOk_and n v h
  obtain ⟨ha, hne, hlen⟩ := nameL_all n h1
  obtain ⟨q1, q2, q3⟩ := great_all n ha
  refine parse_of _ n v _ q3 q2 ?_ h1 q1 ?_
  · have g1 := gaps_plain 32 (by decide) a
    have g2 := gaps_plain 9 (by decide) b
    have g3 := gaps_plain 32 (by decide) c
    unfold plainAll at h2 g1 g2 g3 ⊢
    rw [List.all_append, List.all_append, List.all_append, g1, g2, h2, g3]; rfl
  · rw [trimS_pre 32 (by decide), trimS_pre 9 (by decide), trimS_post 32 (by decide)]
    exact (trimS_iff v).2 h3

/-- what was parsed is a field that may be printed, unless that is too long -/
theorem trimS_idem (l : List UInt8) : noGap (Go.Lib.trimS l gapL) = true := by
  suffices h : ∀ k (l : List UInt8), l.length ≤ k → noGap (Go.Lib.trimS l gapL) = true from h _ l (Nat.le_refl _)
  intro k
  induction k with
  | zero => intro l hl; rw [List.length_eq_zero_iff.1 (Nat.le_zero.1 hl)]; rfl
  | succ k ih =>
    intro l hl
    by_cases h1 : headGap l = true
    · cases l with
      | nil => rfl
      | cons c t => rw [trimS_cons c t h1]; exact ih t (by simp at hl; omega)
    · by_cases h2 : headGap l.reverse = true
      · cases hr : l.reverse with
        | nil => rw [hr] at h2; exact absurd h2 (by decide)
        | cons c t =>
          have e : l = t.reverse ++ [c] := by rw [← List.reverse_reverse l, hr, List.reverse_cons]
          rw [hr] at h2
          rw [e, trimS_snoc _ c h2]
          exact ih _ (by rw [e] at hl; simp at hl; rw [List.length_reverse]; omega)
      · have e := trimS_done l (by simpa using h1) (by simpa using h2)
        rw [e]; unfold noGap; simp at h1 h2; rw [h1, h2]; rfl
theorem trimS_infix (l : List UInt8) : ∃ a b, l = a ++ Go.Lib.trimS l gapL ++ b := by
  unfold Go.Lib.trimS
  obtain ⟨b, hb⟩ : ∃ b, l = Go.Lib.trimRightS l gapL ++ b := by
    unfold Go.Lib.trimRightS
    obtain ⟨t, ht⟩ := List.dropWhile_suffix (l := l.reverse) (gapL.contains ·)
    refine ⟨t.reverse, ?_⟩
    have := congrArg List.reverse ht
    rw [List.reverse_append, List.reverse_reverse] at this
    exact this.symm
  obtain ⟨a, ha⟩ : ∃ a, Go.Lib.trimRightS l gapL = a ++ Go.Lib.trimLeftS (Go.Lib.trimRightS l gapL) gapL := by
    obtain ⟨t, ht⟩ := List.dropWhile_suffix (l := Go.Lib.trimRightS l gapL) (gapL.contains ·)
    exact ⟨t, ht.symm⟩
  exact ⟨a, b, by rw [← ha]; exact hb⟩
theorem parse_zero (l : List UInt8) (h : parseE l = 0) : parseOk l = true ∧ parseN l = parseName l ∧ parseV l = parseVal l := by
  unfold parseE at h
  split at h
  · rename_i hk; exact ⟨hk, if_pos hk, if_pos hk⟩
  · exact absurd h (by decide)
theorem parse_four (l : List UInt8) (h : parseE l ≠ 0) : parseE l = 4 ∧ parseN l = [] ∧ parseV l = [] := by
  unfold parseE parseN parseV at *
  split at h
  · exact absurd rfl h
  · rename_i hk; rw [if_neg hk, if_neg hk, if_neg hk]; exact ⟨rfl, rfl, rfl⟩
theorem parse_infix (l : List UInt8) (h : parseE l = 0) : ∃ a b, l = a ++ parseV l ++ b := by
  obtain ⟨_, _, hv⟩ := parse_zero l h
  rw [hv]
  unfold parseVal
  obtain ⟨a, b, e⟩ := trimS_infix (l.drop ((ahead l).length + 1))
  exact ⟨l.take ((ahead l).length + 1) ++ a, b, by rw [List.append_assoc, List.append_assoc, ← List.append_assoc a, ← e, List.take_append_drop]⟩
theorem parse_print (l : List UInt8) (h : parseE l = 0) : printOk (parseN l) (parseV l) = true := by
  obtain ⟨hk, hn, hv⟩ := parse_zero l h
  obtain ⟨a, b, e⟩ := parse_infix l h
  have hp : plainAll l = true ∧ nameL (parseName l) = true := by
    unfold parseOk at hk; simp only [Bool.and_eq_true] at hk; exact ⟨hk.1.1, hk.2⟩
  unfold printOk
  rw [hn, hp.2]
  have h1 : plainAll (parseV l) = true := by
    have := hp.1
    rw [e] at this
    unfold plainAll at this ⊢
    rw [List.all_append, List.all_append] at this
    simp only [Bool.and_eq_true] at this
    exact this.1.2
  have h2 : noGap (parseV l) = true := by rw [hv]; exact trimS_idem _
  rw [h1, h2]; rfl
end Go.Proofs.YtiljjkdpjbffbaaGreatDoor
namespace Go.Proofs.YtiljjkdpjbffbaaGreatDoor
open Go.RowKit

/-- a request's lines -/
def line1 (p : List UInt8) : List UInt8 := [71, 69, 84, 32] ++ p ++ [32, 72, 84, 84, 80, 47, 49, 46, 49]
def line2 (h : List UInt8) : List UInt8 := [72, 111, 115, 116, 58, 32] ++ h
def line3 (a b : Int) : List UInt8 := [82, 97, 110, 103, 101, 58, 32] ++ askL a b
def reqL (p h : List UInt8) (a b : Int) : List UInt8 := body [line1 p, line2 h, line3 a b] ++ [13, 10]
def lines4 (p h : List UInt8) (a b : Int) : List (List UInt8) := [line1 p, line2 h, line3 a b, []]
def aPrint (p h : List UInt8) (a b : Int) : List UInt8 := if aErr p h a b = 0 then reqL p h a b else []
theorem aErr_zero (p h : List UInt8) (a b : Int) (he : aErr p h a b = 0) : pathB p = true ∧ hostB h = true ∧ rErr a b = 0 := by
  unfold aErr at he
  split at he
  · exact absurd he (by decide)
  · rename_i hn
    refine ⟨?_, ?_, he⟩
    · cases e : pathB p with
      | false => exact absurd (.inl e) hn
      | true => rfl
    · cases e : hostB h with
      | false => exact absurd (.inr e) hn
      | true => rfl
theorem pathB_and (p : List UInt8) (h : pathB p = true) : p.length ≤ 64 ∧ (∀ c ∈ p, pathN c.toNat = true) ∧ p ≠ [] := by
  unfold pathB at h
  simp only [Bool.and_eq_true, decide_eq_true_eq, List.all_eq_true] at h
  refine ⟨h.1.2, h.2, ?_⟩
  intro e; rw [e] at h; exact absurd h.1.1 (by decide)
theorem hostB_and (p : List UInt8) (h : hostB p = true) : p.length ≤ 32 ∧ (∀ c ∈ p, hostN c.toNat = true) ∧ p ≠ [] := by
  unfold hostB at h
  simp only [Bool.and_eq_true, decide_eq_true_eq, List.all_eq_true, Bool.not_eq_true', List.isEmpty_eq_false_iff] at h
  exact ⟨h.1.2, h.2, h.1.1⟩
theorem pathN_plain (x : Nat) (h : pathN x = true) : plainB x = true ∧ x ≠ 32 := by
  unfold pathN at h
  simp only [Bool.and_eq_true, decide_eq_true_eq] at h
  exact ⟨plainB_of x (by omega) (by omega), by omega⟩
theorem hostN_plain (x : Nat) (h : hostN x = true) : plainB x = true ∧ x ≠ 32 := by
  unfold hostN letN digN at h
  simp only [Bool.or_eq_true, Bool.and_eq_true, decide_eq_true_eq, beq_iff_eq] at h
  exact ⟨plainB_of x (by omega) (by omega), by omega⟩
theorem put_of (l : List UInt8) (h : plainL l) (hl : l.length ≤ 256) : putErr l = 0 := by
  unfold putErr
  rw [if_neg (by rw [List.all_eq_true.2 h]; decide), if_neg (by omega)]
theorem digL_plain (n : Int) : plainL (digL n) := by
  intro c hc
  unfold digL at hc
  split at hc
  · simp at hc
  · have := List.all_eq_true.1 (decDigits_all n.toNat) c hc
    unfold digN at this
    simp only [Bool.and_eq_true, decide_eq_true_eq] at this
    exact plainB_of _ (by omega) (by omega)
theorem line1_put (p : List UInt8) (h : pathB p = true) : putErr (line1 p) = 0 := by
  obtain ⟨h1, h2, -⟩ := pathB_and p h
  refine put_of _ ?_ (by unfold line1; simp; omega)
  intro c hc
  unfold line1 at hc
  rw [List.mem_append, List.mem_append] at hc
  rcases hc with (hc | hc) | hc
  · exact (show ∀ d ∈ ([71, 69, 84, 32] : List UInt8), plainB d.toNat = true by decide) c hc
  · exact (pathN_plain _ (h2 c hc)).1
  · exact (show ∀ d ∈ ([32, 72, 84, 84, 80, 47, 49, 46, 49] : List UInt8), plainB d.toNat = true by decide) c hc
theorem line2_put (p : List UInt8) (h : hostB p = true) : putErr (line2 p) = 0 := by
  obtain ⟨h1, h2, -⟩ := hostB_and p h
  refine put_of _ ?_ (by unfold line2; simp; omega)
  intro c hc
  unfold line2 at hc
  rw [List.mem_append] at hc
  rcases hc with hc | hc
  · exact (show ∀ d ∈ ([72, 111, 115, 116, 58, 32] : List UInt8), plainB d.toNat = true by decide) c hc
  · exact (hostN_plain _ (h2 c hc)).1
theorem askL_len (a b : Int) (ha : a ≤ 9223372036854775807) (hb : b ≤ 9223372036854775807) : (askL a b).length ≤ 47 := by
  unfold askL
  split
  · rw [List.length_append]; have := textR_len a b ha hb; have e : asksL.length = 6 := rfl; omega
  · exact Nat.zero_le _
theorem askL_plain (a b : Int) : plainL (askL a b) := by
  unfold askL
  split
  · intro c hc
    unfold textR at hc
    rw [List.mem_append, List.mem_append, List.mem_cons] at hc
    rcases hc with hc | hc | hc | hc
    · exact (show ∀ d ∈ asksL, plainB d.toNat = true by decide) c hc
    · exact digL_plain a c hc
    · subst hc; decide
    · exact digL_plain b c hc
  · intro c hc; simp at hc
theorem line3_put (a b : Int) (ha : a ≤ 9223372036854775807) (hb : b ≤ 9223372036854775807) : putErr (line3 a b) = 0 := by
  refine put_of _ ?_ (by unfold line3; have := askL_len a b ha hb; simp; omega)
  intro c hc
  unfold line3 at hc
  rw [List.mem_append] at hc
  rcases hc with hc | hc
  · exact (show ∀ d ∈ ([82, 97, 110, 103, 101, 58, 32] : List UInt8), plainB d.toNat = true by decide) c hc
  · exact askL_plain a b c hc
/-- what laying a line that may be laid returns -/
theorem put_good (s : ByteArray) (w : World) (hs : s.size ≤ 256) (h : putErr s.data.toList = 0) :
    Calls Tryz.prog 24 #[.string s] w fun e w' => e = .returned (.tuple #[.string (s ++ ⟨#[13, 10]⟩), .int .i64 0]) ∧ w' = w := by
  have := lines_put s w (by omega)
  unfold putLine at this
  rw [if_pos h, h] at this
  exact this
end Go.Proofs.YtiljjkdpjbffbaaGreatDoor
namespace Go.Proofs.YtiljjkdpjbffbaaGreatDoor
open Go.RowKit

theorem bs_of (s : ByteArray) (l : List UInt8) (h : s.data.toList = l) : s = bs l := by rw [← h, bs_self]
end Go.Proofs.YtiljjkdpjbffbaaGreatDoor
namespace Go.Proofs.YtiljjkdpjbffbaaGreatDoor
open Go.RowKit

def MaxLenIs (w : World) (m : Int) : Prop := w.cell? ⟨5, 0, none⟩ = some (.int .i64 m)
theorem MaxLenIs.pos {w : World} {m : Int} (h : MaxLenIs w m) : 5 < w.heap.size := World.block_lt_of_cell? _ _ h
theorem MaxLenIs.below {w w' : World} {m : Int} (h : MaxLenIs w m) (hb : Below w.heap.size w w') : MaxLenIs w' m := (hb.cell (p := ⟨5, 0, none⟩) h.pos).trans h

/-! what the functions tell of the texts of awake -/
def t1 : ByteArray := ⟨#[97, 32, 98, 13, 10, 99]⟩
theorem aw1 : takeLine t1 0 = ⟨#[97, 32, 98]⟩ := by decide +kernel
theorem aw2 : takeNext t1 0 = 5 := by decide +kernel
theorem aw3 : takeErr t1 0 = 0 := by decide +kernel
theorem aw4 : takeNext t1 5 = 5 := by decide +kernel
theorem aw5 : takeErr t1 5 = 3 := by decide +kernel
theorem aw6 : takeErr ⟨#[97, 10]⟩ 0 = 4 := by decide +kernel
theorem aw7 : putLine ⟨#[120]⟩ = ⟨#[120, 13, 10]⟩ := by decide +kernel
theorem aw8 : putErr [120] = 0 := by decide +kernel
theorem aw9 : headOf ⟨#[97, 13, 10, 98, 13, 10, 13, 10, 99]⟩ = ([[97], [98]], 8, 0) := by decide +kernel
theorem aw10 : words [32, 97] = [[], [97]] := by decide +kernel
end Go.Proofs.YtiljjkdpjbffbaaGreatDoor
namespace Go.Proofs.YtiljjkdpjbffbaaGreatDoor
open Go.RowKit

theorem set_size (w : World) (a : Addr) (v : Value) : (w.setCell a v).heap.size = w.heap.size := by simp
theorem GR.refl (R : Nat) (w : World) : w.grownBy w (some R) := ⟨rfl, rfl, rfl, Nat.le_refl _, fun _ _ _ => rfl⟩
theorem _root_.Go.World.grownBy.below {w w1 w2 : World} {r : Option Nat} (h : w.grownBy w1 r) (hb : Below w1.heap.size w1 w2) : w.grownBy w2 r :=
  ⟨hb.os.trans h.os, hb.tape.trans h.tape, hb.output.trans h.output, Nat.le_trans h.size hb.size, fun k hk hne => (hb.block k (Nat.lt_of_lt_of_le hk h.size)).trans (h.block k hk hne)⟩
theorem _root_.Go.World.grownBy.set {w w1 : World} {R : Nat} (h : w.grownBy w1 (some R)) (j : Nat) (v : Value) : w.grownBy (w1.setCell ⟨R, j, none⟩ v) (some R) := by
  have hk : Below R w1 (w1.setCell ⟨R, j, none⟩ v) := (Below.refl R w1).setCell (p := ⟨R, j, none⟩) (Nat.le_refl _) v
  refine ⟨hk.os.trans h.os, hk.tape.trans h.tape, hk.output.trans h.output, by rw [set_size]; exact h.size, fun k hk hne => ?_⟩
  refine Eq.trans ?_ (h.block k hk hne)
  have hkR : R ≠ k := fun e => hne (by rw [e])
  simp [World.setCell, Array.getElem?_modify, hkR]
theorem _root_.Go.World.grownBy.toBelow {w w' : World} {R : Nat} (h : w.grownBy w' (some R)) (hR : R ≤ w.heap.size) : Below R w w' :=
  (Below.refl R w).grown h hR (fun k hk => by have := Option.some.inj hk; omega)
/-- what is wrong with the first line's words -/
def firstW (ws : List (List UInt8)) : Nat := if ws.length ≠ 3 then 4 else if ws.getD 0 [] ≠ [71, 69, 84] then 14 else if ws.getD 2 [] ≠ [72, 84, 84, 80, 47, 49, 46, 49] then 13 else if pathB (ws.getD 1 []) = false then 2 else 0
def firstL (ls : List (List UInt8)) : Nat := if ls = [] then 4 else firstW (words (ls.getD 0 []))
def wordL (ls : List (List UInt8)) : List UInt8 := (words (ls.getD 0 [])).getD 1 []
theorem bs_lit (x l : List UInt8) : ((bs x).toList == l) = decide (x = l) := by
  rw [ByteArray.toList_eq, bs_data]
  by_cases h : x = l
  · subst h; simp
  · simp [h]
theorem words_len (l : List UInt8) : ∀ x ∈ words l, x.length ≤ l.length := by
  induction l with
  | nil => intro x hx; simp [words] at hx; subst hx; exact Nat.le_refl _
  | cons c t ih =>
    intro x hx
    unfold words at hx
    split at hx
    · rcases List.mem_cons.1 hx with rfl | hx
      · exact Nat.zero_le _
      · have := ih x hx; simp; omega
    · cases hw : words t with
      | nil => rw [hw] at hx; simp at hx; subst hx; simp
      | cons y ys =>
        rw [hw] at hx ih
        rcases List.mem_cons.1 hx with rfl | hx
        · have := ih y (List.mem_cons_self ..); simp; omega
        · have := ih x (List.mem_cons_of_mem _ hx); simp; omega
end Go.Proofs.YtiljjkdpjbffbaaGreatDoor
namespace Go.Proofs.YtiljjkdpjbffbaaGreatDoor
open Go.RowKit

/-- the library's variables, as a world held them whose blocks all lie below R -/
def Anchor (R : Nat) (w : World) : Prop := ∃ wa, EnvF wa ∧ wa.heap.size = R ∧ Below R wa w
theorem Anchor.env {R : Nat} {w : World} (h : Anchor R w) : EnvF w := by
  obtain ⟨wa, h1, rfl, h3⟩ := h
  exact h1.below h3
theorem Anchor.step {R : Nat} {w w' : World} (h : Anchor R w) (hb : Below R w w') : Anchor R w' := by
  obtain ⟨wa, h1, h2, h3⟩ := h
  exact ⟨wa, h1, h2, h3.trans hb⟩
/-- the slice v reads as the texts xs, and lies below R -/
def HoldsLt (w : World) (R : Nat) (v : Value) (xs : List (List UInt8)) : Prop :=
  ∃ a c, v = .slice a xs.length c ∧ xs.length ≤ c ∧ (xs ≠ [] → ∃ b o, a = some ⟨b, o, none⟩ ∧ b < R ∧ ∀ j (hj : j < xs.length), w.cell? ⟨b, o + j, none⟩ = some (.string (bs xs[j])))
theorem HoldsLt.holds {w : World} {R : Nat} {v : Value} {xs : List (List UInt8)} (h : HoldsLt w R v xs) (hR : R ≤ w.heap.size) : HoldsS w v xs := by
  obtain ⟨a, c, h1, h2, h3⟩ := h
  exact ⟨a, c, h1, h2, fun hn => let ⟨b, o, e1, e2, e3⟩ := h3 hn; ⟨b, o, e1, Nat.lt_of_lt_of_le e2 hR, e3⟩⟩
theorem HoldsLt.step {w w' : World} {R : Nat} {v : Value} {xs : List (List UInt8)} (h : HoldsLt w R v xs) (hb : Below R w w') : HoldsLt w' R v xs := by
  obtain ⟨a, c, h1, h2, h3⟩ := h
  exact ⟨a, c, h1, h2, fun hn => let ⟨b, o, e1, e2, e3⟩ := h3 hn; ⟨b, o, e1, e2, fun j hj => (hb.cell (p := ⟨b, o + j, none⟩) e2).trans (e3 j hj)⟩⟩
theorem HoldsLt.of {w : World} {v : Value} {xs : List (List UInt8)} (h : HoldsS w v xs) : HoldsLt w w.heap.size v xs := h
/-- the first error of some lines that are to be fields; the fields -/
def fldE : List (List UInt8) → Nat
  | [] => 0
  | l :: t => if parseE l ≠ 0 then parseE l else fldE t
def fldL (ls : List (List UInt8)) : List (List UInt8 × List UInt8) := ls.map fun l => (parseN l, parseV l)
theorem fldE_skip (xs : List (List UInt8)) : ∀ k, (∀ j (hj : j < xs.length), j < k → parseE xs[j] = 0) → fldE xs = fldE (xs.drop k) := by
  induction xs with
  | nil => intro k _; simp
  | cons x t ih =>
    intro k h
    cases k with
    | zero => rfl
    | succ k =>
      have h0 := h 0 (by simp) (by omega)
      show (if parseE x ≠ 0 then parseE x else fldE t) = fldE (t.drop k)
      rw [if_neg (fun hh => hh h0)]
      exact ih k (fun j hj hk => h (j + 1) (by simp; omega) (by omega))
theorem fldE_at (xs : List (List UInt8)) (k : Nat) (hk : k < xs.length) (h : ∀ j (hj : j < xs.length), j < k → parseE xs[j] = 0) (hb : parseE xs[k] ≠ 0) : fldE xs = parseE xs[k] := by
  rw [fldE_skip xs k h, List.drop_eq_getElem_cons hk]
  exact if_pos hb
theorem fldE_all (xs : List (List UInt8)) (h : ∀ j (hj : j < xs.length), parseE xs[j] = 0) : fldE xs = 0 := by
  rw [fldE_skip xs xs.length (fun j hj _ => h j hj), List.drop_length]; rfl
theorem fldL_snoc (xs : List (List UInt8)) (k : Nat) (hk : k < xs.length) : fldL (xs.take (k + 1)) = fldL (xs.take k) ++ [(parseN xs[k], parseV xs[k])] := by
  unfold fldL; rw [List.take_succ_eq_append_getElem hk, List.map_append]; rfl
/-- append of one field at a step of a region that draws -/
theorem step_appF {ops : Array Oper} {o : Oper} {a : Act} {K : Act → World → Prop} {Q : Exit → Act → World → Prop} {E : Prop} (W : World) (hgd : o.guard = none) (s x : Operand)
    (ho : o.op = .call { callee := .builtin .append, args := #[s, x], argTypes := #[30, 30] })
    (base : Nat) (v : Value) (fs : List (List UInt8 × List UInt8)) (hs : a.eval s = v) (hown : W.ownsRow base 51 2 v fs.length (fcells fs))
    (B : Nat) (f : List UInt8 × List UInt8) (hB : W.heap[B]? = some (.cells #[.string (bs f.1), .string (bs f.2)] 51 (0, 0))) (hx : a.eval x = .slice (some ⟨B, 0, none⟩) 1 1) (hn : fs.length < 2147483648) (hbase : base ≤ W.heap.size)
    (h : ∀ g cap w', w'.ownsRow base 51 2 (.slice (some ⟨g, 0, none⟩) (fs.length + 1) cap) (fs ++ [f]).length (fcells (fs ++ [f])) → W.grownBy w' v.ownBlock → K (a.put o.dst (.slice (some ⟨g, 0, none⟩) (fs.length + 1) cap)) w') :
    if Region.wanted o (yielded ops a.tmps) = true then Oper.wp Tryz.prog o a W K Q else E := by
  obtain ⟨i0, hi, hz0, hz1, hz2⟩ := info_parts info_field
  refine step_append_lies W hgd s x 30 ho base 51 i0 _ 2 32 Tryz.underlying30 hi hz0 hz1 hz2 rfl (by decide) v fs.length (fcells fs) hs hown ⟨B, 0, none⟩ 1 1 [.string (bs f.1), .string (bs f.2)] hx rfl (World.news_of_block hB) (by simp [Value.oneCell']) (by decide) (by unfold maxLen; omega) (by omega) hbase _ rfl ?_
  intro g cap w' h1 h2 _ _
  refine h g cap w' ?_ h2
  rw [List.length_append, fcells_append]; exact h1
theorem grow_block {w w' : World} {v : Value} {base R : Nat} {e : TypeId} {size n : Nat} {xs : List Value} (hg : w.grownBy w' v.ownBlock) (hown : w.ownsRow base e size v n xs) (hR : R < base) (hRw : R < w.heap.size) : w'.heap[R]? = w.heap[R]? :=
  hg.block R hRw (fun h => by have := (hown.lt R h.symm).1; omega)
theorem own_grown {w w' : World} {R B : Nat} {e : TypeId} {k : Nat} {v : Value} {n : Nat} {xs : List Value} (h : w.ownsRow B e k v n xs) (g : w.grownBy w' (some R)) (hR : R < B) : w'.ownsRow B e k v n xs := by
  refine ⟨h.1, ?_⟩
  rcases h.2 with h0 | ⟨b, cap, cur, e1, e2, e3, e4⟩
  · exact .inl h0
  · exact .inr ⟨b, cap, cur, e1, e2, (g.block b (Array.getElem?_eq_some_iff.1 e3).1 (fun e => by have := Option.some.inj e; omega)).trans e3, e4⟩
end Go.Proofs.YtiljjkdpjbffbaaGreatDoor
namespace Go.Proofs.YtiljjkdpjbffbaaGreatDoor
open Go.RowKit

def hostK : List UInt8 := [104, 111, 115, 116]
def rangeK : List UInt8 := [114, 97, 110, 103, 101]
def whoE (fs : List (List UInt8 × List UInt8)) : Nat := if getE fs hostK ≠ 0 then getE fs hostK else if hostB (getS fs hostK) = false then 2 else 0
def whatE (fs : List (List UInt8 × List UInt8)) : Nat := if getE fs rangeK ≠ 0 then getE fs rangeK else askedE (getS fs rangeK)
theorem get_k (v : Value) (fs : List (List UInt8 × List UInt8)) (n : ByteArray) (k : List UInt8) (hk : n.data.toList = k) (w : World) (hv : HoldsF w v fs) (hlen : fs.length ≤ 1000000) :
    Calls Tryz.prog 59 #[v, .string n] w fun e w' => e = .returned (.tuple #[.string (bs (getS fs k)), .int .i64 (getE fs k)]) ∧ Below w.heap.size w w' := by
  subst hk; exact fields_get v fs n w hv hlen
end Go.Proofs.YtiljjkdpjbffbaaGreatDoor
namespace Go.Proofs.YtiljjkdpjbffbaaGreatDoor
open Go.RowKit

theorem takeLine_len (s : ByteArray) (a : Int) : (takeLine s a).data.toList.length ≤ 256 := by
  unfold takeLine
  split
  · rename_i h
    have := (scan_n (s.data.toList.drop a.toNat) 0 (by omega)).2.2.1
    rw [size_len, ByteArray.size_extract]
    unfold scanAt; omega
  · exact Nat.zero_le _
theorem headR_bound (s : ByteArray) : ∀ (f : Nat) (a : Int) (xs : List (List UInt8)), (∀ x ∈ xs, x.length ≤ 256) → xs.length ≤ 17 → (∀ x ∈ (headR f s a xs).1, x.length ≤ 256) ∧ (headR f s a xs).1.length ≤ 17 := by
  intro f
  induction f with
  | zero => intro a xs _ _; exact ⟨fun x h => by simp [headR] at h, by simp [headR]⟩
  | succ f ih =>
    intro a xs h1 h2
    unfold headR
    split
    · exact ⟨fun x h => by simp at h, by simp⟩
    · split
      · exact ⟨h1, h2⟩
      · split
        · exact ⟨fun x h => by simp at h, by simp⟩
        · rename_i h17
          refine ih _ _ (fun x hx => ?_) (by rw [List.length_append, List.length_singleton]; omega)
          rw [List.mem_append, List.mem_singleton] at hx
          rcases hx with hx | rfl
          · exact h1 x hx
          · exact takeLine_len s a
theorem headOf_bound (s : ByteArray) : (∀ x ∈ (headOf s).1, x.length ≤ 256) ∧ (headOf s).1.length ≤ 17 := headR_bound s 18 0 [] (fun x h => by simp at h) (by decide)
theorem parseV_len (l : List UInt8) : (parseV l).length ≤ l.length := by
  unfold parseV
  split
  · unfold parseVal
    have := trimS_le (l.drop ((ahead l).length + 1))
    rw [List.length_drop] at this; omega
  · exact Nat.zero_le _
theorem getS_mem (fs : List (List UInt8 × List UInt8)) (k : List UInt8) : getS fs k = [] ∨ ∃ f ∈ fs, getS fs k = f.2 := by
  unfold getS
  split
  · rename_i v h
    right
    have hm : v ∈ hits fs k := by rw [h]; exact List.mem_singleton.2 rfl
    unfold hits at hm
    obtain ⟨f, hf, rfl⟩ := List.mem_map.1 hm
    exact ⟨f, (List.mem_filter.1 hf).1, rfl⟩
  · exact .inl rfl
theorem getS_len (ls : List (List UInt8)) (k : List UInt8) (h : ∀ x ∈ ls, x.length ≤ 256) : (getS (fldL ls) k).length ≤ 256 := by
  rcases getS_mem (fldL ls) k with e | ⟨f, hf, e⟩
  · rw [e]; exact Nat.zero_le _
  · rw [e]
    unfold fldL at hf
    obtain ⟨x, hx, rfl⟩ := List.mem_map.1 hf
    exact Nat.le_trans (parseV_len x) (h x hx)
/-- what is wrong with the lines of a request -/
def lnE (ls : List (List UInt8)) : Nat := if firstL ls ≠ 0 then firstL ls else if fldE ls.tail ≠ 0 then fldE ls.tail else if whoE (fldL ls.tail) ≠ 0 then whoE (fldL ls.tail) else whatE (fldL ls.tail)
def askE (s : ByteArray) : Nat := if (headOf s).2.2 ≠ 0 then (headOf s).2.2 else lnE (headOf s).1
def askPath (s : ByteArray) : List UInt8 := if askE s = 0 then wordL (headOf s).1 else []
def askHost (s : ByteArray) : List UInt8 := if askE s = 0 then getS (fldL (headOf s).1.tail) hostK else []
def askA (s : ByteArray) : Int := if askE s = 0 then askedA (getS (fldL (headOf s).1.tail) rangeK) else 0
def askB (s : ByteArray) : Int := if askE s = 0 then askedB (getS (fldL (headOf s).1.tail) rangeK) else 0
def askN (s : ByteArray) : Int := if askE s = 0 then (headOf s).2.1 else 0
def askV (s : ByteArray) : Value := .tuple #[.agg #[.string (bs (askPath s)), .string (bs (askHost s)), .int .i64 (askA s), .int .i64 (askB s)], .int .i64 (askN s), .int .i64 (askE s : Nat)]
theorem askV_bad (s : ByteArray) (e : Nat) (h : askE s = e) (h0 : e ≠ 0) : askV s = .tuple #[.agg #[.string ⟨#[]⟩, .string ⟨#[]⟩, .int .i64 0, .int .i64 0], .int .i64 0, .int .i64 (e : Nat)] := by
  have hn : askE s ≠ 0 := by rw [h]; exact h0
  unfold askV askPath askHost askA askB askN
  rw [if_neg hn, if_neg hn, if_neg hn, if_neg hn, if_neg hn, h]; rfl
theorem four_of {w : World} {b : Nat} {x y z u : Value} {t : TypeId} (k : w.heap[b]? = some (.cells #[x, y, z, u] t (0, 0))) :
    (w.cell? ⟨b, 0, none⟩ = some x ∧ w.cell? ⟨b, 1, none⟩ = some y ∧ w.cell? ⟨b, 2, none⟩ = some z ∧ w.cell? ⟨b, 3, none⟩ = some u) ∧ (w.frozen? ⟨b, 0, none⟩ = false ∧ w.frozen? ⟨b, 1, none⟩ = false ∧ w.frozen? ⟨b, 2, none⟩ = false ∧ w.frozen? ⟨b, 3, none⟩ = false) := by
  refine ⟨⟨?_, ?_, ?_, ?_⟩, ⟨?_, ?_, ?_, ?_⟩⟩ <;> first | (unfold World.cell?; rw [k]; rfl) | (unfold World.frozen?; rw [k]; rfl)
theorem askV_good (s : ByteArray) (ls : List (List UInt8)) (n : Int) (h : headOf s = (ls, n, 0)) (hl : lnE ls = 0) :
    askV s = .tuple #[.agg #[.string (bs (wordL ls)), .string (bs (getS (fldL ls.tail) hostK)), .int .i64 (askedA (getS (fldL ls.tail) rangeK)), .int .i64 (askedB (getS (fldL ls.tail) rangeK))], .int .i64 n, .int .i64 0] := by
  have h0 : askE s = 0 := by unfold askE; rw [h]; exact hl
  unfold askV askPath askHost askA askB askN
  rw [if_pos h0, if_pos h0, if_pos h0, if_pos h0, if_pos h0, h0, h]; rfl
theorem head_good (s : ByteArray) (w : World) (hs : s.size ≤ 9223372036854775807) : Calls Tryz.prog 31 #[.string s] w (HeadPost s w) := lines_head s w hs
end Go.Proofs.YtiljjkdpjbffbaaGreatDoor
namespace Go.Proofs.YtiljjkdpjbffbaaGreatDoor
open Go.RowKit
theorem ref_small (c : Nat) (w : World) (hc : c < 256) : Calls Tryz.prog 87 #[.int .u8 (c : Int)] w fun e w' => e = .returned (.int .u8 (smallN c : Nat)) ∧ w' = w := by
  by_cases h1 : c < 65
  · have H : Hid (smallN c = c) := Lib.hid (if_neg (by omega))
    have t : decide ((c : Int) ≥ 65) = false := by simp; omega
    go_enter Tryz.func87, Tryz.ntmps87
    go_wp2_with fail
    go_ret
    exact ⟨by rw [H.out]; rfl, rfl⟩
  · by_cases h2 : 90 < c
    · have H : Hid (smallN c = c) := Lib.hid (if_neg (by omega))
      have t : decide ((c : Int) ≤ 90) = false := by simp; omega
      go_enter Tryz.func87, Tryz.ntmps87
      go_wp2_with fail
      go_ret
      exact ⟨by rw [H.out]; rfl, rfl⟩
    · have H : Hid (smallN c = c + 32) := Lib.hid (if_pos (by omega))
      have t : decide ((c : Int) ≤ 90) = true := by simp; omega
      have h3 : 65 ≤ c := by omega
      go_enter Tryz.func87, Tryz.ntmps87
      go_wp2_with fail
      go_ret
      refine ⟨ret_int ?_, rfl⟩
      rw [H.out]; omega

theorem ref_gap (c : UInt8) (w : World) : Calls Tryz.prog 55 #[.int .u8 (c.toNat : Int)] w fun e w' => e = .returned (.bool (gapB c)) ∧ w' = w := by
  by_cases h1 : c = 32
  · subst h1
    go_enter Tryz.func55, Tryz.ntmps55
    go_wp2_with fail
    go_ret
    exact ⟨rfl, rfl⟩
  · have t1 : ((c.toNat : Int) == 32) = false := by
      rw [beq_eq_false_iff_ne]; intro e; exact h1 (UInt8.toNat_inj.1 (by show _ = 32; omega))
    have H : Hid (gapB c = (c == 9)) := Lib.hid (by unfold gapB; rw [beq_eq_false_iff_ne.2 h1, Bool.false_or])
    by_cases h2 : c = 9
    · subst h2
      go_enter Tryz.func55, Tryz.ntmps55
      go_wp2_with fail
      go_ret
      exact ⟨rfl, rfl⟩
    · have t2 : ((c.toNat : Int) == 9) = false := by
        rw [beq_eq_false_iff_ne]; intro e; exact h2 (UInt8.toNat_inj.1 (by show _ = 9; omega))
      have H2 : Hid (gapB c = false) := Lib.hid (H.out.trans (beq_eq_false_iff_ne.2 h2))
      clear H h1 h2
      go_enter Tryz.func55, Tryz.ntmps55
      go_wp2_with fail
      go_ret
      exact ⟨ret_bool H2.out.symm, rfl⟩


set_option maxHeartbeats 1000000 in
theorem ref_fplain (s : ByteArray) (w : World) (hs : s.size ≤ 9223372036854775807) :
    Calls Tryz.prog 54 #[.string s] w fun e w' => e = .returned (.bool (s.data.toList.all (fun c => plainB c.toNat))) ∧ w' = w := by
  obtain ⟨B, hB⟩ : ∃ B, B = s.data.toList.all (fun c => plainB c.toNat) := ⟨_, rfl⟩
  rw [← hB]
  have HB := Lib.hid hB
  clear hB
  go_enter Tryz.func54, Tryz.ntmps54
  go_wp2_with fail
  go_loop [3] (fun j => ∃ k : Nat, k ≤ s.size ∧ j = .int .i64 k ∧ Hid (∀ j, j < k → ∀ hj : j < s.size, plainB (s[j]'hj).toNat = true)) (fun j => s.size - (intOf j).toNat)
  case atStart => exact ⟨0, by omega, rfl, Lib.hid (fun j hj => by omega)⟩
  case round =>
    obtain ⟨k, hk, rfl, Hall⟩ := hrel
    by_cases hlt : k < s.size
    · have hcb : s[k].toNat < 256 := s[k].toNat_lt
      have HP := Lib.hid (fun w => ref_plain s[k].toNat w hcb)
      by_cases hpl : plainB s[k].toNat = false
      · have H := Lib.hid (HB.out.trans <| all_at (fun c => plainB c.toNat) s k hlt hpl)
        rw [hpl] at HP
        clear hpl Hall
        go_wp2_with fail
        refine (HP.out _).mono ?_
        rintro e w' ⟨rfl, rfl⟩
        go_wp2_with fail
        go_ret
        exact ⟨ret_bool H.out.symm, rfl⟩
      · have hpl' : plainB s[k].toNat = true := by simpa using hpl
        have H := Lib.hid (upto_step (fun c => plainB c.toNat) s k Hall.out hlt hpl')
        rw [hpl'] at HP
        clear hpl hpl' Hall
        go_wp2_with fail
        refine (HP.out _).mono ?_
        rintro e w' ⟨rfl, rfl⟩
        go_wp2_with fail
        go_round
        case rel => exact ⟨k + 1, by omega, by go_num, H⟩
        case measure => simp [intOf]; omega
    · have H := Lib.hid (HB.out.trans <| all_of (fun c => plainB c.toNat) s (fun j hj => Hall.out j (by omega) hj))
      clear Hall
      go_wp2_with fail
      go_ret
      exact ⟨ret_bool H.out.symm, rfl⟩

set_option maxHeartbeats 2000000 in
theorem ref_name (s : ByteArray) (w : World) (hs : s.size ≤ 9223372036854775807) :
    Calls Tryz.prog 53 #[.string s] w fun e w' => e = .returned (.bool (nameL s.data.toList)) ∧ w' = w := by
  obtain ⟨B, hB⟩ : ∃ B, B = nameL s.data.toList := ⟨_, rfl⟩
  rw [← hB]
  have HB := Lib.hid hB
  clear hB
  go_enter Tryz.func53, Tryz.ntmps53
  go_wp2_with fail
  go_loop [3] (fun j => ∃ k : Nat, k ≤ s.size ∧ j = .int .i64 k ∧ Hid (∀ j, j < k → ∀ hj : j < s.size, namedN (s[j]'hj).toNat = true)) (fun j => s.size - (intOf j).toNat)
  case atStart => exact ⟨0, by omega, rfl, Lib.hid (fun j hj => by omega)⟩
  case round =>
    obtain ⟨k, hk, rfl, Hall⟩ := hrel
    by_cases hlt : k < s.size
    · have hN : ∀ hq : namedN s[k].toNat = true, Hid (∀ j, j < k + 1 → ∀ hj : j < s.size, namedN (s[j]'hj).toNat = true) := fun hq => Lib.hid (upto_step (fun c => namedN c.toNat) s k Hall.out hlt hq)
      have hF : ∀ hq : namedN s[k].toNat = false, Hid (B = false) := fun hq => Lib.hid (HB.out.trans (nameL_not _ (all_at (fun c => namedN c.toNat) s k hlt hq)))
      have hcase := named_cases s[k].toNat
      clear Hall HB
      rcases hcase with ⟨c1, c2, hq⟩ | ⟨c1, c2, hq⟩ | ⟨c1, hq⟩ | ⟨c1, c2, hq⟩ | ⟨c1, c2, hq⟩ | ⟨c1, hq⟩
      · have H := hN hq
        have t1 : decide ((s[k].toNat : Int) > 122) = false := by simp; omega
        have t2 : decide ((s[k].toNat : Int) < 97) = false := by simp; omega
        clear hN hF hq
        go_wp2_with fail
        go_round
        case rel => exact ⟨k + 1, by omega, by go_num, H⟩
        case measure => simp [intOf]; omega
      · have H := hN hq
        have t1 : decide ((s[k].toNat : Int) < 97) = true := by simp; omega
        have t2 : decide ((s[k].toNat : Int) < 48) = false := by simp; omega
        have t3 : decide ((s[k].toNat : Int) > 57) = false := by simp; omega
        clear hN hF hq
        go_wp2_with fail
        go_round
        case rel => exact ⟨k + 1, by omega, by go_num, H⟩
        case measure => simp [intOf]; omega
      · have H := hN hq
        have t1 : decide ((s[k].toNat : Int) < 97) = true := by simp; omega
        have t2 : decide ((s[k].toNat : Int) < 48) = true := by simp; omega
        have t3 : ((s[k].toNat : Int) != 45) = false := by rw [c1]; rfl
        clear hN hF hq
        go_wp2_with fail
        go_round
        case rel => exact ⟨k + 1, by omega, by go_num, H⟩
        case measure => simp [intOf]; omega
      · have H := hF hq
        have t1 : decide ((s[k].toNat : Int) < 97) = true := by simp; omega
        have t2 : decide ((s[k].toNat : Int) < 48) = true := by simp; omega
        have t3 : ((s[k].toNat : Int) != 45) = true := by rw [bne_iff_ne]; omega
        clear hN hF hq
        go_wp2_with fail
        go_ret
        exact ⟨ret_bool H.out.symm, rfl⟩
      · have H := hF hq
        have t1 : decide ((s[k].toNat : Int) < 97) = true := by simp; omega
        have t2 : decide ((s[k].toNat : Int) < 48) = false := by simp; omega
        have t3 : ((s[k].toNat : Int) != 45) = true := by rw [bne_iff_ne]; omega
        have t4 : decide ((s[k].toNat : Int) > 57) = true := by simp; omega
        clear hN hF hq
        go_wp2_with fail
        go_ret
        exact ⟨ret_bool H.out.symm, rfl⟩
      · have H := hF hq
        have t1 : decide ((s[k].toNat : Int) < 97) = false := by simp; omega
        have t2 : decide ((s[k].toNat : Int) < 48) = false := by simp; omega
        have t3 : ((s[k].toNat : Int) != 45) = true := by rw [bne_iff_ne]; omega
        have t4 : decide ((s[k].toNat : Int) > 57) = true := by simp; omega
        have t5 : decide ((s[k].toNat : Int) > 122) = true := by simp; omega
        clear hN hF hq
        go_wp2_with fail
        go_ret
        exact ⟨ret_bool H.out.symm, rfl⟩
    · have h := HB.out.trans (nameL_len s (all_of (fun c => namedN c.toNat) s (fun j hj => Hall.out j (by omega) hj)))
      by_cases h1 : s.size = 0
      · have H : Hid (B = false) := Lib.hid (by rw [h, decide_eq_false (by omega)]; rfl)
        clear h Hall HB
        go_wp2_with fail
        go_ret
        exact ⟨ret_bool H.out.symm, rfl⟩
      · by_cases h2 : s.size ≤ 32
        · have H : Hid (B = true) := Lib.hid (by rw [h, decide_eq_true (show 1 ≤ s.size by omega), decide_eq_true h2]; rfl)
          have t1 : decide ((s.size : Int) ≤ 32) = true := by simp; omega
          have t2 : 1 ≤ s.size := by omega
          clear h Hall HB
          go_wp2_with fail
          go_ret
          exact ⟨ret_bool H.out.symm, rfl⟩
        · have H : Hid (B = false) := Lib.hid (by rw [h, decide_eq_false h2, Bool.and_false])
          have t1 : decide ((s.size : Int) ≤ 32) = false := by simp; omega
          have t2 : 1 ≤ s.size := by omega
          clear h Hall HB
          go_wp2_with fail
          go_ret
          exact ⟨ret_bool H.out.symm, rfl⟩
end Go.Proofs.YtiljjkdpjbffbaaGreatDoor
namespace Go.Proofs.YtiljjkdpjbffbaaGreatDoor
open Go.RowKit

def strN (v : Value) : Nat := match v with | .string s => s.size | _ => 0
theorem conv_one (W : World) (c : UInt8) : (convert 86 9 (.slice (some ⟨W.heap.size, 0, none⟩) 1 1)).run Tryz.prog (W.alloc (.cells #[.int .u8 (c.toNat : Int)] 5)) = .ok (.string ⟨#[c]⟩) (W.alloc (.cells #[.int .u8 (c.toNat : Int)] 5)) :=
  run_convert_bytes_back (P := Tryz.prog) (W.alloc (.cells #[.int .u8 (c.toNat : Int)] 5)) 86 9 5 ⟨W.heap.size, 0, none⟩ 1 [c] Tryz.underlying86 Tryz.underlying5 Tryz.underlying9 (fun j hj => by
    obtain rfl : j = 0 := by simp at hj; exact hj
    exact cell_one_new W (.int .u8 (c.toNat : Int)) 5 0 _ rfl)
theorem ref_smallB (c : UInt8) (w : World) : Calls Tryz.prog 87 #[.int .u8 (c.toNat : Int)] w fun e w' => e = .returned (.int .u8 ((smallB c).toNat : Int)) ∧ w' = w := by
  have h := ref_small c.toNat w c.toNat_lt
  have e : (smallB c).toNat = smallN c.toNat := by
    unfold smallB; rw [UInt8.toNat_ofNat']
    have := c.toNat_lt
    unfold smallN; split <;> omega
  rw [e]; exact h
theorem ahead_upto (s : ByteArray) (k : Nat) (hk : k ≤ s.size) (h : ∀ j, j < k → ∀ hj : j < s.size, s[j]'hj ≠ 58) (h2 : ∀ hk : k < s.size, s[k]'hk = 58) : (ahead s.data.toList).length = k := by
  have hsl := size_len s
  have e : s.data.toList = s.data.toList.take k ++ s.data.toList.drop k := (List.take_append_drop k _).symm
  have h1 : ∀ c ∈ s.data.toList.take k, (c != 58) = true := by
    intro c hc
    obtain ⟨j, hj, rfl⟩ := List.getElem_of_mem hc
    rw [List.length_take] at hj
    rw [List.getElem_take]
    have := h j (by omega) (by omega)
    rw [bne_iff_ne]; exact this
  unfold ahead
  rw [e, List.takeWhile_append_of_pos h1]
  by_cases hlt : k < s.size
  · rw [List.drop_eq_getElem_cons (by omega), List.takeWhile_cons_of_neg (by have := h2 hlt; rw [bne_iff_ne]; intro hn; exact hn this), List.append_nil, List.length_take]; omega
  · rw [List.drop_eq_nil_of_le (by omega)]; simp; omega
theorem bs_snoc (l : List UInt8) (c : UInt8) : bs l ++ ⟨#[c]⟩ = bs (l ++ [c]) := bs_cat l [c]
theorem map_take_succ (l : List UInt8) (i : Nat) (h : i < l.length) (f : UInt8 → UInt8) : (l.take (i + 1)).map f = (l.take i).map f ++ [f l[i]] := by
  rw [List.take_succ_eq_append_getElem h, List.map_append]; rfl
theorem drop_one (V : ByteArray) (h : 0 < V.size) : V.data.toList = V[0] :: (V.extract 1 V.size).data.toList := by
  rw [extract_bs, bs_data, show V.data.toList.take V.size = V.data.toList from List.take_of_length_le (by rw [size_len]; exact Nat.le_refl _)]
  have := List.drop_eq_getElem_cons (l := V.data.toList) (i := 0) (by rw [size_len]; exact h)
  rw [List.drop_zero] at this
  exact this
theorem drop_last (V : ByteArray) (m : Nat) (h : V.size = m + 1) : V.data.toList = (V.extract 0 m).data.toList ++ [V[m]] := by
  rw [extract_bs, bs_data, List.drop_zero]
  have := List.take_succ_eq_append_getElem (l := V.data.toList) (i := m) (by rw [size_len]; omega)
  rw [List.take_of_length_le (by rw [size_len]; omega)] at this
  exact this

theorem headGap_pos (V : ByteArray) (h : headGap V.data.toList = true) : ∃ h : 0 < V.size, gapB V[0] = true := by
  have hpos : 0 < V.size := by
    rcases Nat.eq_zero_or_pos V.size with h0 | h0
    · have : V.data.toList = [] := List.length_eq_zero_iff.1 (by rw [size_len]; exact h0)
      rw [this] at h; exact absurd h (by decide)
    · exact h0
  rw [drop_one V hpos] at h
  exact ⟨hpos, h⟩
theorem headGap_neg (V : ByteArray) (h : headGap V.data.toList = false) (hpos : 0 < V.size) : gapB V[0] = false := by
  rw [drop_one V hpos] at h; exact h
theorem lastGap_pos (V : ByteArray) (h : headGap V.data.toList.reverse = true) : ∃ m, V.size = m + 1 ∧ ∃ hl : m < V.size, gapB V[m] = true := by
  have hpos : 0 < V.size := by
    rcases Nat.eq_zero_or_pos V.size with h0 | h0
    · have : V.data.toList = [] := List.length_eq_zero_iff.1 (by rw [size_len]; exact h0)
      rw [this] at h; exact absurd h (by decide)
    · exact h0
  obtain ⟨m, hm⟩ : ∃ m, V.size = m + 1 := ⟨V.size - 1, by omega⟩
  refine ⟨m, hm, by omega, ?_⟩
  rw [drop_last V m hm, List.reverse_append] at h
  exact h
theorem lastGap_neg (V : ByteArray) (h : headGap V.data.toList.reverse = false) (m : Nat) (hm : V.size = m + 1) (hl : m < V.size) : gapB V[m] = false := by
  rw [drop_last V m hm, List.reverse_append] at h
  exact h
theorem last_step (U : ByteArray) (m : Nat) (hm : U.size = m + 1) (hl : m < U.size) (hg : gapB U[m] = true) (h1 : headGap U.data.toList = false) (T : List UInt8) (hT : Go.Lib.trimS U.data.toList gapL = T) :
    Go.Lib.trimS (U.extract 0 m).data.toList gapL = T ∧ headGap (U.extract 0 m).data.toList = false := by
  have e := drop_last U m hm
  constructor
  · rw [← hT, e, trimS_snoc _ _ hg]
  · rw [e] at h1
    cases hx : (U.extract 0 m).data.toList with
    | nil => rfl
    | cons a t => rw [hx] at h1; exact h1

set_option maxRecDepth 100000 in
set_option maxHeartbeats 4000000 in
theorem ref_fparse (s : ByteArray) (w : World) (hs : s.size ≤ 1000000) :
    Calls Tryz.prog 66 #[.string s] w fun e w' => e = .returned (.tuple #[.agg #[.string (bs (parseN s.data.toList)), .string (bs (parseV s.data.toList))], .int .i64 (parseE s.data.toList)]) ∧ Below w.heap.size w w' := by
  obtain ⟨l, hl⟩ : ∃ l, l = s.data.toList := ⟨_, rfl⟩
  have hsl : l.length = s.size := by rw [hl]; exact size_len s
  have HPl := Lib.hid (fun w => ref_fplain s w (by omega))
  rw [← hl] at HPl ⊢
  have HL := Lib.hid hl
  clear hl
  have H4 : Hid (parseOk l = false → parseN l = [] ∧ parseV l = [] ∧ parseE l = 4) := Lib.hid (fun h => by unfold parseN parseV parseE; rw [h]; exact ⟨rfl, rfl, rfl⟩)
  go_enter Tryz.func66, Tryz.ntmps66
  go_wp2_with fail
  go_loop [4] (fun j => ∃ k : Nat, k ≤ s.size ∧ j = .int .i64 k ∧ Hid (∀ j, j < k → ∀ hj : j < s.size, s[j]'hj ≠ 58)) (fun j => s.size - (intOf j).toNat)
  case atStart => exact ⟨0, by omega, rfl, Lib.hid (fun j hj => by omega)⟩
  case round =>
    obtain ⟨k, hk, rfl, Hall⟩ := hrel
    by_cases hlt : k < s.size
    · by_cases h58 : s[k] = 58
      · have ha : Hid ((ahead l).length = k) := Lib.hid (by rw [HL.out]; exact ahead_upto s k hk Hall.out (fun _ => h58))
        have t1 : ((s[k].toNat : Int) != 58) = false := by rw [h58]; rfl
        have t2 : ((k : Int) == (s.size : Int)) = false := by rw [beq_eq_false_iff_ne]; omega
        clear Hall
        cases hpl : (l.all (fun c => plainB c.toNat)) with
        | false =>
          have HP := Lib.hid (H4.out (by unfold parseOk plainAll; rw [hpl]; rfl))
          rw [hpl] at HPl
          clear hpl h58
          go_wp2_with (go_at_call 54; refine (HPl.out _).mono ?_; rintro e w' ⟨rfl, rfl⟩)
          refine ret_field (b := w.heap.size) (x := .string ⟨#[]⟩) (y := .string ⟨#[]⟩) rfl (load_ref _ _ _ _ _ (heap_alloc_new w _)) rfl rfl rfl ?_
          refine ⟨?_, (Below.refl _ _).alloc (Nat.le_refl _) _⟩
          rw [HP.out.1, HP.out.2.1, HP.out.2.2]; rfl
        | true =>
          rw [hpl] at HPl
          have HpA : Hid (plainAll l = true) := Lib.hid hpl
          clear hpl h58
          go_wp2_with (go_at_call 54; refine (HPl.out _).mono ?_; rintro e w' ⟨rfl, rfl⟩)
          have HN : Hid ((l.take k).map smallB = parseName l) := Lib.hid (by unfold parseName; rw [← ahead_take l, ha.out])
          have HFN := Lib.hid (fun w => ref_name (bs (parseName l)) w (by rw [← HN.out, bs_size, List.length_map, List.length_take]; omega))
          rw [bs_data] at HFN
          go_loopw [5, 6] (fun n j wr => ∃ i : Nat, i ≤ k ∧ j = .int .i64 i ∧ n = .string (bs ((l.take i).map smallB)) ∧ Below (w.alloc (.cells #[.string ⟨#[]⟩, .string ⟨#[]⟩] 59)).heap.size (w.alloc (.cells #[.string ⟨#[]⟩, .string ⟨#[]⟩] 59)) wr) (fun _ j _ => k - (intOf j).toNat)
          case atStart => exact ⟨0, by omega, rfl, rfl, Below.refl _ _⟩
          case round =>
            obtain ⟨i, hi, rfl, rfl, hb⟩ := hrel
            by_cases hik : i < k
            · have hil : i < s.size := by omega
              have hst : Hid (bs ((l.take i).map smallB) ++ ⟨#[smallB s[i]]⟩ = bs ((l.take (i + 1)).map smallB)) := Lib.hid (by
                have e : l[i]'(by omega) = s[i] := by have := HL.out; subst this; rfl
                rw [bs_snoc, map_take_succ l i (by omega), e])
              have hsz : (bs ((l.take i).map smallB)).size + 1 ≤ 9223372036854775807 := by rw [bs_size, List.length_map, List.length_take]; omega
              have hcv := conv_one wr (smallB s[i])
              have hone : (ByteArray.mk #[smallB s[i]]).size = 1 := rfl
              obtain ⟨X, hX⟩ : ∃ X, X = bs ((l.take i).map smallB) := ⟨_, rfl⟩
              rw [← hX] at hst hsz ⊢
              clear hX
              go_wp2_with (go_at_call 87; refine (ref_smallB _ _).mono ?_; rintro e w' ⟨rfl, rfl⟩)
              go_roundw
              case rel => exact ⟨i + 1, by omega, by go_num, by rw [hst.out], hb.trans (((Below.refl _ _).alloc (Nat.le_refl _) _).mono hb.size)⟩
              case measure => simp [intOf]; omega
            · obtain rfl : i = k := by omega
              have hbox := two_box hb
              obtain ⟨k0, k1, f0, f1⟩ := two_of hbox
              obtain ⟨N, hN⟩ : ∃ N, N = bs (parseName l) := ⟨_, rfl⟩
              rw [HN.out, ← hN]
              rw [← hN] at HFN
              have HNN := Lib.hid hN
              clear hN hik
              cases hnm : nameL (parseName l) with
              | false =>
                rw [hnm] at HFN
                have HP := Lib.hid (H4.out (by unfold parseOk; rw [hnm, Bool.and_false]))
                clear hnm
                go_wp2_with (go_at_call 53; refine (HFN.out _).mono ?_; rintro e w' ⟨rfl, rfl⟩)
                refine ret_field (b := w.heap.size) (x := .string ⟨#[]⟩) (y := .string ⟨#[]⟩) rfl (load_ref _ _ _ _ _ (two_set hbox _ _)) rfl rfl rfl ?_
                refine ⟨?_, two_below (((Below.refl _ _).alloc (Nat.le_refl _) _).trans (hb.mono (by simp))) _ (Nat.le_refl _) _ _⟩
                rw [HP.out.1, HP.out.2.1, HP.out.2.2]; rfl
              | true =>
                rw [hnm] at HFN
                have HP : Hid (parseN l = parseName l ∧ parseV l = parseVal l ∧ parseE l = 0) := Lib.hid (by
                  have : parseOk l = true := by unfold parseOk; rw [hnm, HpA.out, decide_eq_true (by rw [ha.out]; omega)]; rfl
                  unfold parseN parseV parseE; rw [this]; exact ⟨rfl, rfl, rfl⟩)
                have hV0 : Hid (Go.Lib.trimS (s.extract (i + 1) s.size).data.toList gapL = parseVal l) := Lib.hid (by
                  unfold parseVal
                  rw [extract_bs, bs_data, ← HL.out, List.take_of_length_le (by omega), ha.out])
                have hV1 : (s.extract (i + 1) s.size).size ≤ s.size := by rw [ByteArray.size_extract]; omega
                clear hnm
                go_wp2_with (go_at_call 53; refine (HFN.out _).mono ?_; rintro e w' ⟨rfl, rfl⟩)
                go_loop [7] (fun v => ∃ V : ByteArray, v = .string V ∧ V.size ≤ s.size ∧ Hid (Go.Lib.trimS V.data.toList gapL = parseVal l)) (fun v => strN v)
                case atStart => exact ⟨_, rfl, hV1, hV0⟩
                case round =>
                  obtain ⟨V, rfl, hVs, HV⟩ := hrel
                  by_cases hcont : headGap V.data.toList = true
                  · obtain ⟨hpos, hg⟩ := headGap_pos V hcont
                    have Hn : Hid (Go.Lib.trimS (V.extract 1 V.size).data.toList gapL = parseVal l) := Lib.hid (by
                      rw [← HV.out, drop_one V hpos, trimS_cons _ _ hg])
                    have hG := fun w => ref_gap V[0] w
                    rw [hg] at hG
                    have HG := Lib.hid hG
                    clear hG hg hcont hV0 hV1
                    go_wp2_with (go_at_call 55; refine (HG.out _).mono ?_; rintro e w' ⟨rfl, rfl⟩)
                    go_round
                    case rel => exact ⟨_, rfl, by rw [ByteArray.size_extract]; omega, Hn⟩
                    case measure => simp [strN]; omega
                  · have HG0 : Hid (headGap V.data.toList = false) := Lib.hid (by simpa using hcont)
                    clear hcont hV0 hV1
                    have hgn := fun h : 0 < V.size => headGap_neg V HG0.out h
                    by_cases hpos : 0 < V.size
                    case' pos =>
                      have hG := fun w => ref_gap V[0] w
                      rw [hgn hpos] at hG
                      have HG := Lib.hid hG
                      clear hG hgn
                      go_wp2_with (go_at_call 55; refine (HG.out _).mono ?_; rintro e w' ⟨rfl, rfl⟩)
                    case' neg =>
                      have t0 : decide ((V.size : Int) > 0) = false := decide_eq_false (by omega)
                      have HG := True.intro
                      clear hgn
                      go_wp2_with fail
                    all_goals
                      clear HG
                      go_loop [7] (fun v => ∃ V : ByteArray, v = .string V ∧ V.size ≤ s.size ∧ Hid (Go.Lib.trimS V.data.toList gapL = parseVal l) ∧ Hid (headGap V.data.toList = false)) (fun v => strN v)
                      case atStart => exact ⟨_, rfl, hVs, HV, HG0⟩
                      case round =>
                        clear HG0 HV hVs
                        obtain ⟨U, rfl, hUs, HU, HG1⟩ := hrel
                        by_cases hcont : headGap U.data.toList.reverse = true
                        · obtain ⟨m, hm, hlt2, hg⟩ := lastGap_pos U hcont
                          have Hn : Hid (Go.Lib.trimS (U.extract 0 m).data.toList gapL = parseVal l ∧ headGap (U.extract 0 m).data.toList = false) := Lib.hid (last_step U m hm hlt2 hg HG1.out (parseVal l) HU.out)
                          have hG := fun w => ref_gap U[m] w
                          rw [hg] at hG
                          have HG := Lib.hid hG
                          have hmi : ((U.size : Int) - 1) = (m : Int) := by omega
                          have hpos : 0 < U.size := by omega
                          have HM := Lib.hid hm
                          clear hG hg hcont hm
                          go_wp2_with (go_at_call 55; refine (HG.out _).mono ?_; rintro e w' ⟨rfl, rfl⟩)
                          go_round
                          case rel => exact ⟨_, rfl, by rw [ByteArray.size_extract]; omega, Lib.hid Hn.out.1, Lib.hid Hn.out.2⟩
                          case measure => simp [strN]; omega
                        · have HF : Hid (bs (parseVal l) = U) := Lib.hid (by rw [← HU.out, trimS_done _ HG1.out (by simpa using hcont), bs_self])
                          have hgn := lastGap_neg U (by simpa using hcont)
                          clear hcont
                          by_cases hpos : 0 < U.size
                          case' pos =>
                            obtain ⟨m, hm⟩ : ∃ m, U.size = m + 1 := ⟨U.size - 1, by omega⟩
                            have hlt2 : m < U.size := by omega
                            have hG := fun w => ref_gap U[m] w
                            rw [hgn m hm hlt2] at hG
                            have HG := Lib.hid hG
                            have hmi : ((U.size : Int) - 1) = (m : Int) := by omega
                            have HM := Lib.hid hm
                            clear hG hgn hm
                            go_wp2_with (go_at_call 55; refine (HG.out _).mono ?_; rintro e w' ⟨rfl, rfl⟩)
                          case' neg =>
                            have t0 : decide ((U.size : Int) > 0) = false := decide_eq_false (by omega)
                            clear hgn
                            go_wp2_with fail
                          all_goals
                            refine ret_field (b := w.heap.size) (x := .string N) (y := .string U) rfl (load_ref _ _ _ _ _ (two_set hbox _ _)) rfl rfl rfl ?_
                            refine ⟨?_, two_below (((Below.refl _ _).alloc (Nat.le_refl _) _).trans (hb.mono (by simp))) _ (Nat.le_refl _) _ _⟩
                            rw [HP.out.1, HP.out.2.1, HP.out.2.2, HF.out, ← HNN.out]; rfl
      · have t1 : ((s[k].toNat : Int) != 58) = true := by
          rw [bne_iff_ne]; intro e; exact h58 (UInt8.toNat_inj.1 (by show _ = 58; omega))
        have H : Hid (∀ j, j < k + 1 → ∀ hj : j < s.size, s[j]'hj ≠ 58) := Lib.hid (fun j hj hjs => by
          by_cases e : j = k
          · subst e; exact h58
          · exact Hall.out j (by omega) hjs)
        clear Hall h58
        go_wp2_with fail
        go_round
        case rel => exact ⟨k + 1, by omega, by go_num, H⟩
        case measure => simp [intOf]; omega
    · have ha : (ahead l).length = k := by rw [HL.out]; exact ahead_upto s k hk Hall.out (fun h => absurd h hlt)
      have hks : k = s.size := by omega
      have HP := Lib.hid (H4.out (by unfold parseOk; rw [decide_eq_false (by omega), Bool.and_false, Bool.false_and]))
      clear ha Hall
      subst hks
      generalize hpb : (l.all (fun c => plainB c.toNat)) = pb at HPl
      clear hpb
      cases pb
      all_goals
        go_wp2_with (go_at_call 54; refine (HPl.out _).mono ?_; rintro e w' ⟨rfl, rfl⟩)
        refine ret_field (b := w.heap.size) (x := .string ⟨#[]⟩) (y := .string ⟨#[]⟩) rfl (load_ref _ _ _ _ _ (heap_alloc_new w _)) rfl rfl rfl ?_
        refine ⟨?_, (Below.refl _ _).alloc (Nat.le_refl _) _⟩
        rw [HP.out.1, HP.out.2.1, HP.out.2.2]; rfl
end Go.Proofs.YtiljjkdpjbffbaaGreatDoor
namespace Go.Proofs.YtiljjkdpjbffbaaGreatDoor
open Go.RowKit

theorem info_rfield : (Tryz.prog.info? 59).map (fun i => (i.zero, i.size, i.bytes)) = some (some (.agg #[.string ByteArray.empty, .string ByteArray.empty]), 2, 32) := by kernel_rfl
theorem append_rfield {ops : Array Oper} {rest : List Oper} {o : Oper} {a : Act} {Q : Exit → Act → World → Prop} (w0 : World) (hgd : o.guard = none) (s x : Operand)
    (ho : o.op = .call { callee := .builtin .append, args := #[s, x], argTypes := #[22, 22] })
    (base : Nat) (v : Value) (fs : List (List UInt8 × List UInt8)) (hs : a.eval s = v) (hown : w0.ownsRow base 59 2 v fs.length (fcells fs))
    (p q : ByteArray) (f : List UInt8 × List UInt8) (hp : p = bs f.1) (hq : q = bs f.2) (H : Nat) (hH : w0.heap.size = H) (hx : a.eval x = .slice (some ⟨H, 0, none⟩) 1 1) (hn : fs.length < 2147483648) (hbase : base ≤ w0.heap.size)
    (h : ∀ v' w', w'.ownsRow base 59 2 v' (fs ++ [f]).length (fcells (fs ++ [f])) → w0.grownBy w' v.ownBlock → v' ≠ .slice none 0 0 → wpList Tryz.prog ops Q rest (a.put o.dst v') w') :
    wpList Tryz.prog ops Q (o :: rest) a (w0.alloc (.cells #[.string p, .string q] 59)) := by
  obtain ⟨i0, hi, hz0, hz1, hz2⟩ := info_parts info_rfield
  subst hp hq hH
  refine wpList_append_own _ hgd s x 22 ho base 59 i0 _ 2 32 Tryz.underlying22 hi hz0 hz1 hz2 rfl (by decide) v fs.length (fcells fs) hs (hown.alloc _) ⟨w0.heap.size, 0, none⟩ 1 1 [.string (bs f.1), .string (bs f.2)] hx rfl (cell_two_new w0 _ _ _) (by simp [Value.oneCell']) (by unfold maxLen; omega) (by omega) (by simp; omega) ?_
  intro v' w' h2 h3 h4
  refine h v' w' ?_ ?_ (fun e => by have := (h4.1 e).2; omega)
  · rw [List.length_append, fcells_append]; exact h2
  · exact ⟨h3.os, h3.tape, h3.output, Nat.le_trans (by simp) h3.size, fun k hk hne => (h3.block k (by simp; omega) hne).trans (heap_alloc_old w0 _ hk)⟩
def FieldsPost (ls : List (List UInt8)) (w : World) (e : Ending) (w' : World) : Prop :=
  ∃ v, e = .returned (.tuple #[v, .int .i64 (fldE ls : Nat)]) ∧ (∃ a c n, v = .slice a n c) ∧ (fldE ls = 0 → HoldsF w' v (fldL ls)) ∧ Below w.heap.size w w'
set_option maxRecDepth 100000 in
set_option maxHeartbeats 4000000 in
theorem ref_fields (w : World) (v : Value) (xs : List (List UInt8)) (hv : HoldsS w v xs) (hlen : xs.length ≤ 1000000) (hx : ∀ x ∈ xs, x.length ≤ 1000000) :
    Calls Tryz.prog 36 #[v] w (FieldsPost xs w) := by
  obtain ⟨a, c, rfl, hc, hh⟩ := hv
  have HC := Lib.hid hh
  have HX := Lib.hid hx
  clear hh hx
  go_enter Tryz.func36, Tryz.ntmps36
  go_wp2_with fail
  go_loopw [4, 5] (fun u i wr => ∃ k : Nat, k ≤ xs.length ∧ i = .int .i64 k ∧ wr.ownsRow w.heap.size 59 2 u (fldL (xs.take k)).length (fcells (fldL (xs.take k))) ∧ Below w.heap.size w wr ∧ Hid (∀ j (hj : j < xs.length), j < k → parseE xs[j] = 0)) (fun _ i _ => xs.length - (intOf i).toNat)
  case atStart => exact ⟨0, by omega, rfl, by rw [List.take_zero]; exact World.ownsRow_nil _ _ _ _, Below.refl _ _, Lib.hid (fun j hj h => absurd h (Nat.not_lt_zero _))⟩
  case round =>
    obtain ⟨k, hk, rfl, hown, hb, HK⟩ := hrel
    by_cases hlt : k < xs.length
    · obtain ⟨b, o, rfl, hbl, hcell⟩ := HC.out (fun e => by rw [e] at hlt; exact absurd hlt (Nat.not_lt_zero _))
      have c0 := (hb.cell (p := ⟨b, o + k, none⟩) hbl).trans (hcell k hlt)
      obtain ⟨S, hS⟩ : ∃ S, bs xs[k] = S := ⟨_, rfl⟩
      have hSd : S.data.toList = xs[k] := by rw [← hS, bs_data]
      have hSs : S.size ≤ 1000000 := by rw [← hS, bs_size]; exact HX.out _ (List.getElem_mem hlt)
      rw [hS] at c0
      have HN := Lib.hid (fun w => ref_fparse S w hSs)
      rw [hSd] at HN
      have hkl : (fldL (xs.take k)).length < 2147483648 := by unfold fldL; rw [List.length_map, List.length_take]; omega
      have tl : decide ((k : Int) < (xs.length : Int)) = true := decide_eq_true (by omega)
      clear hcell hS hSd
      by_cases hz : parseE xs[k] = 0
      · rw [hz] at HN
        have HK2 : Hid (∀ j (hj : j < xs.length), j < k + 1 → parseE xs[j] = 0) := Lib.hid (fun j hj h => by
          by_cases e : j = k
          · subst e; exact hz
          · exact HK.out j hj (by omega))
        have hstep : Hid (fldL (xs.take (k + 1)) = fldL (xs.take k) ++ [(parseN xs[k], parseV xs[k])]) := Lib.hid (fldL_snoc xs k hlt)
        clear hz HK
        go_wp2_with fail
        refine (HN.out _).mono ?_
        rintro e w1 ⟨rfl, hb1⟩
        have hown1 : w1.ownsRow w.heap.size 59 2 _ (fldL (xs.take k)).length (fcells (fldL (xs.take k))) := own_keep hown hb1
        have hb2 := bstep hb hb1
        clear hown c0
        have hown2 := own_keep hown1 ((Below.refl w1.heap.size w1).alloc (Nat.le_refl _) (.cells #[.string (bs (parseN xs[k])), .string (bs (parseV xs[k]))] 59))
        have hb3 := bstep hb2 ((Below.refl w1.heap.size w1).alloc (Nat.le_refl _) (.cells #[.string (bs (parseN xs[k])), .string (bs (parseV xs[k]))] 59))
        obtain ⟨j0, j1⟩ := box2 w1 (.string (bs (parseN xs[k]))) (.string (bs (parseV xs[k]))) 59
        go_wp2_with (at_builtin; go_loud (refine append_rfield (w1.alloc (.cells #[.string (bs (parseN xs[k])), .string (bs (parseV xs[k]))] 59)) (by rfl) _ _ (by rfl) w.heap.size _ (fldL (xs.take k)) (by rfl) hown2 (bs (parseN xs[k])) (bs (parseV xs[k])) (parseN xs[k], parseV xs[k]) rfl rfl (w1.heap.size + 1) (by simp) (by rfl) hkl hb3.size ?_); intro v' w2 hown3 hg3 hne3)
        go_roundw
        case rel => exact ⟨k + 1, by omega, by go_num, by rw [hstep.out]; exact hown3, below_ownF hb3 hg3 hown2 (Nat.le_refl _) hb3.size, HK2⟩
        case measure => simp [intOf]; omega
      · have HR : Hid (fldE xs = parseE xs[k]) := Lib.hid (fldE_at xs k hlt HK.out hz)
        have tz : ((parseE xs[k] : Int) != 0) = true := by rw [bne_iff_ne]; omega
        have hz2 : Hid (parseE xs[k] ≠ 0) := Lib.hid hz
        clear hz HK
        go_wp2_with fail
        refine (HN.out _).mono ?_
        rintro e w1 ⟨rfl, hb1⟩
        have hb2 := bstep hb hb1
        clear c0 hown
        go_wp2_with fail
        go_ret2
        exact ⟨_, by rw [HR.out]; rfl, ⟨_, _, _, rfl⟩, fun h => absurd (HR.out ▸ h) hz2.out, hb2.alloc (by have := hb2.size; omega) _⟩
    · have hall : xs.take k = xs := List.take_of_length_le (by omega)
      have HR : Hid (fldE xs = 0) := Lib.hid (fldE_all xs (fun j hj => HK.out j hj (by omega)))
      rw [hall] at hown
      obtain ⟨av, cv, rfl⟩ := slice_of_own hown
      have tl : decide ((k : Int) < (xs.length : Int)) = false := decide_eq_false (by omega)
      clear hall HK
      go_wp2_with fail
      go_ret2
      exact ⟨_, by rw [HR.out]; rfl, ⟨_, _, _, rfl⟩, fun _ => HoldsF.of_own hown, hb⟩
end Go.Proofs.YtiljjkdpjbffbaaGreatDoor
namespace Go.Proofs.YtiljjkdpjbffbaaGreatDoor
open Go.RowKit

theorem res_block {w w1 : World} {x y z u : Value} {t : TypeId} (hb : Below (w.alloc (.cells #[x, y, z, u] t)).heap.size (w.alloc (.cells #[x, y, z, u] t)) w1) : w1.heap[w.heap.size]? = some (.cells #[x, y, z, u] t (0, 0)) :=
  (hb.block _ (by simp)).trans (heap_alloc_new w _)
theorem get_rk (v : Value) (fs : List (List UInt8 × List UInt8)) (n : ByteArray) (k : List UInt8) (hk : n.data.toList = k) (w : World) (hv : HoldsF w v fs) (hlen : fs.length ≤ 1000000) :
    Calls Tryz.prog 37 #[v, .string n] w fun e w' => e = .returned (.tuple #[.string (bs (getS fs k)), .int .i64 (getE fs k)]) ∧ w' = w := by
  subst hk; exact ref_get v fs n w hv hlen
/-- the tail of a slice of texts -/
theorem HoldsS.tail {w : World} {b o c : Nat} {x : List UInt8} {xs : List (List UInt8)} (h : HoldsS w (.slice (some ⟨b, o, none⟩) (x :: xs).length c) (x :: xs)) (hc : 1 < c) : HoldsS w (.slice (some ⟨b, o + 1, none⟩) xs.length (c - 1)) xs := by
  obtain ⟨a, c', hv, hcc, hh⟩ := h
  injection hv with h1 h2 h3
  subst h1 h3
  obtain ⟨b', o', hbo, hbl, hcell⟩ := hh (by simp)
  injection hbo with hbo
  injection hbo with h4 h5
  subst h4 h5
  refine ⟨_, _, rfl, by simp at hcc; omega, fun _ => ⟨b, o + 1, rfl, hbl, fun j hj => ?_⟩⟩
  have := hcell (j + 1) (by simp; omega)
  rw [show o + 1 + j = o + (j + 1) by omega]; exact this
theorem lnE_split (ls : List (List UInt8)) : lnE ls = if firstL ls ≠ 0 then firstL ls else if fldE ls.tail ≠ 0 then fldE ls.tail else if getE (fldL ls.tail) hostK ≠ 0 then getE (fldL ls.tail) hostK else if hostB (getS (fldL ls.tail) hostK) = false then 2 else if getE (fldL ls.tail) rangeK ≠ 0 then getE (fldL ls.tail) rangeK else askedE (getS (fldL ls.tail) rangeK) := by
  unfold lnE whoE whatE
  by_cases h1 : firstL ls ≠ 0
  · rw [if_pos h1, if_pos h1]
  · rw [if_neg h1, if_neg h1]
    by_cases h2 : fldE ls.tail ≠ 0
    · rw [if_pos h2, if_pos h2]
    · rw [if_neg h2, if_neg h2]
      by_cases h3 : getE (fldL ls.tail) hostK ≠ 0
      · rw [if_pos h3, if_pos h3, if_pos h3]
      · rw [if_neg h3, if_neg h3]
        by_cases h4 : hostB (getS (fldL ls.tail) hostK) = false
        · rw [if_pos h4, if_pos h4, if_pos (by decide)]
        · rw [if_neg h4, if_neg h4, if_neg (by decide)]
end Go.Proofs.YtiljjkdpjbffbaaGreatDoor
namespace Go.Proofs.YtiljjkdpjbffbaaGreatDoor
open Go.RowKit

theorem dig0 : digL 0 = [48] := by
  unfold digL; rw [if_neg (by decide)]; exact Go.Lib.decDigits_one (by decide)
theorem dig9 : digL 9 = [57] := by
  unfold digL; rw [if_neg (by decide)]; exact Go.Lib.decDigits_one (by decide)
theorem ask09 : askL 0 9 = [98, 121, 116, 101, 115, 61, 48, 45, 57] := by
  unfold askL textR; rw [dig0, dig9]; rfl
theorem qw1 : aPrint (ByteArray.mk #[47, 97]).data.toList (ByteArray.mk #[104]).data.toList 0 9 = (ByteArray.mk #[71, 69, 84, 32, 47, 97, 32, 72, 84, 84, 80, 47, 49, 46, 49, 13, 10, 72, 111, 115, 116, 58, 32, 104, 13, 10, 82, 97, 110, 103, 101, 58, 32, 98, 121, 116, 101, 115, 61, 48, 45, 57, 13, 10, 13, 10]).data.toList ∧ aErr (ByteArray.mk #[47, 97]).data.toList (ByteArray.mk #[104]).data.toList 0 9 = 0 := by
  have h : aErr (ByteArray.mk #[47, 97]).data.toList (ByteArray.mk #[104]).data.toList 0 9 = 0 := by decide +kernel
  refine ⟨?_, h⟩
  unfold aPrint
  rw [if_pos h]
  unfold reqL line3
  rw [ask09]
  decide +kernel
theorem qw2 : askPath ((ByteArray.mk #[71, 69, 84, 32, 47, 97, 32, 72, 84, 84, 80, 47, 49, 46, 49, 13, 10, 72, 111, 115, 116, 58, 32, 104, 13, 10, 82, 97, 110, 103, 101, 58, 32, 98, 121, 116, 101, 115, 61, 48, 45, 57, 13, 10, 13, 10]) ++ ⟨#[120]⟩) = (ByteArray.mk #[47, 97]).data.toList ∧ askHost ((ByteArray.mk #[71, 69, 84, 32, 47, 97, 32, 72, 84, 84, 80, 47, 49, 46, 49, 13, 10, 72, 111, 115, 116, 58, 32, 104, 13, 10, 82, 97, 110, 103, 101, 58, 32, 98, 121, 116, 101, 115, 61, 48, 45, 57, 13, 10, 13, 10]) ++ ⟨#[120]⟩) = (ByteArray.mk #[104]).data.toList ∧ askA ((ByteArray.mk #[71, 69, 84, 32, 47, 97, 32, 72, 84, 84, 80, 47, 49, 46, 49, 13, 10, 72, 111, 115, 116, 58, 32, 104, 13, 10, 82, 97, 110, 103, 101, 58, 32, 98, 121, 116, 101, 115, 61, 48, 45, 57, 13, 10, 13, 10]) ++ ⟨#[120]⟩) = 0 ∧ askB ((ByteArray.mk #[71, 69, 84, 32, 47, 97, 32, 72, 84, 84, 80, 47, 49, 46, 49, 13, 10, 72, 111, 115, 116, 58, 32, 104, 13, 10, 82, 97, 110, 103, 101, 58, 32, 98, 121, 116, 101, 115, 61, 48, 45, 57, 13, 10, 13, 10]) ++ ⟨#[120]⟩) = 9 ∧ askN ((ByteArray.mk #[71, 69, 84, 32, 47, 97, 32, 72, 84, 84, 80, 47, 49, 46, 49, 13, 10, 72, 111, 115, 116, 58, 32, 104, 13, 10, 82, 97, 110, 103, 101, 58, 32, 98, 121, 116, 101, 115, 61, 48, 45, 57, 13, 10, 13, 10]) ++ ⟨#[120]⟩) = 46 ∧ askE ((ByteArray.mk #[71, 69, 84, 32, 47, 97, 32, 72, 84, 84, 80, 47, 49, 46, 49, 13, 10, 72, 111, 115, 116, 58, 32, 104, 13, 10, 82, 97, 110, 103, 101, 58, 32, 98, 121, 116, 101, 115, 61, 48, 45, 57, 13, 10, 13, 10]) ++ ⟨#[120]⟩) = 0 := by decide +kernel
theorem qw3 : askPath (ByteArray.mk #[80, 85, 84, 32, 47, 97, 32, 72, 84, 84, 80, 47, 49, 46, 49, 13, 10, 13, 10]) = (ByteArray.mk #[]).data.toList ∧ askHost (ByteArray.mk #[80, 85, 84, 32, 47, 97, 32, 72, 84, 84, 80, 47, 49, 46, 49, 13, 10, 13, 10]) = (ByteArray.mk #[]).data.toList ∧ askA (ByteArray.mk #[80, 85, 84, 32, 47, 97, 32, 72, 84, 84, 80, 47, 49, 46, 49, 13, 10, 13, 10]) = 0 ∧ askB (ByteArray.mk #[80, 85, 84, 32, 47, 97, 32, 72, 84, 84, 80, 47, 49, 46, 49, 13, 10, 13, 10]) = 0 ∧ askN (ByteArray.mk #[80, 85, 84, 32, 47, 97, 32, 72, 84, 84, 80, 47, 49, 46, 49, 13, 10, 13, 10]) = 0 ∧ askE (ByteArray.mk #[80, 85, 84, 32, 47, 97, 32, 72, 84, 84, 80, 47, 49, 46, 49, 13, 10, 13, 10]) = 14 := by decide +kernel
theorem qw4 : askPath (ByteArray.mk #[71, 69, 84, 32, 47, 97, 32, 72, 84, 84, 80, 47, 49, 46, 49, 13, 10, 13, 10]) = (ByteArray.mk #[]).data.toList ∧ askHost (ByteArray.mk #[71, 69, 84, 32, 47, 97, 32, 72, 84, 84, 80, 47, 49, 46, 49, 13, 10, 13, 10]) = (ByteArray.mk #[]).data.toList ∧ askA (ByteArray.mk #[71, 69, 84, 32, 47, 97, 32, 72, 84, 84, 80, 47, 49, 46, 49, 13, 10, 13, 10]) = 0 ∧ askB (ByteArray.mk #[71, 69, 84, 32, 47, 97, 32, 72, 84, 84, 80, 47, 49, 46, 49, 13, 10, 13, 10]) = 0 ∧ askN (ByteArray.mk #[71, 69, 84, 32, 47, 97, 32, 72, 84, 84, 80, 47, 49, 46, 49, 13, 10, 13, 10]) = 0 ∧ askE (ByteArray.mk #[71, 69, 84, 32, 47, 97, 32, 72, 84, 84, 80, 47, 49, 46, 49, 13, 10, 13, 10]) = 6 := by decide +kernel
theorem qw5 : aErr (ByteArray.mk #[97]).data.toList (ByteArray.mk #[104]).data.toList 0 0 = 2 := by decide +kernel
def Four (w : World) (b : Nat) (x y z u : Value) : Prop := b < w.heap.size ∧ w.cell? ⟨b, 0, none⟩ = some x ∧ w.cell? ⟨b, 1, none⟩ = some y ∧ w.cell? ⟨b, 2, none⟩ = some z ∧ w.cell? ⟨b, 3, none⟩ = some u
theorem Four.below {w w' : World} {b : Nat} {x y z u : Value} (h : Four w b x y z u) (hb : Below w.heap.size w w') : Four w' b x y z u :=
  ⟨Nat.lt_of_lt_of_le h.1 hb.size, (hb.cell (p := ⟨b, 0, none⟩) h.1).trans h.2.1, (hb.cell (p := ⟨b, 1, none⟩) h.1).trans h.2.2.1, (hb.cell (p := ⟨b, 2, none⟩) h.1).trans h.2.2.2.1, (hb.cell (p := ⟨b, 3, none⟩) h.1).trans h.2.2.2.2⟩
theorem Four.alloc {w : World} {b : Nat} {x y z u : Value} (h : Four w b x y z u) (o : Obj) : Four (w.alloc o) b x y z u := h.below ((Below.refl _ _).alloc (Nat.le_refl _) o)
theorem Four.new (w : World) (x y z u : Value) (t : TypeId) : Four (w.alloc (.cells #[x, y, z, u] t)) w.heap.size x y z u := ⟨by simp, box4 w x y z u t⟩
end Go.Proofs.YtiljjkdpjbffbaaGreatDoor
namespace Go.Proofs.YtiljjkdpjbffbaaGreatDoor
open Go.RowKit

theorem aparse_vals (s : ByteArray) : ∃ (P H : ByteArray) (a b n : Int) (e : Nat), askV s = .tuple #[.agg #[.string P, .string H, .int .i64 a, .int .i64 b], .int .i64 n, .int .i64 (e : Nat)] := ⟨_, _, _, _, _, _, rfl⟩
theorem cells_of {W : World} {b : Nat} {x y z u : Value} (h : Four W b x y z u) : (∀ p : BelowOf W, p.world.cell? ⟨b, 0, none⟩ = some x) ∧ (∀ p : BelowOf W, p.world.cell? ⟨b, 1, none⟩ = some y) ∧ (∀ p : BelowOf W, p.world.cell? ⟨b, 2, none⟩ = some z) ∧ (∀ p : BelowOf W, p.world.cell? ⟨b, 3, none⟩ = some u) :=
  ⟨fun p => cell_of p h.1 h.2.1, fun p => cell_of p h.1 h.2.2.1, fun p => cell_of p h.1 h.2.2.2.1, fun p => cell_of p h.1 h.2.2.2.2⟩
end Go.Proofs.YtiljjkdpjbffbaaGreatDoor
