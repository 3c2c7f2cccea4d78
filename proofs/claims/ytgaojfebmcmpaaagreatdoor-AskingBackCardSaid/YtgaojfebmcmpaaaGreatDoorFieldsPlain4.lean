/- Plain laws: a printed field is parsed as it was; a parsed one is printed again (no program in sight). -/
import Derived.Test.YtgaojfebmcmpaaaGreatDoorFieldsPlain3
namespace Go.Proofs.YtgaojfebmcmpaaaGreatDoor
open Go.RowKit

theorem ahead_of (m t : List UInt8) (h : ∀ c ∈ m, c ≠ 58) : ahead (m ++ 58 :: t) = m := by
  unfold ahead
  rw [List.takeWhile_append_of_pos (fun c hc => by simpa using h c hc), List.takeWhile_cons_of_neg (by decide), List.append_nil]
theorem parse_of (m n v t : List UInt8) (h : ∀ c ∈ m, c ≠ 58) (hm : plainAll m = true) (ht : plainAll t = true) (hn : nameL n = true) (e : m.map smallB = n) (hv : Go.Lib.trimS t gapL = v) :
    parseN (m ++ 58 :: t) = n ∧ parseV (m ++ 58 :: t) = v ∧ parseE (m ++ 58 :: t) = 0 := by
  have ha := ahead_of m t h
  have hname : parseName (m ++ 58 :: t) = n := by unfold parseName; rw [ha, e]
  have hval : parseVal (m ++ 58 :: t) = v := by
    unfold parseVal; rw [ha]
    rw [show (m ++ 58 :: t).drop (m.length + 1) = t by
      rw [← List.drop_drop, List.drop_left]; rfl]
    exact hv
  have hok : parseOk (m ++ 58 :: t) = true := by
    unfold parseOk
    rw [hname, hn, ha]
    have hp : plainAll (m ++ 58 :: t) = true := by
      unfold plainAll at hm ht ⊢
      rw [List.all_append, hm, List.all_cons, ht]; rfl
    rw [hp, decide_eq_true (by simp)]; rfl
  unfold parseN parseV parseE
  rw [hok]
  exact ⟨hname, hval, rfl⟩

theorem namedN_bd (n : Nat) (h : namedN n = true) : (97 ≤ n ∧ n ≤ 122) ∨ (48 ≤ n ∧ n ≤ 57) ∨ n = 45 := by
  rcases named_cases n with ⟨a, b, _⟩ | ⟨a, b, _⟩ | ⟨a, _⟩ | ⟨_, _, c⟩ | ⟨_, _, c⟩ | ⟨_, c⟩
  · exact .inl ⟨a, b⟩
  · exact .inr (.inl ⟨a, b⟩)
  · exact .inr (.inr a)
  · rw [c] at h; exact absurd h (by decide)
  · rw [c] at h; exact absurd h (by decide)
  · rw [c] at h; exact absurd h (by decide)
theorem letN_iff (n : Nat) : letN n = true ↔ 97 ≤ n ∧ n ≤ 122 := by
  unfold letN; simp
theorem titN_named (b : Bool) (n : Nat) (h : namedN n = true) : titN b n = n ∨ (97 ≤ n ∧ n ≤ 122 ∧ titN b n = n - 32) := by
  unfold titN
  split
  · rename_i hb
    simp only [Bool.and_eq_true] at hb
    have := (letN_iff n).1 hb.2
    exact .inr ⟨this.1, this.2, rfl⟩
  · exact .inl rfl
theorem tit_byte (b : Bool) (c : UInt8) (h : namedN c.toNat = true) : (UInt8.ofNat (titN b c.toNat)).toNat = titN b c.toNat := by
  rw [UInt8.toNat_ofNat']
  have := namedN_bd _ h
  rcases titN_named b _ h with e | ⟨_, _, e⟩ <;> rw [e] <;> omega
theorem tit_small (b : Bool) (c : UInt8) (h : namedN c.toNat = true) : smallB (UInt8.ofNat (titN b c.toNat)) = c := by
  unfold smallB
  rw [tit_byte b c h]
  have hb := namedN_bd _ h
  apply UInt8.toNat_inj.1
  rw [UInt8.toNat_ofNat']
  unfold smallN
  rcases titN_named b _ h with e | ⟨a1, a2, e⟩
  · rw [e, if_neg (by omega)]; omega
  · rw [e, if_pos (by omega)]; omega
theorem plainB_of (n : Nat) (h1 : 32 ≤ n) (h2 : n ≤ 126) : plainB n = true := by
  unfold plainB; rw [decide_eq_true h1, decide_eq_true h2]; simp
theorem tit_plain (b : Bool) (c : UInt8) (h : namedN c.toNat = true) : plainB (UInt8.ofNat (titN b c.toNat)).toNat = true ∧ UInt8.ofNat (titN b c.toNat) ≠ 58 := by
  rw [tit_byte b c h]
  have hb := namedN_bd _ h
  rcases titN_named b _ h with e | ⟨a1, a2, e⟩
  · refine ⟨by rw [e]; exact plainB_of _ (by omega) (by omega), fun he => ?_⟩
    have := congrArg UInt8.toNat he
    rw [tit_byte b c h, e] at this
    have : (58 : UInt8).toNat = 58 := rfl
    omega
  · refine ⟨by rw [e]; exact plainB_of _ (by omega) (by omega), fun he => ?_⟩
    have := congrArg UInt8.toNat he
    rw [tit_byte b c h, e] at this
    have : (58 : UInt8).toNat = 58 := rfl
    omega
theorem titL_small (b : Bool) (l : List UInt8) (h : ∀ c ∈ l, namedN c.toNat = true) : (titL b l).map smallB = l := by
  induction l generalizing b with
  | nil => rfl
  | cons c t ih =>
    show smallB _ :: (titL _ t).map smallB = c :: t
    rw [tit_small b c (h c (List.mem_cons_self ..)), ih _ (fun d hd => h d (List.mem_cons_of_mem _ hd))]
theorem titL_plain (b : Bool) (l : List UInt8) (h : ∀ c ∈ l, namedN c.toNat = true) : plainAll (titL b l) = true ∧ ∀ c ∈ titL b l, c ≠ 58 := by
  induction l generalizing b with
  | nil => exact ⟨rfl, fun c hc => by simp [titL] at hc⟩
  | cons c t ih =>
    have h1 := tit_plain b c (h c (List.mem_cons_self ..))
    have h2 := ih (stB c) (fun d hd => h d (List.mem_cons_of_mem _ hd))
    constructor
    · show plainAll (_ :: _) = true
      unfold plainAll at h2 ⊢
      rw [List.all_cons, h1.1, h2.1]; rfl
    · intro d hd
      change d ∈ UInt8.ofNat (titN b c.toNat) :: titL (stB c) t at hd
      rcases List.mem_cons.1 hd with rfl | hd
      · exact h1.2
      · exact h2.2 d hd
theorem nameL_all (n : List UInt8) (h : nameL n = true) : (∀ c ∈ n, namedN c.toNat = true) ∧ n ≠ [] ∧ n.length ≤ 32 := by
  unfold nameL at h
  simp only [Bool.and_eq_true, Bool.not_eq_true', decide_eq_true_eq, List.all_eq_true] at h
  exact ⟨h.2, fun e => by rw [e] at h; exact absurd h.1.1 (by decide), h.1.2⟩
theorem printOk_and (n v : List UInt8) (h : printOk n v = true) : nameL n = true ∧ plainAll v = true ∧ noGap v = true := by
  unfold printOk at h; simp only [Bool.and_eq_true] at h; exact ⟨h.1.1, h.1.2, h.2⟩
theorem fieldE_zero (n v : List UInt8) (h : fieldE n v = 0) : printOk n v = true ∧ (printL n v).length ≤ 256 := by
  unfold fieldE at h
  split at h
  · split at h
    · exact absurd h (by decide)
    · exact ⟨by assumption, by omega⟩
  · exact absurd h (by decide)
theorem tailV_plain (v : List UInt8) (h : plainAll v = true) : plainAll (tailV v) = true := by
  unfold tailV; split
  · rfl
  · unfold plainAll at h ⊢; rw [List.all_cons, h]; rfl
theorem trimS_tail (v : List UInt8) (h : noGap v = true) : Go.Lib.trimS (tailV v) gapL = v := by
  unfold tailV
  split
  · rename_i he; rw [List.isEmpty_iff] at he; rw [he]; rfl
  · rw [trimS_cons 32 v (by decide)]; exact (trimS_iff v).2 h
/-- a printed field, parsed -/
theorem print_parse (n v : List UInt8) (h : printOk n v = true) : parseN (printL n v) = n ∧ parseV (printL n v) = v ∧ parseE (printL n v) = 0 := by
  obtain ⟨h1, h2, h3⟩ := printOk_and n v h
  obtain ⟨ha, hne, hlen⟩ := nameL_all n h1
  obtain ⟨p1, p2⟩ := titL_plain true n ha
  exact parse_of _ n v _ p2 p1 (tailV_plain v h2) h1 (titL_small true n ha) (trimS_tail v h3)
theorem print_put (n v : List UInt8) (h : fieldE n v = 0) : putErr (printL n v) = 0 := by
  obtain ⟨hk, hl⟩ := fieldE_zero n v h
  obtain ⟨h1, h2, h3⟩ := printOk_and n v hk
  obtain ⟨ha, hne, hlen⟩ := nameL_all n h1
  obtain ⟨p1, p2⟩ := titL_plain true n ha
  have hp : plainAll (printL n v) = true := by
    have ht := tailV_plain v h2
    unfold printL
    unfold plainAll at p1 ht ⊢
    rw [List.all_append, p1, List.all_cons, ht]; rfl
  unfold putErr
  unfold plainAll at hp
  rw [hp, if_neg (by decide), if_neg (by omega)]
/-- in great letters -/
def greatB (c : UInt8) : UInt8 := if 97 ≤ c.toNat ∧ c.toNat ≤ 122 then UInt8.ofNat (c.toNat - 32) else c
theorem great_byte (c : UInt8) (h : namedN c.toNat = true) : smallB (greatB c) = c ∧ plainB (greatB c).toNat = true ∧ greatB c ≠ 58 := by
  have hb := namedN_bd _ h
  unfold greatB
  split
  · rename_i hl
    have e : (UInt8.ofNat (c.toNat - 32)).toNat = c.toNat - 32 := by rw [UInt8.toNat_ofNat']; omega
    refine ⟨?_, by rw [e]; exact plainB_of _ (by omega) (by omega), fun he => ?_⟩
    · unfold smallB; rw [e]; apply UInt8.toNat_inj.1; rw [UInt8.toNat_ofNat']; unfold smallN; rw [if_pos (by omega)]; omega
    · have := congrArg UInt8.toNat he
      rw [e] at this
      have : (58 : UInt8).toNat = 58 := rfl
      omega
  · refine ⟨?_, plainB_of _ (by omega) (by omega), fun he => ?_⟩
    · unfold smallB; apply UInt8.toNat_inj.1; rw [UInt8.toNat_ofNat']; unfold smallN; rw [if_neg (by omega)]; omega
    · have := congrArg UInt8.toNat he
      have : (58 : UInt8).toNat = 58 := rfl
      omega
theorem great_all (n : List UInt8) (h : ∀ c ∈ n, namedN c.toNat = true) : (n.map greatB).map smallB = n ∧ plainAll (n.map greatB) = true ∧ ∀ c ∈ n.map greatB, c ≠ 58 := by
  refine ⟨?_, ?_, ?_⟩
  · rw [List.map_map]; conv => rhs; rw [← List.map_id n]
    exact List.map_congr_left (fun c hc => (great_byte c (h c hc)).1)
  · unfold plainAll; rw [List.all_map, List.all_eq_true]; intro c hc; exact (great_byte c (h c hc)).2.1
  · intro c hc
    obtain ⟨d, hd, rfl⟩ := List.mem_map.1 hc
    exact (great_byte d (h d hd)).2.2
theorem trimS_pre (g : UInt8) (hg : gapB g = true) (k : Nat) (t : List UInt8) : Go.Lib.trimS (List.replicate k g ++ t) gapL = Go.Lib.trimS t gapL := by
  induction k with
  | zero => rfl
  | succ k ih => rw [List.replicate_succ, List.cons_append, trimS_cons g _ hg, ih]
theorem trimS_post (g : UInt8) (hg : gapB g = true) (k : Nat) (t : List UInt8) : Go.Lib.trimS (t ++ List.replicate k g) gapL = Go.Lib.trimS t gapL := by
  induction k with
  | zero => rw [List.replicate_zero, List.append_nil]
  | succ k ih => rw [List.replicate_succ', ← List.append_assoc, trimS_snoc _ g hg, ih]
theorem gaps_plain (g : UInt8) (hg : gapB g = true) (k : Nat) : plainAll (List.replicate k g) = true := by
  unfold plainAll
  rw [List.all_eq_true]
  intro c hc
  rw [(List.mem_replicate.1 hc).2]
  unfold gapB at hg
  simp only [Bool.or_eq_true, beq_iff_eq] at hg
  rcases hg with rfl | rfl <;> rfl
def greatLine (n v : List UInt8) (a b c : Nat) : List UInt8 := n.map greatB ++ 58 :: (List.replicate a 32 ++ (List.replicate b 9 ++ (v ++ List.replicate c 32)))
theorem great_parse (n v : List UInt8) (h : printOk n v = true) (a b c : Nat) : parseN (greatLine n v a b c) = n ∧ parseV (greatLine n v a b c) = v ∧ parseE (greatLine n v a b c) = 0 := by
  obtain ⟨h1, h2, h3⟩ := printOk_and n v h
  obtain ⟨ha, hne, hlen⟩ := nameL_all n h1
  obtain ⟨q1, q2, q3⟩ := great_all n ha
  refine parse_of _ n v _ q3 q2 ?_ h1 q1 ?_
  · have g1 := gaps_plain 32 (by decide) a
    have g2 := gaps_plain 9 (by decide) b
    have g3 := gaps_plain 32 (by decide) c
    unfold plainAll at h2 g1 g2 g3 ⊢
    rw [List.all_append, List.all_append, List.all_append, g1, g2, h2, g3]; rfl
  · rw [trimS_pre 32 (by decide), trimS_pre 9 (by decide), trimS_post 32 (by decide)]
    exact (trimS_iff v).2 h3

/-- what was parsed is a field that may be printed, unless that is too long -/
theorem trimS_idem (l : List UInt8) : noGap (Go.Lib.trimS l gapL) = true := by
  suffices h : ∀ k (l : List UInt8), l.length ≤ k → noGap (Go.Lib.trimS l gapL) = true from h _ l (Nat.le_refl _)
  intro k
  induction k with
  | zero => intro l hl; rw [List.length_eq_zero_iff.1 (Nat.le_zero.1 hl)]; rfl
  | succ k ih =>
    intro l hl
    by_cases h1 : headGap l = true
    · cases l with
      | nil => rfl
      | cons c t => rw [trimS_cons c t h1]; exact ih t (by simp at hl; omega)
    · by_cases h2 : headGap l.reverse = true
      · cases hr : l.reverse with
        | nil => rw [hr] at h2; exact absurd h2 (by decide)
        | cons c t =>
          have e : l = t.reverse ++ [c] := by rw [← List.reverse_reverse l, hr, List.reverse_cons]
          rw [hr] at h2
          rw [e, trimS_snoc _ c h2]
          exact ih _ (by rw [e] at hl; simp at hl; rw [List.length_reverse]; omega)
      · have e := trimS_done l (by simpa using h1) (by simpa using h2)
        rw [e]; unfold noGap; simp at h1 h2; rw [h1, h2]; rfl
theorem trimS_infix (l : List UInt8) : ∃ a b, l = a ++ Go.Lib.trimS l gapL ++ b := by
  unfold Go.Lib.trimS
  obtain ⟨b, hb⟩ : ∃ b, l = Go.Lib.trimRightS l gapL ++ b := by
    unfold Go.Lib.trimRightS
    obtain ⟨t, ht⟩ := List.dropWhile_suffix (l := l.reverse) (gapL.contains ·)
    refine ⟨t.reverse, ?_⟩
    have := congrArg List.reverse ht
    rw [List.reverse_append, List.reverse_reverse] at this
    exact this.symm
  obtain ⟨a, ha⟩ : ∃ a, Go.Lib.trimRightS l gapL = a ++ Go.Lib.trimLeftS (Go.Lib.trimRightS l gapL) gapL := by
    obtain ⟨t, ht⟩ := List.dropWhile_suffix (l := Go.Lib.trimRightS l gapL) (gapL.contains ·)
    exact ⟨t, ht.symm⟩
  exact ⟨a, b, by rw [← ha]; exact hb⟩
theorem parse_zero (l : List UInt8) (h : parseE l = 0) : parseOk l = true ∧ parseN l = parseName l ∧ parseV l = parseVal l := by
  unfold parseE at h
  split at h
  · rename_i hk; exact ⟨hk, if_pos hk, if_pos hk⟩
  · exact absurd h (by decide)
theorem parse_four (l : List UInt8) (h : parseE l ≠ 0) : parseE l = 4 ∧ parseN l = [] ∧ parseV l = [] := by
  unfold parseE parseN parseV at *
  split at h
  · exact absurd rfl h
  · rename_i hk; rw [if_neg hk, if_neg hk, if_neg hk]; exact ⟨rfl, rfl, rfl⟩
theorem parse_infix (l : List UInt8) (h : parseE l = 0) : ∃ a b, l = a ++ parseV l ++ b := by
  obtain ⟨_, _, hv⟩ := parse_zero l h
  rw [hv]
  unfold parseVal
  obtain ⟨a, b, e⟩ := trimS_infix (l.drop ((ahead l).length + 1))
  exact ⟨l.take ((ahead l).length + 1) ++ a, b, by rw [List.append_assoc, List.append_assoc, ← List.append_assoc a, ← e, List.take_append_drop]⟩
theorem parse_print (l : List UInt8) (h : parseE l = 0) : printOk (parseN l) (parseV l) = true := by
  obtain ⟨hk, hn, hv⟩ := parse_zero l h
  obtain ⟨a, b, e⟩ := parse_infix l h
  have hp : plainAll l = true ∧ nameL (parseName l) = true := by
    unfold parseOk at hk; simp only [Bool.and_eq_true] at hk; exact ⟨hk.1.1, hk.2⟩
  unfold printOk
  rw [hn, hp.2]
  have h1 : plainAll (parseV l) = true := by
    have := hp.1
    rw [e] at this
    unfold plainAll at this ⊢
    rw [List.all_append, List.all_append] at this
    simp only [Bool.and_eq_true] at this
    exact this.1.2
  have h2 : noGap (parseV l) = true := by rw [hv]; exact trimS_idem _
  rw [h1, h2]; rfl
end Go.Proofs.YtgaojfebmcmpaaaGreatDoor
