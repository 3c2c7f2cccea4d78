/- A value comes back of its JSON: plain words. What is taken may be laid; what is cut is too short: plain words. JSON that is cut is too short: plain words. What is left behind a value is the end of what there was, and the steps that are at hand are enough: plain words. -/
import Derived.Test.YtcmkepkeeahioaaGreatDoorPn1
set_option linter.unusedVariables false
set_option linter.unusedSimpArgs false
namespace Go.Proofs.YtcmkepkeeahioaaGreatDoor
open Go.RowKit
theorem tw_all {p : UInt8 → Bool} : ∀ (a b : List UInt8), (∀ x ∈ a, p x = true) → (∀ c, b.head? = some c → p c = false) → (a ++ b).takeWhile p = a ∧ (a ++ b).dropWhile p = b
  | [], b, _, hb => by
    cases b with
    | nil => exact ⟨rfl, rfl⟩
    | cons c t => have := hb c rfl; simp [this]
  | x :: a, b, ha, hb => by
    obtain ⟨h1, h2⟩ := tw_all a b (fun y hy => ha y (List.mem_cons_of_mem _ hy)) hb
    have := ha x (List.mem_cons_self ..)
    simp [this, h1, h2]
theorem skip_all (a b : List UInt8) (ha : ∀ x ∈ a, blankB x = true) (hb : ∀ c, b.head? = some c → blankB c = false) : skipB (a ++ b) = b := (tw_all a b ha hb).2
theorem skip_none (b : List UInt8) (hb : ∀ c, b.head? = some c → blankB c = false) : skipB b = b := skip_all [] b (by simp) hb
/-- what may stand behind a number -/
def folB (r : List UInt8) : Prop := ∀ c, r.head? = some c → numCh c = false
theorem fol_nil : folB [] := fun c h => by cases h
theorem fol_cons (c : UInt8) (t : List UInt8) (h : numCh c = false) : folB (c :: t) := fun x hx => by cases hx; exact h
theorem digB_iff (c : UInt8) : digB c = true ↔ 48 ≤ c.toNat ∧ c.toNat ≤ 57 := by unfold digB; simp
theorem digB_num (c : UInt8) (h : digB c = true) : numCh c = true := by unfold numCh; rw [h]; rfl
theorem digB_blank (c : UInt8) (h : digB c = true) : blankB c = false := by
  obtain ⟨h1, h2⟩ := (digB_iff c).1 h
  unfold blankB
  have e : ∀ k : UInt8, k.toNat < 48 → (c == k) = false := fun k hk => by
    rw [beq_eq_false_iff_ne]; intro e; subst e; omega
  rw [e 32 (by decide), e 9 (by decide), e 10 (by decide), e 13 (by decide)]; rfl
theorem nd_digit (k : Nat) (h : k < 10) : (UInt8.ofNat (48 + k)).toNat = 48 + k := by
  rw [UInt8.toNat_ofNat']; omega
theorem nd_ne (n : Nat) : Go.Lib.decDigits n ≠ [] := by
  rw [Go.Lib.decDigits]; split <;> simp
theorem nd_all (n : Nat) : (Go.Lib.decDigits n).all digB = true := by
  induction n using Nat.strongRecOn with
  | ind n ih =>
    rw [Go.Lib.decDigits]
    split
    · rename_i h
      rw [List.all_cons, (digB_iff _).2 (by rw [nd_digit n h]; omega)]; rfl
    · have := ih (n / 10) (by omega)
      rw [List.all_append, this, List.all_cons, (digB_iff _).2 (by rw [nd_digit (n % 10) (by omega)]; omega)]; rfl
theorem decW_snoc (l : List UInt8) (c : UInt8) : decW (l ++ [c]) = decW l * 10 + (c.toNat - 48) := by
  unfold decW; rw [List.foldl_append]; rfl
theorem nd_val (n : Nat) : decW (Go.Lib.decDigits n) = n := by
  induction n using Nat.strongRecOn with
  | ind n ih =>
    rw [Go.Lib.decDigits]
    split
    · rename_i h
      show 0 * 10 + _ = n
      rw [nd_digit n h]; omega
    · rw [decW_snoc, ih (n / 10) (by omega), nd_digit (n % 10) (by omega)]; omega
theorem nd_head (n : Nat) (h : 0 < n) : ∀ c, (Go.Lib.decDigits n).head? = some c → c ≠ 48 := by
  induction n using Nat.strongRecOn with
  | ind n ih =>
    intro c
    rw [Go.Lib.decDigits]
    split
    · rename_i h10
      intro e hc
      simp only [List.head?_cons, Option.some.injEq] at e
      have := nd_digit n h10
      rw [e, hc] at this
      have : (48 : UInt8).toNat = 48 := rfl
      omega
    · intro e
      have hn := nd_ne (n / 10)
      refine ih (n / 10) (by omega) (by omega) c ?_
      rw [← e]
      cases hd : Go.Lib.decDigits (n / 10) with
      | nil => exact absurd hd hn
      | cons a t => rfl
theorem nd_one (n : Nat) (h : (Go.Lib.decDigits n).head? = some 48) : n = 0 ∧ Go.Lib.decDigits n = [48] := by
  have h0 : n = 0 := by
    rcases Nat.eq_zero_or_pos n with h0 | h0
    · exact h0
    · exact absurd rfl (nd_head n h0 48 h)
  subst h0
  exact ⟨rfl, by rw [Go.Lib.decDigits]; rfl⟩
theorem decW_ge (l : List UInt8) : ∀ acc, acc ≤ l.foldl (fun n (c : UInt8) => n * 10 + (c.toNat - 48)) acc := by
  induction l with
  | nil => intro acc; exact Nat.le_refl _
  | cons c t ih => intro acc; refine Nat.le_trans ?_ (ih (acc * 10 + (c.toNat - 48))); omega
theorem decW_take (l : List UInt8) (k : Nat) : decW (l.take k) ≤ decW l := by
  have h : decW l = (l.drop k).foldl (fun n (c : UInt8) => n * 10 + (c.toNat - 48)) (decW (l.take k)) := by
    unfold decW; rw [← List.foldl_append, List.take_append_drop]
  rw [h]; exact decW_ge _ _
/-- a part of a number's digits, from the first on, is a number -/
theorem num_part (minus : Bool) (N k : Nat) (hN : N ≤ 9007199254740991) (hm : minus = true → 0 < N) (hk : 0 < k) :
    numT ((if minus = true then [45] else []) ++ (Go.Lib.decDigits N).take k) = (if minus = true then -((decW ((Go.Lib.decDigits N).take k) : Nat) : Int) else ((decW ((Go.Lib.decDigits N).take k) : Nat) : Int), 0) := by
  have h0 : (Go.Lib.decDigits N).take k ≠ [] := by
    intro e
    have := congrArg List.length e
    rw [List.length_take, List.length_nil] at this
    have h1 := List.length_pos_iff.2 (nd_ne N)
    omega
  have hall : ((Go.Lib.decDigits N).take k).all digB = true := by
    rw [List.all_eq_true]
    exact fun x hx => List.all_eq_true.1 (nd_all N) x (List.mem_of_mem_take hx)
  have hhd : ((Go.Lib.decDigits N).take k).head? = (Go.Lib.decDigits N).head? := by
    cases h : Go.Lib.decDigits N with
    | nil => exact absurd h (nd_ne N)
    | cons a t =>
      cases k with
      | zero => omega
      | succ k => rfl
  have hdw := decW_take (Go.Lib.decDigits N) k
  rw [nd_val] at hdw
  have h48 : ¬ (((Go.Lib.decDigits N).take k).head? = some 48 ∧ (1 < ((Go.Lib.decDigits N).take k).length ∨ minus = true)) := by
    rw [hhd]
    rintro ⟨e1, e2⟩
    obtain ⟨e3, e4⟩ := nd_one N e1
    rcases e2 with e2 | e2
    · rw [e4, List.length_take] at e2; simp at e2; omega
    · have := hm e2; omega
  have h45 : ¬ (((Go.Lib.decDigits N).take k).head? = some 45) := by
    intro e
    cases h : (Go.Lib.decDigits N).take k with
    | nil => exact absurd h h0
    | cons a t =>
      rw [h] at e hall
      cases e
      rw [List.all_cons] at hall
      exact absurd hall (by simp [digB])
  have hC : numC minus ((Go.Lib.decDigits N).take k) = (if minus = true then -((decW ((Go.Lib.decDigits N).take k) : Nat) : Int) else ((decW ((Go.Lib.decDigits N).take k) : Nat) : Int), 0) := by
    unfold numC
    rw [if_neg (by rw [hall]; rintro (h | h); exact h0 h; cases h), if_neg h48, if_neg (by omega)]
  cases minus with
  | true =>
    rw [if_pos rfl]
    unfold numT
    rw [if_pos rfl]
    exact hC
  | false =>
    rw [if_neg (by decide), List.nil_append]
    unfold numT
    rw [if_neg h45]
    exact hC
theorem itoa_shape (n : Int) : Go.Lib.itoa n = (if decide (n < 0) = true then [45] else []) ++ Go.Lib.decDigits n.natAbs := by
  unfold Go.Lib.itoa
  by_cases h : n < 0
  · rw [if_pos h, decide_eq_true h, if_pos rfl]; rfl
  · rw [if_neg h, decide_eq_false h, if_neg (by decide), List.nil_append, show n.toNat = n.natAbs by omega]
theorem okNum_iff (n : Int) : okNum n = true ↔ -9007199254740991 ≤ n ∧ n ≤ 9007199254740991 := by unfold okNum; simp
theorem num_whole (n : Int) (h : okNum n = true) : numT (Go.Lib.itoa n) = (n, 0) := by
  obtain ⟨h1, h2⟩ := (okNum_iff n).1 h
  have := num_part (decide (n < 0)) n.natAbs ((Go.Lib.decDigits n.natAbs).length + 1) (by omega) (fun e => by have := of_decide_eq_true e; omega) (by omega)
  rw [List.take_of_length_le (by omega), nd_val, ← itoa_shape] at this
  rw [this]
  by_cases hn : n < 0
  · rw [decide_eq_true hn, if_pos rfl, show (-(n.natAbs : Int)) = n by omega]
  · rw [decide_eq_false hn, if_neg (by decide), show ((n.natAbs : Int)) = n by omega]
theorem itoa_num (n : Int) : ∀ x ∈ Go.Lib.itoa n, numCh x = true := by
  intro x hx
  rw [itoa_shape] at hx
  rcases List.mem_append.1 hx with h | h
  · split at h
    · rw [List.mem_singleton.1 h]; decide
    · cases h
  · exact digB_num x (List.all_eq_true.1 (nd_all _) x h)
theorem itoa_head (n : Int) : ∃ c t, Go.Lib.itoa n = c :: t ∧ (c = 45 ∨ digB c = true) := by
  rw [itoa_shape]
  cases h : Go.Lib.decDigits n.natAbs with
  | nil => exact absurd h (nd_ne _)
  | cons a t =>
    have ha := nd_all n.natAbs
    rw [h, List.all_cons, Bool.and_eq_true] at ha
    by_cases hn : n < 0
    · rw [decide_eq_true hn, if_pos rfl]; exact ⟨45, a :: t, rfl, .inl rfl⟩
    · rw [decide_eq_false hn, if_neg (by decide)]; exact ⟨a, t, rfl, .inr ha.1⟩
theorem numV_back (n : Int) (h : okNum n = true) (rest : List UInt8) (hf : folB rest) : numV (Go.Lib.itoa n ++ rest) = (.num n, rest, 0) := by
  obtain ⟨e1, e2⟩ := tw_all (Go.Lib.itoa n) rest (itoa_num n) hf
  unfold numV
  rw [e1, e2, num_whole n h, if_pos rfl]
theorem txt_back (x rest : List UInt8) (hv : valR x = true) : txtV (quoL x ++ rest) = (x, rest, 0) := by
  have := quote_take [] x rest hv
  simp only [List.nil_append, List.length_nil, Nat.zero_add] at this
  have h0 : takeP (quoL x ++ rest) 0 = (x, ((quoL x).length : Int), 0) := this
  unfold txtV
  rw [h0, if_pos rfl, Int.toNat_natCast, List.drop_left]
theorem word_back (w rest : List UInt8) (v : JV) : wordV (w ++ rest) w v = (v, rest, 0) := by
  unfold wordV
  rw [if_pos (List.isPrefixOf_iff_prefix.2 (List.prefix_append _ _)), List.drop_left]
/-- how a value's JSON begins -/
theorem json_head (v : JV) (d : Nat) (h : chk v d = 0) : ∃ c t, json v = c :: t ∧ blankB c = false ∧ c ≠ 93 ∧ c ≠ 125 := by
  cases v with
  | nul => exact ⟨110, _, rfl, by decide, by decide, by decide⟩
  | boo b => cases b with
    | true => exact ⟨116, _, rfl, by decide, by decide, by decide⟩
    | false => exact ⟨102, _, rfl, by decide, by decide, by decide⟩
  | num n =>
    obtain ⟨c, t, h1, h2⟩ := itoa_head n
    refine ⟨c, t, by rw [json]; exact h1, ?_, ?_, ?_⟩
    · rcases h2 with rfl | h2
      · decide
      · exact digB_blank c h2
    · rintro rfl; rcases h2 with h2 | h2 <;> exact absurd h2 (by decide)
    · rintro rfl; rcases h2 with h2 | h2 <;> exact absurd h2 (by decide)
  | txt s => exact ⟨34, _, by rw [json]; rfl, by decide, by decide, by decide⟩
  | lst l => exact ⟨91, _, by rw [json], by decide, by decide, by decide⟩
  | obj l => exact ⟨123, _, by rw [json], by decide, by decide, by decide⟩
  | bad => rw [chk] at h; exact absurd h (by decide)
theorem jsonL_false (v : JV) (t : List JV) : jsonL false (v :: t) = 44 :: jsonL true (v :: t) := by
  rw [jsonL, jsonL]; rfl
theorem jsonL_true (v : JV) (t : List JV) : jsonL true (v :: t) = json v ++ jsonL false t := by
  rw [jsonL]; rfl
theorem jsonO_false (p : List UInt8 × JV) (t : List (List UInt8 × JV)) : jsonO false (p :: t) = 44 :: jsonO true (p :: t) := by
  obtain ⟨k, v⟩ := p
  rw [jsonO, jsonO]; rfl
theorem jsonO_true (k : List UInt8) (v : JV) (t : List (List UInt8 × JV)) : jsonO true ((k, v) :: t) = quoL k ++ 58 :: (json v ++ jsonO false t) := by
  rw [jsonO]; simp
theorem chkL_cons (v : JV) (t : List JV) (d : Nat) (h : chkL (v :: t) d = 0) : chk v d = 0 ∧ chkL t d = 0 := by
  rw [chkL] at h
  by_cases h1 : chk v d = 0
  · rw [if_neg (fun e => e h1)] at h; exact ⟨h1, h⟩
  · rw [if_pos h1] at h; exact absurd h h1
theorem chkO_cons (prev : List (List UInt8)) (k : List UInt8) (v : JV) (t : List (List UInt8 × JV)) (d : Nat) (h : chkO prev ((k, v) :: t) d = 0) : valR k = true ∧ k ∉ prev ∧ chk v d = 0 ∧ chkO (prev ++ [k]) t d = 0 := by
  rw [chkO] at h
  by_cases h0 : valR k = false
  · rw [if_pos h0] at h; exact absurd h (by decide)
  rw [if_neg h0] at h
  by_cases h2 : k ∈ prev
  · rw [if_pos h2] at h; exact absurd h (by decide)
  rw [if_neg h2] at h
  by_cases h1 : chk v d = 0
  · rw [if_neg (fun e => e h1)] at h; exact ⟨by simpa using h0, h2, h1, h⟩
  · rw [if_pos h1] at h; exact absurd h h1
theorem jsonL_head (v : JV) (t : List JV) (d : Nat) (h : chkL (v :: t) d = 0) (r : List UInt8) : ∃ c u, jsonL true (v :: t) ++ r = c :: u ∧ blankB c = false ∧ c ≠ 93 := by
  obtain ⟨c, u, h1, h2, h3, -⟩ := json_head v d (chkL_cons v t d h).1
  rw [jsonL_true, h1]
  exact ⟨c, _, rfl, h2, h3⟩
theorem jsonO_head (p : List UInt8 × JV) (t : List (List UInt8 × JV)) (r : List UInt8) : ∃ u, jsonO true (p :: t) ++ r = 34 :: u := by
  obtain ⟨k, v⟩ := p
  rw [jsonO_true]
  exact ⟨_, rfl⟩
theorem skip_head {r : List UInt8} {c : UInt8} {u : List UInt8} (h : r = c :: u) (hb : blankB c = false) : skipB r = r := skip_none r (fun x hx => by rw [h] at hx; cases hx; exact hb)
theorem val_num (f d : Nat) (c : UInt8) (t : List UInt8) (h : c = 45 ∨ digB c = true) : valV (f + 1) d (c :: t) = numV (c :: t) := by
  have hne : ∀ k : UInt8, k.toNat < 45 ∨ 57 < k.toNat → c ≠ k := fun k hk e => by
    subst e
    rcases h with h | h
    · subst h; rcases hk with hk | hk <;> exact absurd hk (by decide)
    · have := (digB_iff c).1 h; omega
  rw [valV]
  rw [if_neg (hne 110 (.inr (by decide))), if_neg (hne 102 (.inr (by decide))), if_neg (hne 116 (.inr (by decide))), if_neg (hne 34 (.inl (by decide))), if_neg (hne 91 (.inr (by decide))), if_neg (hne 123 (.inr (by decide))), if_pos h]
mutual
theorem val_back : ∀ (v : JV) (d f : Nat) (rest : List UInt8), chk v d = 0 → 2 * (json v).length + 2 ≤ f → ((∃ n, v = .num n) → folB rest) → valV f d (json v ++ rest) = (v, rest, 0)
  | .nul, d, f, rest, _, hf, _ => by
    obtain ⟨g, rfl⟩ : ∃ g, f = g + 1 := ⟨f - 1, by omega⟩
    rw [json]
    show valV (g + 1) d (110 :: ([117, 108, 108] ++ rest)) = _
    rw [valV, if_pos rfl]
    exact word_back [110, 117, 108, 108] rest .nul
  | .boo b, d, f, rest, _, hf, _ => by
    obtain ⟨g, rfl⟩ : ∃ g, f = g + 1 := ⟨f - 1, by omega⟩
    rw [json]
    cases b with
    | true =>
      show valV (g + 1) d (116 :: ([114, 117, 101] ++ rest)) = _
      rw [valV, if_neg (by decide), if_neg (by decide), if_pos rfl]
      exact word_back [116, 114, 117, 101] rest (.boo true)
    | false =>
      show valV (g + 1) d (102 :: ([97, 108, 115, 101] ++ rest)) = _
      rw [valV, if_neg (by decide), if_pos rfl]
      exact word_back [102, 97, 108, 115, 101] rest (.boo false)
  | .num n, d, f, rest, h, hf, hr => by
    obtain ⟨g, rfl⟩ : ∃ g, f = g + 1 := ⟨f - 1, by omega⟩
    rw [chk] at h
    have hn : okNum n = true := by
      by_cases e : okNum n = true
      · exact e
      · rw [if_neg e] at h; exact absurd h (by decide)
    obtain ⟨c, t, h1, h2⟩ := itoa_head n
    have hb := numV_back n hn rest (hr ⟨n, rfl⟩)
    rw [json]
    rw [h1] at hb ⊢
    rw [List.cons_append, val_num g d c _ h2]
    exact hb
  | .txt s, d, f, rest, h, hf, _ => by
    obtain ⟨g, rfl⟩ : ∃ g, f = g + 1 := ⟨f - 1, by omega⟩
    rw [chk] at h
    have hv : valR s = true := by
      by_cases e : valR s = true
      · exact e
      · rw [if_neg e] at h; exact absurd h (by decide)
    have hb := txt_back s rest hv
    rw [json]
    obtain ⟨u, hu⟩ : ∃ u, quoL s ++ rest = 34 :: u := ⟨_, rfl⟩
    rw [hu] at hb ⊢
    rw [valV]
    rw [if_neg (by decide), if_neg (by decide), if_neg (by decide), if_pos rfl, hb, if_pos rfl]
  | .lst l, d, f, rest, h, hf, _ => by
    obtain ⟨g, rfl⟩ : ∃ g, f = g + 1 := ⟨f - 1, by omega⟩
    rw [chk] at h
    by_cases hd : 4 < d
    · rw [if_pos hd] at h; exact absurd h (by decide)
    rw [if_neg hd] at h
    by_cases hl : 64 < l.length
    · rw [if_pos hl] at h; exact absurd h (by decide)
    rw [if_neg hl] at h
    rw [json] at hf ⊢
    rw [List.length_cons, List.length_append, List.length_singleton] at hf
    rw [List.cons_append, List.append_assoc, valV]
    rw [if_neg (by decide), if_neg (by decide), if_neg (by decide), if_neg (by decide), if_pos rfl, if_neg hd]
    cases l with
    | nil =>
      have e : jsonL true [] ++ ([93] ++ rest) = 93 :: rest := by rw [jsonL]; rfl
      rw [e, skip_head rfl (by decide), if_pos (show (_ :: rest).head? = some _ from rfl)]
      rfl
    | cons v t =>
      obtain ⟨c, u, e1, e2, e3⟩ := jsonL_head v t (d + 1) h ([93] ++ rest)
      rw [skip_head e1 e2, if_neg (by rw [e1]; simp [e3])]
      exact lst_back (v :: t) [] d g 0 rest (by simp) h (by omega) (by omega)
  | .obj l, d, f, rest, h, hf, _ => by
    obtain ⟨g, rfl⟩ : ∃ g, f = g + 1 := ⟨f - 1, by omega⟩
    rw [chk] at h
    by_cases hd : 4 < d
    · rw [if_pos hd] at h; exact absurd h (by decide)
    rw [if_neg hd] at h
    by_cases hl : 64 < l.length
    · rw [if_pos hl] at h; exact absurd h (by decide)
    rw [if_neg hl] at h
    rw [json] at hf ⊢
    rw [List.length_cons, List.length_append, List.length_singleton] at hf
    rw [List.cons_append, List.append_assoc, valV]
    rw [if_neg (by decide), if_neg (by decide), if_neg (by decide), if_neg (by decide), if_neg (by decide), if_pos rfl, if_neg hd]
    cases l with
    | nil =>
      have e : jsonO true [] ++ ([125] ++ rest) = 125 :: rest := by rw [jsonO]; rfl
      rw [e, skip_head rfl (by decide), if_pos (show (_ :: rest).head? = some _ from rfl)]
      rfl
    | cons p t =>
      obtain ⟨u, e1⟩ := jsonO_head p t ([125] ++ rest)
      rw [skip_head e1 (by decide), if_neg (by rw [e1]; simp)]
      exact obj_back (p :: t) [] d g 0 rest (by simp) h (by omega) (by omega)
  | .bad, d, f, rest, h, _, _ => by rw [chk] at h; exact absurd h (by decide)
theorem lst_back : ∀ (l : List JV) (acc : List JV) (d f n : Nat) (rest : List UInt8), l ≠ [] → chkL l (d + 1) = 0 → n + l.length ≤ 64 → 2 * (jsonL true l).length + 3 ≤ f → lstV f d n (jsonL true l ++ ([93] ++ rest)) acc = (.lst (acc ++ l), rest, 0)
  | [], _, _, _, _, _, h, _, _, _ => absurd rfl h
  | v :: t, acc, d, f, n, rest, _, h, hn, hf => by
    obtain ⟨g, rfl⟩ : ∃ g, f = g + 1 := ⟨f - 1, by omega⟩
    obtain ⟨h1, h2⟩ := chkL_cons v t _ h
    rw [jsonL_true] at hf ⊢
    rw [List.length_append] at hf
    rw [List.length_cons] at hn
    rw [List.append_assoc, lstV, if_neg (by omega)]
    have hfol : folB (jsonL false t ++ ([93] ++ rest)) := by
      cases t with
      | nil => rw [jsonL]; exact fol_cons _ _ (by decide)
      | cons v' t' => rw [jsonL_false]; exact fol_cons _ _ (by decide)
    rw [val_back v (d + 1) g (jsonL false t ++ ([93] ++ rest)) h1 (by omega) (fun _ => hfol)]
    simp only []
    rw [if_neg (by simp)]
    cases t with
    | nil =>
      rw [jsonL]
      rw [show ([] : List UInt8) ++ ([93] ++ rest) = 93 :: rest from rfl, skip_head rfl (by decide)]
      simp only []
      rw [if_pos trivial]
    | cons v' t' =>
      rw [jsonL_false] at hf ⊢
      rw [List.length_cons] at hf
      rw [List.cons_append, skip_head rfl (by decide)]
      simp only []
      rw [if_neg (by decide), if_pos trivial]
      obtain ⟨c, u, e1, e2, e3⟩ := jsonL_head v' t' (d + 1) h2 ([93] ++ rest)
      rw [skip_head e1 e2, lst_back (v' :: t') (acc ++ [v]) d g (n + 1) rest (by simp) h2 (by rw [List.length_cons] at hn ⊢; omega) (by omega)]
      simp
theorem obj_back : ∀ (l : List (List UInt8 × JV)) (acc : List (List UInt8 × JV)) (d f n : Nat) (rest : List UInt8), l ≠ [] → chkO (acc.map (·.1)) l (d + 1) = 0 → n + l.length ≤ 64 → 2 * (jsonO true l).length + 3 ≤ f → objV f d n (jsonO true l ++ ([125] ++ rest)) acc = (.obj (acc ++ l), rest, 0)
  | [], _, _, _, _, _, h, _, _, _ => absurd rfl h
  | (k, v) :: t, acc, d, f, n, rest, _, h, hn, hf => by
    obtain ⟨g, rfl⟩ : ∃ g, f = g + 1 := ⟨f - 1, by omega⟩
    obtain ⟨h0, h3, h1, h2⟩ := chkO_cons _ k v t _ h
    rw [jsonO_true] at hf ⊢
    rw [List.length_append, List.length_cons, List.length_append] at hf
    rw [List.length_cons] at hn
    rw [List.append_assoc, List.cons_append, List.append_assoc, objV, if_neg (by omega), txt_back k _ h0]
    simp only []
    rw [if_neg (by simp), if_neg h3, skip_head rfl (by decide)]
    simp only []
    rw [if_neg (by simp)]
    obtain ⟨c, u, e1, e2, -⟩ := json_head v _ h1
    rw [skip_head (r := json v ++ (jsonO false t ++ ([125] ++ rest))) (by rw [e1]; rfl) e2]
    have hfol : folB (jsonO false t ++ ([125] ++ rest)) := by
      cases t with
      | nil => rw [jsonO]; exact fol_cons _ _ (by decide)
      | cons v' t' => rw [jsonO_false]; exact fol_cons _ _ (by decide)
    rw [val_back v (d + 1) g (jsonO false t ++ ([125] ++ rest)) h1 (by omega) (fun _ => hfol)]
    simp only []
    rw [if_neg (by simp)]
    cases t with
    | nil =>
      rw [jsonO]
      rw [show ([] : List UInt8) ++ ([125] ++ rest) = 125 :: rest from rfl, skip_head rfl (by decide)]
      simp only []
      rw [if_pos trivial]
    | cons p t' =>
      rw [jsonO_false] at hf ⊢
      rw [List.length_cons] at hf
      rw [List.cons_append, skip_head rfl (by decide)]
      simp only []
      rw [if_neg (by decide), if_pos trivial]
      obtain ⟨u, e1⟩ := jsonO_head p t' ([125] ++ rest)
      rw [skip_head e1 (by decide), obj_back (p :: t') (acc ++ [(k, v)]) d g (n + 1) rest (by simp) (by rw [List.map_append]; exact h2) (by rw [List.length_cons] at hn ⊢; omega) (by omega)]
      simp
end
end Go.Proofs.YtcmkepkeeahioaaGreatDoor
namespace Go.Proofs.YtcmkepkeeahioaaGreatDoor
open Go.RowKit
theorem numC_good (minus : Bool) (w : List UInt8) (h : (numC minus w).2 = 0) : okNum (numC minus w).1 = true := by
  unfold numC at h ⊢
  by_cases h1 : w = [] ∨ w.all digB = false
  · rw [if_pos h1] at h; exact absurd h (by decide)
  rw [if_neg h1] at h ⊢
  by_cases h2 : w.head? = some 48 ∧ (1 < w.length ∨ minus = true)
  · rw [if_pos h2] at h; exact absurd h (by decide)
  rw [if_neg h2] at h ⊢
  by_cases h3 : 9007199254740991 < decW w
  · rw [if_pos h3] at h; exact absurd h (by decide)
  rw [if_neg h3]
  rw [okNum_iff]
  cases minus with
  | true => rw [if_pos rfl]; omega
  | false => rw [if_neg (by decide)]; omega
theorem numT_good (m : List UInt8) (h : (numT m).2 = 0) : okNum (numT m).1 = true := by
  unfold numT at h ⊢
  split at h
  · rename_i e; rw [if_pos e]; exact numC_good _ _ h
  · rename_i e; rw [if_neg e]; exact numC_good _ _ h
theorem txtV_good (r : List UInt8) (h : (txtV r).2.2 = 0) : valR (txtV r).1 = true ∧ (takeP r 0).2.2 = 0 := by
  by_cases e : (takeP r 0).2.2 = 0
  · have h1 : (txtV r).1 = (takeP r 0).1 := by unfold txtV; rw [if_pos e]
    rw [h1]
    obtain ⟨n, -, h2, -⟩ := take0_ok r (takeP r 0).1 (takeP r 0).2.1 (by rw [← e])
    exact ⟨h2, e⟩
  · unfold txtV at h; rw [if_neg e] at h; exact absurd h e
theorem chkL_snoc (v : JV) (d : Nat) : ∀ a : List JV, chkL a d = 0 → chk v d = 0 → chkL (a ++ [v]) d = 0
  | [], _, h => by rw [List.nil_append, chkL, if_neg (fun e => e h), chkL]
  | x :: a, h, hv => by
    obtain ⟨h1, h2⟩ := chkL_cons x a d h
    rw [List.cons_append, chkL, if_neg (fun e => e h1)]
    exact chkL_snoc v d a h2 hv
theorem chkO_snoc (k : List UInt8) (v : JV) (d : Nat) (hk : valR k = true) (hv : chk v d = 0) : ∀ (a : List (List UInt8 × JV)) (prev : List (List UInt8)), chkO prev a d = 0 → k ∉ prev ++ a.map (·.1) → chkO prev (a ++ [(k, v)]) d = 0
  | [], prev, _, hn => by
    rw [List.nil_append, chkO, if_neg (by rw [hk]; decide), if_neg (by simpa using hn), if_neg (fun e => e hv), chkO]
  | (x, y) :: a, prev, h, hn => by
    obtain ⟨h1, h2, h3, h4⟩ := chkO_cons prev x y a d h
    rw [List.cons_append, chkO, if_neg (by rw [h1]; decide), if_neg h2, if_neg (fun e => e h3)]
    exact chkO_snoc k v d hk hv a (prev ++ [x]) h4 (by simpa using hn)
theorem val_nil (f d : Nat) : (valV f d []).2.2 ≠ 0 := by
  cases f with
  | zero => rw [valV]; decide
  | succ f => rw [valV]; decide
theorem word_good (r w : List UInt8) (v : JV) (d : Nat) (hv : chk v d = 0) (v' : JV) (r' : List UInt8) (h : wordV r w v = (v', r', 0)) : chk v' d = 0 := by
  unfold wordV at h
  split at h
  · cases h; exact hv
  · split at h
    · cases h
    · cases h
theorem good_all : ∀ f : Nat, (∀ d r v r', valV f d r = (v, r', 0) → chk v d = 0) ∧
    (∀ d n r acc v r', lstV f d n r acc = (v, r', 0) → ¬ 4 < d → acc.length = n → n ≤ 64 → chkL acc (d + 1) = 0 → chk v d = 0) ∧
    (∀ d n r acc v r', objV f d n r acc = (v, r', 0) → ¬ 4 < d → acc.length = n → n ≤ 64 → chkO [] acc (d + 1) = 0 → chk v d = 0) := by
  intro f
  induction f with
  | zero =>
    refine ⟨fun d r v r' h => ?_, fun d n r acc v r' h => ?_, fun d n r acc v r' h => ?_⟩
    · rw [valV] at h; cases h
    · rw [lstV] at h; cases h
    · rw [objV] at h; cases h
  | succ f ih =>
    obtain ⟨ihv, ihl, iho⟩ := ih
    refine ⟨fun d r v r' h => ?_, fun d n r acc v r' h hd hn hn2 hc => ?_, fun d n r acc v r' h hd hn hn2 hc => ?_⟩
    · cases r with
      | nil => rw [valV] at h; cases h
      | cons c t =>
        rw [valV] at h
        by_cases c1 : c = 110
        · rw [if_pos c1] at h; exact word_good _ _ _ d (by rw [chk]) v r' h
        rw [if_neg c1] at h
        by_cases c2 : c = 102
        · rw [if_pos c2] at h; exact word_good _ _ _ d (by rw [chk]) v r' h
        rw [if_neg c2] at h
        by_cases c3 : c = 116
        · rw [if_pos c3] at h; exact word_good _ _ _ d (by rw [chk]) v r' h
        rw [if_neg c3] at h
        by_cases c4 : c = 34
        · rw [if_pos c4] at h
          by_cases e : (txtV (c :: t)).2.2 = 0
          · rw [if_pos e] at h
            cases h
            rw [chk, (txtV_good _ e).1, if_pos rfl]
          · rw [if_neg e] at h
            exact absurd (congrArg (fun x : Res => x.2.2) h) e
        rw [if_neg c4] at h
        by_cases c5 : c = 91
        · rw [if_pos c5] at h
          by_cases e : 4 < d
          · rw [if_pos e] at h; cases h
          rw [if_neg e] at h
          by_cases e2 : (skipB t).head? = some 93
          · rw [if_pos e2] at h
            cases h
            rw [chk, if_neg e, if_neg (by simp), chkL]
          · rw [if_neg e2] at h
            exact ihl d 0 _ [] v r' h e rfl (by omega) (by rw [chkL])
        rw [if_neg c5] at h
        by_cases c6 : c = 123
        · rw [if_pos c6] at h
          by_cases e : 4 < d
          · rw [if_pos e] at h; cases h
          rw [if_neg e] at h
          by_cases e2 : (skipB t).head? = some 125
          · rw [if_pos e2] at h
            cases h
            rw [chk, if_neg e, if_neg (by simp), chkO]
          · rw [if_neg e2] at h
            exact iho d 0 _ [] v r' h e rfl (by omega) (by rw [chkO])
        rw [if_neg c6] at h
        by_cases c7 : c = 45 ∨ digB c = true
        · rw [if_pos c7] at h
          unfold numV at h
          by_cases e : (numT ((c :: t).takeWhile numCh)).2 = 0
          · rw [if_pos e] at h
            cases h
            rw [chk, numT_good _ e, if_pos rfl]
          · rw [if_neg e] at h
            exact absurd (congrArg (fun x : Res => x.2.2) h) e
        · rw [if_neg c7] at h; cases h
    · rw [lstV] at h
      by_cases e0 : n = 64 ∧ r ≠ []
      · rw [if_pos e0] at h; cases h
      rw [if_neg e0] at h
      by_cases e1 : (valV f (d + 1) r).2.2 = 0
      · rw [if_neg (fun e => e e1)] at h
        have hv := ihv (d + 1) r (valV f (d + 1) r).1 (valV f (d + 1) r).2.1 (by rw [← e1])
        have hr : r ≠ [] := fun e => val_nil f (d + 1) (by rw [← e]; exact e1)
        have hn3 : n < 64 := by
          rcases Nat.lt_or_ge n 64 with h' | h'
          · exact h'
          · exact absurd ⟨by omega, hr⟩ e0
        have hc2 := chkL_snoc _ _ acc hc hv
        cases hs : skipB (valV f (d + 1) r).2.1 with
        | nil => rw [hs] at h; cases h
        | cons c t =>
          rw [hs] at h
          simp only [] at h
          by_cases c1 : c = 93
          · rw [if_pos c1] at h
            cases h
            rw [chk, if_neg hd, if_neg (by rw [List.length_append]; simp; omega)]
            exact hc2
          rw [if_neg c1] at h
          by_cases c2 : c = 44
          · rw [if_pos c2] at h
            exact ihl d (n + 1) _ _ v r' h hd (by rw [List.length_append, hn]; rfl) (by omega) hc2
          · rw [if_neg c2] at h; cases h
      · rw [if_pos e1] at h
        exact absurd (congrArg (fun x : Res => x.2.2) h) e1
    · rw [objV] at h
      by_cases e0 : n = 64 ∧ r ≠ []
      · rw [if_pos e0] at h; cases h
      rw [if_neg e0] at h
      by_cases t1 : (txtV r).2.2 = 0
      · rw [if_neg (fun e => e t1)] at h
        by_cases t2 : (txtV r).1 ∈ acc.map (·.1)
        · rw [if_pos t2] at h; cases h
        rw [if_neg t2] at h
        cases hs0 : skipB (txtV r).2.1 with
        | nil => rw [hs0] at h; cases h
        | cons c0 t0 =>
          rw [hs0] at h
          simp only [] at h
          by_cases c0' : c0 = 58
          · rw [if_neg (fun e => e c0')] at h
            by_cases e1 : (valV f (d + 1) (skipB t0)).2.2 = 0
            · rw [if_neg (fun e => e e1)] at h
              have hv := ihv (d + 1) _ (valV f (d + 1) (skipB t0)).1 (valV f (d + 1) (skipB t0)).2.1 (by rw [← e1])
              have hr : r ≠ [] := fun e => by
                have := (txtV_good r t1).2
                rw [e, take0, if_pos (by rfl)] at this
                exact absurd this (by decide)
              have hn3 : n < 64 := by
                rcases Nat.lt_or_ge n 64 with h' | h'
                · exact h'
                · exact absurd ⟨by omega, hr⟩ e0
              have hc2 := chkO_snoc _ _ _ (txtV_good r t1).1 hv acc [] hc (by simpa using t2)
              cases hs : skipB (valV f (d + 1) (skipB t0)).2.1 with
              | nil => rw [hs] at h; cases h
              | cons c t =>
                rw [hs] at h
                simp only [] at h
                by_cases c1 : c = 125
                · rw [if_pos c1] at h
                  cases h
                  rw [chk, if_neg hd, if_neg (by rw [List.length_append]; simp; omega)]
                  exact hc2
                rw [if_neg c1] at h
                by_cases c2 : c = 44
                · rw [if_pos c2] at h
                  exact iho d (n + 1) _ _ v r' h hd (by rw [List.length_append, hn]; rfl) (by omega) hc2
                · rw [if_neg c2] at h; cases h
            · rw [if_pos e1] at h
              exact absurd (congrArg (fun x : Res => x.2.2) h) e1
          · rw [if_pos c0'] at h; cases h
      · rw [if_pos t1] at h
        exact absurd (congrArg (fun x : Res => x.2.2) h) t1
/-- what was taken may be laid -/
theorem take_good (l : List UInt8) (h : (takeV l).2.2 = 0) : chk (takeV l).1 1 = 0 := by
  unfold takeV at h ⊢
  by_cases h0 : 4096 < l.length
  · rw [if_pos h0] at h; exact absurd h (by decide)
  rw [if_neg h0] at h ⊢
  simp only [] at h ⊢
  by_cases h1 : (valV (2 * l.length + 2) 1 (skipB l)).2.2 = 0
  · rw [if_neg (fun e => e h1)] at h ⊢
    by_cases h2 : skipB (valV (2 * l.length + 2) 1 (skipB l)).2.1 = []
    · rw [if_neg (fun e => e h2)]
      exact (good_all _).1 1 (skipB l) _ (valV (2 * l.length + 2) 1 (skipB l)).2.1 (by rw [← h1])
    · rw [if_pos h2] at h; exact absurd (show (4 : Nat) = 0 from h) (by decide)
  · rw [if_pos h1] at h; exact absurd h h1
theorem blank_num (b : List UInt8) (hb : ∀ x ∈ b, blankB x = true) : folB b := fun c hc => by
  have h := hb c (List.mem_of_mem_head? hc)
  have : c = 32 ∨ c = 9 ∨ c = 10 ∨ c = 13 := by
    unfold blankB at h
    simp only [Bool.or_eq_true, beq_iff_eq] at h
    rcases h with ((h | h) | h) | h
    · exact .inl h
    · exact .inr (.inl h)
    · exact .inr (.inr (.inl h))
    · exact .inr (.inr (.inr h))
  rcases this with rfl | rfl | rfl | rfl <;> decide
/-- a value comes back of its JSON, with blanks around it -/
theorem take_back2 (v : JV) (a b : List UInt8) (h : chk v 1 = 0) (ha : ∀ x ∈ a, blankB x = true) (hb : ∀ x ∈ b, blankB x = true) (hl : (a ++ (json v ++ b)).length ≤ 4096) : takeV (a ++ (json v ++ b)) = (v, (a ++ (json v ++ b)).length, 0) := by
  obtain ⟨c, u, e1, e2, -⟩ := json_head v 1 h
  have hs : skipB (a ++ (json v ++ b)) = json v ++ b := skip_all a _ ha (fun x hx => by rw [e1] at hx; cases hx; exact e2)
  have hv := val_back v 1 (2 * (a ++ (json v ++ b)).length + 2) b h (by simp only [List.length_append]; omega) (fun _ => blank_num b hb)
  unfold takeV
  rw [if_neg (by omega), hs, hv]
  simp only []
  have hb2 : skipB b = [] := by
    have := skip_all b [] hb (fun x hx => by cases hx)
    rwa [List.append_nil] at this
  rw [if_neg (by simp), hb2, if_neg (by simp)]
/-- a byte behind a list or an object is of no form -/
theorem take_more2 (v : JV) (c : UInt8) (h : chk v 1 = 0) (hv : ∀ n, v ≠ .num n) (hc : blankB c = false) (hl : (json v).length < 4096) : (takeV (json v ++ [c])).2 = ((json v).length, 4) := by
  obtain ⟨c', u, e1, e2, -⟩ := json_head v 1 h
  have hs : skipB (json v ++ [c]) = json v ++ [c] := skip_none _ (fun x hx => by rw [e1] at hx; cases hx; exact e2)
  have hb := val_back v 1 (2 * (json v ++ [c]).length + 2) [c] h (by simp only [List.length_append]; omega) (fun ⟨n, hn⟩ => absurd hn (hv n))
  unfold takeV
  rw [if_neg (by rw [List.length_append]; simp; omega), hs, hb]
  simp only []
  have hb2 : skipB [c] = [c] := skip_none _ (fun x hx => by cases hx; exact hc)
  rw [if_neg (by simp), hb2, if_pos (by simp), List.length_append]
  simp
theorem take_long (l : List UInt8) (h : 4096 < l.length) : (takeV l).2 = (0, 5) := by unfold takeV; rw [if_pos h]
theorem take_blank (l : List UInt8) (h : ∀ x ∈ l, blankB x = true) (hl : l.length ≤ 4096) : (takeV l).2 = (l.length, 3) := by
  have := skip_all l [] h (fun x hx => by cases hx)
  rw [List.append_nil] at this
  unfold takeV
  rw [if_neg (by omega), this, valV]
  simp
end Go.Proofs.YtcmkepkeeahioaaGreatDoor
namespace Go.Proofs.YtcmkepkeeahioaaGreatDoor
open Go.RowKit
def CutR (p : Res) : Prop := (p.2.2 = 3 ∧ p.2.1 = []) ∨ p.2.2 = 4
theorem take_app (a b : List UInt8) (k : Nat) : (k ≤ a.length ∧ (a ++ b).take k = a.take k) ∨ ∃ j, k = a.length + j ∧ 0 < j ∧ (a ++ b).take k = a ++ b.take j := by
  rcases Nat.lt_or_ge a.length k with h | h
  · refine .inr ⟨k - a.length, by omega, by omega, ?_⟩
    obtain ⟨j, rfl⟩ : ∃ j, k = a.length + j := ⟨k - a.length, by omega⟩
    rw [show a.length + j - a.length = j by omega, List.take_length_add_append]
  · exact .inl ⟨h, List.take_append_of_le_length h⟩
theorem word_cut (w : List UInt8) (v : JV) (k : Nat) (hk : k < w.length) : CutR (wordV (w.take k) w v) := by
  unfold wordV
  have h1 : w.isPrefixOf (w.take k) = false := by
    rw [Bool.eq_false_iff]
    intro hp
    have := (List.isPrefixOf_iff_prefix.1 hp).length_le
    rw [List.length_take] at this
    omega
  rw [h1, if_neg (by decide), if_pos (List.isPrefixOf_iff_prefix.2 (List.take_prefix _ _))]
  exact .inl ⟨rfl, rfl⟩
theorem txt_cut (s rest : List UInt8) (hv : valR s = true) (k : Nat) (hk : k < (quoL s).length) : (txtV ((quoL s).take k)).2.2 ≠ 0 ∧ (((txtV ((quoL s).take k)).2.2 = 3 ∧ (txtV ((quoL s).take k)).2.1 = []) ∨ (txtV ((quoL s).take k)).2.2 = 4) := by
  obtain ⟨-, h⟩ := take0_cut (quoL s) s _ (unq_quo s hv) k (by omega)
  rcases h with ⟨h1, h2⟩ | h1
  · have e : txtV ((quoL s).take k) = ([], [], 3) := by
      unfold txtV
      rw [if_neg (by rw [h1]; decide), h1, h2, Int.toNat_natCast, List.drop_eq_nil_of_le (by rw [List.length_take]; omega)]
    rw [e]; exact ⟨by decide, .inl ⟨rfl, rfl⟩⟩
  · have e : (txtV ((quoL s).take k)).2.2 = 4 := by
      unfold txtV
      rw [if_neg (by rw [h1]; decide)]
      exact h1
    exact ⟨by rw [e]; decide, .inr e⟩
theorem valV_nil3 (g d : Nat) : valV (g + 1) d [] = (.nul, [], 3) := by rw [valV]
theorem skip_take {r : List UInt8} {c : UInt8} {u : List UInt8} (h : r = c :: u) (hb : blankB c = false) (k : Nat) : skipB (r.take k) = r.take k := by
  cases k with
  | zero => rfl
  | succ k => rw [h, List.take_succ_cons]; exact skip_head rfl hb
theorem num_cut (n : Int) (hn : okNum n = true) (f d k : Nat) (hk : k < (Go.Lib.itoa n).length) (h0 : 0 < k) : CutR (valV (f + 1) d ((Go.Lib.itoa n).take k)) ∨ (valV (f + 1) d ((Go.Lib.itoa n).take k)).2 = ([], 0) := by
  obtain ⟨c, t, h1, h2⟩ := itoa_head n
  obtain ⟨j, rfl⟩ : ∃ j, k = j + 1 := ⟨k - 1, by omega⟩
  have e0 : (Go.Lib.itoa n).take (j + 1) = c :: t.take j := by rw [h1, List.take_succ_cons]
  have hall : ∀ x ∈ (Go.Lib.itoa n).take (j + 1), numCh x = true := fun x hx => itoa_num n x (List.mem_of_mem_take hx)
  obtain ⟨w1, w2⟩ := tw_all ((Go.Lib.itoa n).take (j + 1)) [] hall fol_nil
  rw [List.append_nil] at w1 w2
  obtain ⟨b1, b2⟩ := (okNum_iff n).1 hn
  have hv : valV (f + 1) d ((Go.Lib.itoa n).take (j + 1)) = numV ((Go.Lib.itoa n).take (j + 1)) := by rw [e0]; exact val_num f d c _ h2
  rw [hv]
  unfold numV
  rw [w1, w2]
  have hs := itoa_shape n
  by_cases hneg : n < 0
  · rw [decide_eq_true hneg, if_pos rfl] at hs
    have e1 : (Go.Lib.itoa n).take (j + 1) = [45] ++ (Go.Lib.decDigits n.natAbs).take j := by rw [hs]; rfl
    rw [e1]
    cases j with
    | zero =>
      left
      have : numT ([45] ++ (Go.Lib.decDigits n.natAbs).take 0) = (0, 4) := by
        unfold numT numC
        simp
      rw [this, if_neg (by decide)]
      exact .inr rfl
    | succ j =>
      right
      have := num_part true n.natAbs (j + 1) (by omega) (fun _ => by omega) (by omega)
      rw [if_pos rfl] at this
      rw [this, if_pos rfl]
  · rw [decide_eq_false hneg, if_neg (by decide), List.nil_append] at hs
    right
    have := num_part false n.natAbs (j + 1) (by omega) (fun e => by cases e) (by omega)
    rw [if_neg (by decide), List.nil_append, ← hs] at this
    rw [this, if_pos rfl]
mutual
theorem val_cut : ∀ (v : JV) (d f k : Nat), chk v d = 0 → k < (json v).length → 2 * k + 2 ≤ f → CutR (valV f d ((json v).take k)) ∨ ((∃ n, v = .num n) ∧ (valV f d ((json v).take k)).2 = ([], 0))
  | v, d, f, 0, _, _, hf => by
    obtain ⟨g, rfl⟩ : ∃ g, f = g + 1 := ⟨f - 1, by omega⟩
    rw [List.take_zero, valV_nil3]
    exact .inl (.inl ⟨rfl, rfl⟩)
  | .nul, d, f, k + 1, _, hk, hf => by
    obtain ⟨g, rfl⟩ : ∃ g, f = g + 1 := ⟨f - 1, by omega⟩
    rw [json] at hk ⊢
    have := word_cut [110, 117, 108, 108] .nul (k + 1) hk
    rw [List.take_succ_cons] at this ⊢
    rw [valV, if_pos rfl]
    exact .inl this
  | .boo b, d, f, k + 1, _, hk, hf => by
    obtain ⟨g, rfl⟩ : ∃ g, f = g + 1 := ⟨f - 1, by omega⟩
    rw [json] at hk ⊢
    cases b with
    | true =>
      rw [if_pos rfl] at hk ⊢
      have := word_cut [116, 114, 117, 101] (.boo true) (k + 1) hk
      rw [List.take_succ_cons] at this ⊢
      rw [valV, if_neg (by decide), if_neg (by decide), if_pos rfl]
      exact .inl this
    | false =>
      rw [if_neg (by decide)] at hk ⊢
      have := word_cut [102, 97, 108, 115, 101] (.boo false) (k + 1) hk
      rw [List.take_succ_cons] at this ⊢
      rw [valV, if_neg (by decide), if_pos rfl]
      exact .inl this
  | .num n, d, f, k + 1, h, hk, hf => by
    obtain ⟨g, rfl⟩ : ∃ g, f = g + 1 := ⟨f - 1, by omega⟩
    rw [chk] at h
    have hn : okNum n = true := by
      by_cases e : okNum n = true
      · exact e
      · rw [if_neg e] at h; exact absurd h (by decide)
    rw [json] at hk ⊢
    rcases num_cut n hn g d (k + 1) hk (by omega) with hc | hc
    · exact .inl hc
    · exact .inr ⟨⟨n, rfl⟩, hc⟩
  | .txt s, d, f, k + 1, h, hk, hf => by
    obtain ⟨g, rfl⟩ : ∃ g, f = g + 1 := ⟨f - 1, by omega⟩
    rw [chk] at h
    have hv : valR s = true := by
      by_cases e : valR s = true
      · exact e
      · rw [if_neg e] at h; exact absurd h (by decide)
    rw [json] at hk ⊢
    obtain ⟨h1, h2⟩ := txt_cut s [] hv (k + 1) hk
    obtain ⟨u, hu⟩ : ∃ u, (quoL s).take (k + 1) = 34 :: u := ⟨_, rfl⟩
    rw [hu] at h1 h2 ⊢
    rw [valV, if_neg (by decide), if_neg (by decide), if_neg (by decide), if_pos rfl, if_neg h1]
    exact .inl h2
  | .lst l, d, f, k + 1, h, hk, hf => by
    obtain ⟨g, rfl⟩ : ∃ g, f = g + 1 := ⟨f - 1, by omega⟩
    rw [chk] at h
    by_cases hd : 4 < d
    · rw [if_pos hd] at h; exact absurd h (by decide)
    rw [if_neg hd] at h
    by_cases hl : 64 < l.length
    · rw [if_pos hl] at h; exact absurd h (by decide)
    rw [if_neg hl] at h
    rw [json] at hk ⊢
    rw [List.length_cons] at hk
    rw [List.take_succ_cons, valV, if_neg (by decide), if_neg (by decide), if_neg (by decide), if_neg (by decide), if_pos rfl, if_neg hd]
    cases l with
    | nil =>
      have e : jsonL true [] ++ [93] = [93] := by rw [jsonL]; rfl
      rw [e] at hk ⊢
      obtain rfl : k = 0 := by simp at hk; omega
      rw [List.take_zero, show skipB [] = [] from rfl, if_neg (by simp)]
      obtain ⟨g', rfl⟩ : ∃ g', g = g' + 1 + 1 := ⟨g - 2, by omega⟩
      rw [lstV, if_neg (by simp), valV_nil3]
      exact .inl (.inl ⟨rfl, rfl⟩)
    | cons v t =>
      obtain ⟨c, u, e1, e2, e3⟩ := jsonL_head v t (d + 1) h [93]
      rw [skip_take e1 e2, if_neg (by rw [e1]; cases k with | zero => simp | succ k => rw [List.take_succ_cons]; simp [e3])]
      exact .inl (lst_cut (v :: t) [] d g 0 k (by simp) h (by omega) (by omega) (by omega))
  | .obj l, d, f, k + 1, h, hk, hf => by
    obtain ⟨g, rfl⟩ : ∃ g, f = g + 1 := ⟨f - 1, by omega⟩
    rw [chk] at h
    by_cases hd : 4 < d
    · rw [if_pos hd] at h; exact absurd h (by decide)
    rw [if_neg hd] at h
    by_cases hl : 64 < l.length
    · rw [if_pos hl] at h; exact absurd h (by decide)
    rw [if_neg hl] at h
    rw [json] at hk ⊢
    rw [List.length_cons] at hk
    rw [List.take_succ_cons, valV, if_neg (by decide), if_neg (by decide), if_neg (by decide), if_neg (by decide), if_neg (by decide), if_pos rfl, if_neg hd]
    cases l with
    | nil =>
      have e : jsonO true [] ++ [125] = [125] := by rw [jsonO]; rfl
      rw [e] at hk ⊢
      obtain rfl : k = 0 := by simp at hk; omega
      rw [List.take_zero, show skipB [] = [] from rfl, if_neg (by simp)]
      obtain ⟨g', rfl⟩ : ∃ g', g = g' + 1 := ⟨g - 1, by omega⟩
      rw [objV, if_neg (by simp)]
      have e2 : txtV [] = ([], [], 3) := by unfold txtV; rw [take0]; rfl
      rw [e2, if_pos (by simp)]
      exact .inl (.inl ⟨rfl, rfl⟩)
    | cons p t =>
      obtain ⟨u, e1⟩ := jsonO_head p t [125]
      rw [skip_take e1 (by decide), if_neg (by rw [e1]; cases k with | zero => simp | succ k => rw [List.take_succ_cons]; simp)]
      exact .inl (obj_cut (p :: t) [] d g 0 k (by simp) h (by omega) (by omega) (by omega))
  | .bad, _, _, _ + 1, h, _, _ => by rw [chk] at h; exact absurd h (by decide)
theorem lst_cut : ∀ (l : List JV) (acc : List JV) (d f n k : Nat), l ≠ [] → chkL l (d + 1) = 0 → n + l.length ≤ 64 → k < (jsonL true l ++ [93]).length → 2 * k + 3 ≤ f → CutR (lstV f d n ((jsonL true l ++ [93]).take k) acc)
  | [], _, _, _, _, _, h, _, _, _, _ => absurd rfl h
  | v :: t, acc, d, f, n, k, _, h, hn, hk, hf => by
    obtain ⟨g, rfl⟩ : ∃ g, f = g + 1 := ⟨f - 1, by omega⟩
    obtain ⟨h1, h2⟩ := chkL_cons v t _ h
    rw [jsonL_true, List.append_assoc] at hk ⊢
    rw [List.length_cons] at hn
    rw [lstV, if_neg (by omega)]
    rcases take_app (json v) (jsonL false t ++ [93]) k with ⟨hle, e⟩ | ⟨j, hj, hj0, e⟩
    · rw [e]
      have key : CutR (valV g (d + 1) ((json v).take k)) ∨ (valV g (d + 1) ((json v).take k)).2 = ([], 0) := by
        rcases Nat.lt_or_eq_of_le hle with hlt | heq
        · rcases val_cut v (d + 1) g k h1 hlt (by omega) with hc | ⟨-, hc⟩
          · exact .inl hc
          · exact .inr hc
        · right
          have := val_back v (d + 1) g [] h1 (by omega) (fun _ => fol_nil)
          rw [List.append_nil] at this
          rw [heq, List.take_length, this]
      rcases key with (⟨c1, c2⟩ | c1) | c1
      · rw [if_pos (by rw [c1]; decide)]; exact .inl ⟨c1, c2⟩
      · rw [if_pos (by rw [c1]; decide)]; exact .inr c1
      · rw [c1, if_neg (by simp)]
        exact .inl ⟨rfl, rfl⟩
    · rw [e]
      have hfol : folB ((jsonL false t ++ [93]).take j) := by
        obtain ⟨i, rfl⟩ : ∃ i, j = i + 1 := ⟨j - 1, by omega⟩
        cases t with
        | nil => rw [jsonL]; exact fol_cons _ _ (by decide)
        | cons v' t' => rw [jsonL_false]; exact fol_cons _ _ (by decide)
      rw [val_back v (d + 1) g _ h1 (by omega) (fun _ => hfol)]
      simp only []
      rw [if_neg (by simp)]
      obtain ⟨i, rfl⟩ : ∃ i, j = i + 1 := ⟨j - 1, by omega⟩
      cases t with
      | nil =>
        rw [jsonL] at hk
        simp at hk
        omega
      | cons v' t' =>
        rw [jsonL_false] at hk ⊢
        rw [List.cons_append, List.take_succ_cons, skip_head rfl (by decide)]
        simp only []
        rw [if_neg (by decide), if_pos trivial]
        obtain ⟨c, u, e1, e2, e3⟩ := jsonL_head v' t' (d + 1) h2 [93]
        rw [skip_take e1 e2]
        exact lst_cut (v' :: t') (acc ++ [v]) d g (n + 1) i (by simp) h2 (by rw [List.length_cons] at hn ⊢; omega) (by simp only [List.length_append, List.length_cons] at hk ⊢; omega) (by omega)
theorem obj_cut : ∀ (l : List (List UInt8 × JV)) (acc : List (List UInt8 × JV)) (d f n k : Nat), l ≠ [] → chkO (acc.map (·.1)) l (d + 1) = 0 → n + l.length ≤ 64 → k < (jsonO true l ++ [125]).length → 2 * k + 3 ≤ f → CutR (objV f d n ((jsonO true l ++ [125]).take k) acc)
  | [], _, _, _, _, _, h, _, _, _, _ => absurd rfl h
  | (x, v) :: t, acc, d, f, n, k, _, h, hn, hk, hf => by
    obtain ⟨g, rfl⟩ : ∃ g, f = g + 1 := ⟨f - 1, by omega⟩
    obtain ⟨h0, h3, h1, h2⟩ := chkO_cons _ x v t _ h
    rw [jsonO_true, List.append_assoc] at hk ⊢
    rw [List.length_cons] at hn
    rw [objV, if_neg (by omega)]
    rcases take_app (quoL x) (58 :: (json v ++ jsonO false t) ++ [125]) k with ⟨hle, e⟩ | ⟨j, hj, hj0, e⟩
    · rw [e]
      rcases Nat.lt_or_eq_of_le hle with hlt | heq
      · obtain ⟨q1, q2⟩ := txt_cut x [] h0 k hlt
        rw [if_pos q1]
        exact q2
      · have hb := txt_back x [] h0
        rw [List.append_nil] at hb
        rw [heq, List.take_length, hb]
        simp only []
        rw [if_neg (by simp), if_neg h3]
        exact .inl ⟨rfl, rfl⟩
    · rw [e, txt_back x _ h0]
      obtain ⟨i, rfl⟩ : ∃ i, j = i + 1 := ⟨j - 1, by omega⟩
      simp only []
      rw [if_neg (by simp), if_neg h3, List.cons_append, List.take_succ_cons, skip_head rfl (by decide)]
      simp only []
      rw [if_neg (by simp), List.append_assoc]
      obtain ⟨c, u, e1, e2, -⟩ := json_head v _ h1
      have e1' : json v ++ (jsonO false t ++ [125]) = c :: (u ++ (jsonO false t ++ [125])) := by rw [e1]; rfl
      rw [skip_take e1' e2]
      simp only [List.length_append, List.length_cons] at hk
      rcases take_app (json v) (jsonO false t ++ [125]) i with ⟨hle, e⟩ | ⟨j, hj', hj0', e⟩
      · rw [e]
        have key : CutR (valV g (d + 1) ((json v).take i)) ∨ (valV g (d + 1) ((json v).take i)).2 = ([], 0) := by
          rcases Nat.lt_or_eq_of_le hle with hlt | heq
          · rcases val_cut v (d + 1) g i h1 hlt (by omega) with hc | ⟨-, hc⟩
            · exact .inl hc
            · exact .inr hc
          · right
            have := val_back v (d + 1) g [] h1 (by omega) (fun _ => fol_nil)
            rw [List.append_nil] at this
            rw [heq, List.take_length, this]
        rcases key with (⟨c1, c2⟩ | c1) | c1
        · rw [if_pos (by rw [c1]; decide)]; exact .inl ⟨c1, c2⟩
        · rw [if_pos (by rw [c1]; decide)]; exact .inr c1
        · rw [c1, if_neg (by simp)]
          exact .inl ⟨rfl, rfl⟩
      · rw [e]
        have hfol : folB ((jsonO false t ++ [125]).take j) := by
          obtain ⟨i, rfl⟩ : ∃ i, j = i + 1 := ⟨j - 1, by omega⟩
          cases t with
          | nil => rw [jsonO]; exact fol_cons _ _ (by decide)
          | cons v' t' => rw [jsonO_false]; exact fol_cons _ _ (by decide)
        rw [val_back v (d + 1) g _ h1 (by omega) (fun _ => hfol)]
        simp only []
        rw [if_neg (by simp)]
        obtain ⟨m, rfl⟩ : ∃ m, j = m + 1 := ⟨j - 1, by omega⟩
        cases t with
        | nil =>
          rw [jsonO] at hk
          simp at hk
          omega
        | cons p t' =>
          rw [jsonO_false] at hk ⊢
          rw [List.cons_append, List.take_succ_cons, skip_head rfl (by decide)]
          simp only []
          rw [if_neg (by decide), if_pos trivial]
          obtain ⟨u, e1⟩ := jsonO_head p t' [125]
          rw [skip_take e1 (by decide)]
          exact obj_cut (p :: t') (acc ++ [(x, v)]) d g (n + 1) m (by simp) (by rw [List.map_append]; exact h2) (by rw [List.length_cons] at hn ⊢; omega) (by simp only [List.length_append, List.length_cons] at hk ⊢; omega) (by omega)
end
/-- JSON of a list or an object that is cut anywhere is too short, or of no form -/
theorem take_cut2 (v : JV) (k : Nat) (h : chk v 1 = 0) (hv : (∃ l, v = .lst l) ∨ ∃ l, v = .obj l) (hk : k < (json v).length) (hl : (json v).length ≤ 4096) : (takeV ((json v).take k)).2 = (k, 3) ∨ (takeV ((json v).take k)).2.2 = 4 := by
  obtain ⟨c, u, e1, e2, -⟩ := json_head v 1 h
  have hs : skipB ((json v).take k) = (json v).take k := skip_take e1 e2 k
  have hlen : ((json v).take k).length = k := by rw [List.length_take]; omega
  have hc : CutR (valV (2 * k + 2) 1 ((json v).take k)) := by
    rcases val_cut v 1 (2 * k + 2) k h hk (Nat.le_refl _) with hc | ⟨⟨n, hn⟩, -⟩
    · exact hc
    · rcases hv with ⟨l, hv⟩ | ⟨l, hv⟩ <;> (rw [hv] at hn; cases hn)
  unfold takeV
  rw [if_neg (by omega), hs, hlen]
  simp only []
  rcases hc with ⟨c1, c2⟩ | c1
  · rw [if_pos (by rw [c1]; decide), c1, c2]; exact .inl rfl
  · rw [if_pos (by rw [c1]; decide), c1]; exact .inr rfl
end Go.Proofs.YtcmkepkeeahioaaGreatDoor
namespace Go.Proofs.YtcmkepkeeahioaaGreatDoor
open Go.RowKit
theorem takeR_shift (f : Nat) : ∀ (r : List UInt8) (i j : Nat) (acc : List UInt8), takeR f r (i + j) acc = ((takeR f r i acc).1, (takeR f r i acc).2.1 + j, (takeR f r i acc).2.2) := by
  induction f with
  | zero => intro r i j acc; unfold takeR; simp only []; congr 2; omega
  | succ f ih =>
    intro r i j acc
    unfold takeR
    by_cases h0 : r = []
    · rw [if_pos h0, if_pos h0]
    rw [if_neg h0, if_neg h0]
    by_cases h1 : (stepT r).1 = 1
    · rw [if_pos h1, if_pos h1]; simp only []; congr 2; omega
    rw [if_neg h1, if_neg h1]
    by_cases h3 : (stepT r).1 = 3
    · rw [if_pos h3, if_pos h3]; simp only []; congr 2; omega
    rw [if_neg h3, if_neg h3]
    by_cases h4 : (stepT r).1 = 4
    · rw [if_pos h4, if_pos h4]
    rw [if_neg h4, if_neg h4, show i + j + (stepT r).2.1 = i + (stepT r).2.1 + j by omega]
    exact ih _ _ _ _
theorem takeR_range (f : Nat) : ∀ (r : List UInt8) (i : Nat) (acc : List UInt8), i ≤ (takeR f r i acc).2.1 ∧ (takeR f r i acc).2.1 ≤ i + r.length := by
  induction f with
  | zero => intro r i acc; unfold takeR; exact ⟨Nat.le_add_right _ _, Nat.le_refl _⟩
  | succ f ih =>
    intro r i acc
    unfold takeR
    by_cases h0 : r = []
    · rw [if_pos h0]; exact ⟨Nat.le_refl _, Nat.le_add_right _ _⟩
    have hpos := List.length_pos_iff.2 h0
    rw [if_neg h0]
    rcases stepT_kind r with hk | hk | hk | hk
    · obtain ⟨s1, s2⟩ := stepT_on r h0 hk
      rw [hk, if_neg (by decide), if_neg (by decide), if_neg (by decide)]
      obtain ⟨a, b⟩ := ih (r.drop (stepT r).2.1) (i + (stepT r).2.1) (acc ++ (stepT r).2.2)
      rw [List.length_drop] at b
      exact ⟨by omega, by omega⟩
    · rw [hk, if_pos rfl]; exact ⟨Nat.le_succ _, by show i + 1 ≤ _; omega⟩
    · rw [hk, if_neg (by decide), if_pos rfl]; exact ⟨Nat.le_add_right _ _, Nat.le_refl _⟩
    · rw [hk, if_neg (by decide), if_neg (by decide), if_pos rfl]; exact ⟨Nat.le_refl _, Nat.le_add_right _ _⟩
theorem takeP_nat (l : List UInt8) (a : Nat) (ha : a ≤ l.length) : takeP l (a : Int) = if a = l.length then ([], (a : Int), 3) else if l.getD a 0 ≠ 34 then ([], (a : Int), 4) else ((takeR (l.length + 1) (l.drop (a + 1)) (a + 1) []).1, ((takeR (l.length + 1) (l.drop (a + 1)) (a + 1) []).2.1 : Nat), (takeR (l.length + 1) (l.drop (a + 1)) (a + 1) []).2.2) := by
  unfold takeP
  rw [if_neg (by omega), Int.toNat_natCast]
  by_cases h : a = l.length
  · rw [if_pos (by omega), if_pos h]
  · rw [if_neg (by omega), if_neg h]
theorem takeP_zero (r : List UInt8) : 0 ≤ (takeP r 0).2.1 ∧ (takeP r 0).2.1 ≤ r.length ∧ ((takeP r 0).2.2 = 0 → 0 < (takeP r 0).2.1) := by
  have e := takeP_nat r 0 (Nat.zero_le _)
  have e' : takeP r 0 = takeP r ((0 : Nat) : Int) := rfl
  rw [e', e]
  by_cases h1 : 0 = r.length
  · rw [if_pos h1]; exact ⟨Int.le_refl _, by show (0 : Int) ≤ _; omega, fun h => absurd h (by show ¬ (3 = 0); decide)⟩
  rw [if_neg h1]
  by_cases h2 : r.getD 0 0 ≠ 34
  · rw [if_pos h2]; exact ⟨Int.le_refl _, by show (0 : Int) ≤ _; omega, fun h => absurd h (by show ¬ (4 = 0); decide)⟩
  rw [if_neg h2]
  have h := takeR_range (r.length + 1) (r.drop (0 + 1)) (0 + 1) []
  rw [List.length_drop] at h
  generalize (takeR (r.length + 1) (r.drop (0 + 1)) (0 + 1) []).2.1 = n at h ⊢
  exact ⟨by show (0 : Int) ≤ (n : Int); omega, by show (n : Int) ≤ _; omega, fun _ => by show (0 : Int) < (n : Int); omega⟩
/-- what is taken at a place is what is taken of what stands behind it -/
theorem takeP_at (l : List UInt8) (a : Nat) (ha : a ≤ l.length) : takeP l (a : Int) = ((takeP (l.drop a) 0).1, (a : Int) + (takeP (l.drop a) 0).2.1, (takeP (l.drop a) 0).2.2) := by
  have e := takeP_nat (l.drop a) 0 (Nat.zero_le _)
  have e' : takeP (l.drop a) 0 = takeP (l.drop a) ((0 : Nat) : Int) := rfl
  have hd : (l.drop a).length = l.length - a := List.length_drop
  rw [e', e, takeP_nat l a ha]
  by_cases h1 : a = l.length
  · rw [if_pos h1, if_pos (show 0 = (l.drop a).length by omega)]; simp
  rw [if_neg h1, if_neg (show ¬ 0 = (l.drop a).length by omega)]
  have hg : (l.drop a).getD 0 0 = l.getD a 0 := by
    rw [List.getD_eq_getElem?_getD, List.getD_eq_getElem?_getD, List.getElem?_drop]; simp
  rw [hg]
  by_cases h2 : l.getD a 0 ≠ 34
  · rw [if_pos h2, if_pos h2]; simp
  rw [if_neg h2, if_neg h2]
  have e1 : (l.drop a).drop (0 + 1) = l.drop (a + 1) := by rw [List.drop_drop]
  rw [e1]
  have hl : (l.drop (a + 1)).length = l.length - (a + 1) := List.length_drop
  rw [takeR_fuel _ ((l.drop a).length + 1) (l.length + 1) _ _ _ (Nat.le_refl _) (by rw [hl, hd]; omega) (by rw [hl]; omega)]
  generalize l.drop (a + 1) = R
  rw [show a + 1 = (0 + 1) + a by omega, takeR_shift]
  generalize takeR (l.length + 1) R (0 + 1) [] = Q
  simp only [Prod.mk.injEq, true_and, and_true]
  omega
theorem txtV_drop (r : List UInt8) : (txtV r).2.1 = r.drop (takeP r 0).2.1.toNat ∧ (txtV r).2.2 = (takeP r 0).2.2 ∧ ((takeP r 0).2.2 = 0 → (txtV r).1 = (takeP r 0).1) := by
  unfold txtV
  by_cases e : (takeP r 0).2.2 = 0
  · rw [if_pos e]; exact ⟨rfl, e.symm, fun _ => rfl⟩
  · rw [if_neg e]; exact ⟨rfl, rfl, fun h => absurd h e⟩
/-- the text at a place, as the reader takes it -/
theorem txt_at (l : List UInt8) (a : Nat) (ha : a ≤ l.length) : (takeP l (a : Int)).2.2 = (txtV (l.drop a)).2.2 ∧ (takeP l (a : Int)).2.1 = ((l.length - (txtV (l.drop a)).2.1.length : Nat) : Int) ∧ ((txtV (l.drop a)).2.2 = 0 → (takeP l (a : Int)).1 = (txtV (l.drop a)).1) := by
  obtain ⟨h1, h2, h3⟩ := txtV_drop (l.drop a)
  obtain ⟨b1, b2, b3⟩ := takeP_zero (l.drop a)
  rw [takeP_at l a ha]
  refine ⟨h2.symm, ?_, fun h => (h3 (h2 ▸ h)).symm⟩
  rw [h1, List.length_drop]
  have hd : (l.drop a).length = l.length - a := List.length_drop
  rw [hd] at b2 ⊢
  show (a : Int) + _ = _
  generalize (takeP (l.drop a) 0).2.1 = n at b1 b2 ⊢
  omega
theorem txtV_suf (r : List UInt8) : (txtV r).2.1 <:+ r := by rw [(txtV_drop r).1]; exact List.drop_suffix _ _
theorem txtV_less (r : List UInt8) (h : (txtV r).2.2 = 0) : (txtV r).2.1.length < r.length := by
  obtain ⟨h1, h2, h3⟩ := txtV_drop r
  obtain ⟨b1, b2, b3⟩ := takeP_zero r
  have b4 := b3 (h2 ▸ h)
  rw [h1, List.length_drop]
  omega
theorem skipB_suf (r : List UInt8) : skipB r <:+ r := List.dropWhile_suffix _
theorem wordV_suf (r w : List UInt8) (v : JV) : (wordV r w v).2.1 <:+ r := by
  unfold wordV
  split
  · exact List.drop_suffix _ _
  · split
    · exact List.nil_suffix
    · exact List.suffix_refl _
theorem wordV_less (r w : List UInt8) (v : JV) (hr : r ≠ []) (hw : w ≠ []) (h : (wordV r w v).2.2 = 0) : (wordV r w v).2.1.length < r.length := by
  have h1 := List.length_pos_iff.2 hr
  have h2 := List.length_pos_iff.2 hw
  unfold wordV at h ⊢
  split at h
  · rename_i e; rw [if_pos e]; show (r.drop w.length).length < _; rw [List.length_drop]; omega
  · split at h
    · exact absurd h (by show ¬ (3 = 0); decide)
    · exact absurd h (by show ¬ (4 = 0); decide)
theorem wordV_err (r w : List UInt8) (v : JV) : (wordV r w v).2.2 ≠ 99 := by
  unfold wordV
  split
  · simp
  · split <;> simp
theorem txtV_err (r : List UInt8) : (txtV r).2.2 ≠ 99 := by
  rw [(txtV_drop r).2.1]
  unfold takeP
  rw [if_neg (by omega)]
  split
  · decide
  split
  · decide
  have : ∀ (f : Nat) (q : List UInt8) (i : Nat) (acc : List UInt8), (takeR f q i acc).2.2 ≠ 99 := by
    intro f
    induction f with
    | zero => intro q i acc; unfold takeR; simp
    | succ f ih =>
      intro q i acc
      unfold takeR
      split
      · simp
      split
      · simp
      split
      · simp
      split
      · simp
      exact ih _ _ _
  exact this _ _ _ _
theorem numV_suf (r : List UInt8) : (numV r).2.1 <:+ r := by
  unfold numV
  split
  · exact List.dropWhile_suffix _
  · exact List.suffix_refl _
theorem numC_err (m : Bool) (w : List UInt8) : (numC m w).2 ≠ 99 := by
  unfold numC
  split
  · simp
  split
  · simp
  split
  · simp
  · simp
theorem numV_err (r : List UInt8) : (numV r).2.2 ≠ 99 := by
  unfold numV
  split
  · simp
  · show (numT _).2 ≠ 99
    unfold numT
    split <;> exact numC_err _ _
theorem numV_less (r : List UInt8) (h : (numV r).2.2 = 0) : (numV r).2.1.length < r.length := by
  unfold numV at h ⊢
  by_cases e : (numT (r.takeWhile numCh)).2 = 0
  · rw [if_pos e]
    show (r.dropWhile numCh).length < _
    have hl := congrArg List.length (List.takeWhile_append_dropWhile (p := numCh) (l := r))
    rw [List.length_append] at hl
    have : (r.takeWhile numCh).length ≠ 0 := by
      intro h0
      rw [List.length_eq_zero_iff.1 h0] at e
      exact absurd e (by decide)
    omega
  · rw [if_neg e] at h; exact absurd h e
theorem tail_suf (r : List UInt8) : r.tail <:+ r := List.tail_suffix _
/-- the end of what there was; shorter where there is no error; no end of the steps -/
def OkR (r : List UInt8) (need f : Nat) (p : Res) : Prop := p.2.1 <:+ r ∧ (need ≤ f → p.2.2 ≠ 99) ∧ (p.2.2 = 0 → p.2.1.length < r.length)
theorem OkR.none {r q : List UInt8} {need f e : Nat} {v : JV} (h : q <:+ r) (he : e ≠ 0) (h9 : e ≠ 99) : OkR r need f (v, q, e) := ⟨h, fun _ => h9, fun h => absurd h he⟩
theorem OkR.more {r q : List UInt8} {need f need' f' : Nat} {p : Res} (h : OkR q need' f' p) (hq : q <:+ r) (hn : need ≤ f → need' ≤ f') : OkR r need f p :=
  ⟨h.1.trans hq, fun k => h.2.1 (hn k), fun k => Nat.lt_of_lt_of_le (h.2.2 k) hq.length_le⟩
set_option maxHeartbeats 1000000 in
theorem ok_all : ∀ f : Nat, (∀ d r, OkR r (2 * r.length + 1) f (valV f d r)) ∧ (∀ d n r acc, OkR r (2 * r.length + 2) f (lstV f d n r acc)) ∧ (∀ d n r acc, OkR r (2 * r.length + 2) f (objV f d n r acc)) := by
  intro f
  induction f with
  | zero =>
    refine ⟨fun d r => ?_, fun d n r acc => ?_, fun d n r acc => ?_⟩
    · rw [valV]; exact ⟨List.suffix_refl _, fun h => by omega, fun h => absurd h (by show ¬ (99 = 0); decide)⟩
    · rw [lstV]; exact ⟨List.suffix_refl _, fun h => by omega, fun h => absurd h (by show ¬ (99 = 0); decide)⟩
    · rw [objV]; exact ⟨List.suffix_refl _, fun h => by omega, fun h => absurd h (by show ¬ (99 = 0); decide)⟩
  | succ f ih =>
    obtain ⟨ihv, ihl, iho⟩ := ih
    refine ⟨fun d r => ?_, fun d n r acc => ?_, fun d n r acc => ?_⟩
    · cases r with
      | nil => rw [valV]; exact .none List.nil_suffix (by decide) (by decide)
      | cons c t =>
        have hct : (c :: t : List UInt8) ≠ [] := by simp
        have ht : t <:+ c :: t := List.suffix_cons c t
        have hk : skipB t <:+ c :: t := (skipB_suf t).trans ht
        have hkl := hk.length_le
        have hsl := (skipB_suf t).length_le
        rw [valV]
        by_cases c1 : c = 110
        · rw [if_pos c1]; exact ⟨wordV_suf _ _ _, fun _ => wordV_err _ _ _, wordV_less _ _ _ hct (by decide)⟩
        rw [if_neg c1]
        by_cases c2 : c = 102
        · rw [if_pos c2]; exact ⟨wordV_suf _ _ _, fun _ => wordV_err _ _ _, wordV_less _ _ _ hct (by decide)⟩
        rw [if_neg c2]
        by_cases c3 : c = 116
        · rw [if_pos c3]; exact ⟨wordV_suf _ _ _, fun _ => wordV_err _ _ _, wordV_less _ _ _ hct (by decide)⟩
        rw [if_neg c3]
        by_cases c4 : c = 34
        · rw [if_pos c4]
          have h1 := txtV_suf (c :: t)
          have h2 := txtV_less (c :: t)
          have h3 := txtV_err (c :: t)
          by_cases e : (txtV (c :: t)).2.2 = 0
          · rw [if_pos e]; exact ⟨h1, fun _ => (by show (0 : Nat) ≠ 99; decide), fun _ => h2 e⟩
          · rw [if_neg e]; exact ⟨h1, fun _ => h3, fun h => absurd h e⟩
        rw [if_neg c4]
        by_cases c5 : c = 91
        · rw [if_pos c5]
          by_cases e : 4 < d
          · rw [if_pos e]; exact .none (List.suffix_refl _) (by decide) (by decide)
          rw [if_neg e]
          by_cases e2 : (skipB t).head? = some 93
          · rw [if_pos e2]
            have h1 : (skipB t).tail <:+ c :: t := (tail_suf _).trans hk
            have h2 := (tail_suf (skipB t)).length_le
            exact ⟨h1, fun _ => (by show (0 : Nat) ≠ 99; decide), fun _ => by show (skipB t).tail.length < _; rw [List.length_cons]; omega⟩
          · rw [if_neg e2]
            exact (ihl d 0 (skipB t) []).more hk (by rw [List.length_cons]; omega)
        rw [if_neg c5]
        by_cases c6 : c = 123
        · rw [if_pos c6]
          by_cases e : 4 < d
          · rw [if_pos e]; exact .none (List.suffix_refl _) (by decide) (by decide)
          rw [if_neg e]
          by_cases e2 : (skipB t).head? = some 125
          · rw [if_pos e2]
            have h1 : (skipB t).tail <:+ c :: t := (tail_suf _).trans hk
            have h2 := (tail_suf (skipB t)).length_le
            exact ⟨h1, fun _ => (by show (0 : Nat) ≠ 99; decide), fun _ => by show (skipB t).tail.length < _; rw [List.length_cons]; omega⟩
          · rw [if_neg e2]
            exact (iho d 0 (skipB t) []).more hk (by rw [List.length_cons]; omega)
        rw [if_neg c6]
        by_cases c7 : c = 45 ∨ digB c = true
        · rw [if_pos c7]; exact ⟨numV_suf _, fun _ => numV_err _, numV_less _⟩
        · rw [if_neg c7]; exact .none (List.suffix_refl _) (by decide) (by decide)
    · rw [lstV]
      by_cases e0 : n = 64 ∧ r ≠ []
      · rw [if_pos e0]; exact .none (List.suffix_refl _) (by decide) (by decide)
      rw [if_neg e0]
      obtain ⟨v1, v2, v3⟩ := ihv (d + 1) r
      by_cases e1 : (valV f (d + 1) r).2.2 = 0
      · rw [if_neg (fun e => e e1)]
        have hs1 := skipB_suf (valV f (d + 1) r).2.1
        have v4 := v3 e1
        cases hs : skipB (valV f (d + 1) r).2.1 with
        | nil => exact .none List.nil_suffix (by decide) (by decide)
        | cons c t =>
          rw [hs] at hs1
          have h1 : (c :: t) <:+ r := hs1.trans v1
          have h2 : t <:+ r := (List.suffix_cons c t).trans h1
          have h3 := hs1.length_le
          rw [List.length_cons] at h3
          simp only []
          by_cases c1 : c = 93
          · rw [if_pos c1]; exact ⟨h2, fun _ => (by show (0 : Nat) ≠ 99; decide), fun _ => by show t.length < _; omega⟩
          rw [if_neg c1]
          by_cases c2 : c = 44
          · rw [if_pos c2]
            have h4 := (skipB_suf t).length_le
            exact (ihl d (n + 1) (skipB t) _).more ((skipB_suf t).trans h2) (by omega)
          · rw [if_neg c2]; exact .none h1 (by decide) (by decide)
      · rw [if_pos e1]; exact ⟨v1, fun h => v2 (by omega), fun h => absurd h e1⟩
    · rw [objV]
      by_cases e0 : n = 64 ∧ r ≠ []
      · rw [if_pos e0]; exact .none (List.suffix_refl _) (by decide) (by decide)
      rw [if_neg e0]
      have x1 := txtV_suf r
      have x2 := txtV_err r
      have x3 := txtV_less r
      by_cases t1 : (txtV r).2.2 = 0
      · rw [if_neg (fun e => e t1)]
        by_cases t2 : (txtV r).1 ∈ acc.map (·.1)
        · rw [if_pos t2]; exact .none (List.suffix_refl _) (by decide) (by decide)
        rw [if_neg t2]
        have x4 := x3 t1
        have hk0 := skipB_suf (txtV r).2.1
        cases hs0 : skipB (txtV r).2.1 with
        | nil => exact .none List.nil_suffix (by decide) (by decide)
        | cons c0 t0 =>
          rw [hs0] at hk0
          have y1 : (c0 :: t0) <:+ r := hk0.trans x1
          have y2 : t0 <:+ r := (List.suffix_cons c0 t0).trans y1
          have y3 := hk0.length_le
          rw [List.length_cons] at y3
          simp only []
          by_cases c0' : c0 = 58
          · rw [if_neg (fun e => e c0')]
            have y4 := skipB_suf t0
            have y5 := y4.length_le
            obtain ⟨v1, v2, v3⟩ := ihv (d + 1) (skipB t0)
            by_cases e1 : (valV f (d + 1) (skipB t0)).2.2 = 0
            · rw [if_neg (fun e => e e1)]
              have v4 := v3 e1
              have hs1 := skipB_suf (valV f (d + 1) (skipB t0)).2.1
              cases hs : skipB (valV f (d + 1) (skipB t0)).2.1 with
              | nil => exact .none List.nil_suffix (by decide) (by decide)
              | cons c t =>
                rw [hs] at hs1
                have h1 : (c :: t) <:+ r := ((hs1.trans v1).trans y4).trans y2
                have h2 : t <:+ r := (List.suffix_cons c t).trans h1
                have h3 := hs1.length_le
                rw [List.length_cons] at h3
                simp only []
                by_cases c1 : c = 125
                · rw [if_pos c1]; exact ⟨h2, fun _ => (by show (0 : Nat) ≠ 99; decide), fun _ => by show t.length < _; omega⟩
                rw [if_neg c1]
                by_cases c2 : c = 44
                · rw [if_pos c2]
                  have h4 := (skipB_suf t).length_le
                  exact (iho d (n + 1) (skipB t) _).more ((skipB_suf t).trans h2) (by omega)
                · rw [if_neg c2]; exact .none h1 (by decide) (by decide)
            · rw [if_pos e1]; exact ⟨(v1.trans y4).trans y2, fun h => v2 (by omega), fun h => absurd h e1⟩
          · rw [if_pos c0']; exact .none y1 (by decide) (by decide)
      · rw [if_pos t1]; exact ⟨x1, fun _ => x2, fun h => absurd h t1⟩
/-- a text's end stands where its length says -/
theorem suf_drop {l q : List UInt8} (h : q <:+ l) : l.drop (l.length - q.length) = q := (List.suffix_iff_eq_drop.1 h).symm
end Go.Proofs.YtcmkepkeeahioaaGreatDoor
