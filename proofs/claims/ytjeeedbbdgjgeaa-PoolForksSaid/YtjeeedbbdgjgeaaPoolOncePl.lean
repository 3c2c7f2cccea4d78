/- Plain words on where contents come to stand when they are added one by one. -/
import Derived.Test.YtjeeedbbdgjgeaaPoolKeeps
namespace Go.Proofs.Ytjeeedbbdgjgeaa
open PoolPlain
theorem addC_pair (l : List (List UInt8)) (s : List UInt8) : ∃ x y, addC l s = (x, y) := ⟨(addC l s).1, (addC l s).2, rfl⟩
theorem addL_pre (l : List (List UInt8)) (s : List UInt8) : ∃ t, addL l s = l ++ t := by
  unfold addL
  split
  · exact ⟨[s], rfl⟩
  · exact ⟨[], by simp⟩
theorem addAll_pre (ls : List (List UInt8)) (i j : Nat) (h : i ≤ j) (hj : j ≤ ls.length) : ∃ t, addAll ls j = addAll ls i ++ t := by
  induction j with
  | zero =>
    have : i = 0 := by omega
    subst this
    exact ⟨[], by simp⟩
  | succ j ih =>
    by_cases e : i = j + 1
    · subst e; exact ⟨[], by simp⟩
    · obtain ⟨t, ht⟩ := ih (by omega) (by omega)
      rw [addAll_succ ls j (by omega), ht]
      obtain ⟨u, hu⟩ := addL_pre (addAll ls i ++ t) ls[j]
      exact ⟨t ++ u, by rw [hu, List.append_assoc]⟩
theorem addAll_len (ls : List (List UInt8)) (k : Nat) (hk : k ≤ ls.length) : (addAll ls k).length ≤ k := by
  induction k with
  | zero => exact Nat.le_refl _
  | succ k ih =>
    rw [addAll_succ ls k (by omega)]
    have := ih (by omega)
    unfold addL
    split
    · rw [List.length_append]; simp; omega
    · omega
theorem addAll_ok (ls : List (List UInt8)) (k : Nat) : OkL (addAll ls k) := by
  unfold addAll
  generalize ls.take k = xs
  have gen : ∀ (xs l : List (List UInt8)), OkL l → OkL (xs.foldl addL l) := by
    intro xs
    induction xs with
    | nil => intro l h; exact h
    | cons x t ih => intro l h; exact ih _ (okL_add l x h)
  exact gen xs [] okL_nil
/-- where the content of round i was told to stand -/
def cont (ls : List (List UInt8)) (i : Nat) : Nat × Nat := addC (addAll ls i) (ls.getD i [])
theorem cont_at (ls : List (List UInt8)) (i : Nat) (h : i < ls.length) : cont ls i = addC (addAll ls i) ls[i] := by
  unfold cont; rw [List.getD_eq_getElem?_getD, List.getElem?_eq_getElem h]; rfl
def Small (ls : List (List UInt8)) : Prop := ls.length ≤ 60 ∧ ls.flatten.length ≤ 3000
theorem small_len (ls : List (List UInt8)) (h : Small ls) (i : Nat) (hi : i < ls.length) : ls[i].length ≤ 3000 := by
  have := off_end ls i hi
  have := h.2
  omega
theorem spot (ls : List (List UInt8)) (hs : Small ls) (i : Nat) (hi : i < ls.length) (hne : ls[i] ≠ []) :
    ∃ k, ∃ hk : k < (addAll ls ls.length).length, (addAll ls ls.length)[k] = ls[i] ∧ cont ls i = (off (addAll ls ls.length) k, ls[i].length) := by
  obtain ⟨t, ht⟩ := addAll_pre ls (i + 1) ls.length (by omega) (Nat.le_refl _)
  have hsc := addAll_succ ls i hi
  have hlen := addAll_len ls i (by omega)
  have hl := small_len ls hs i hi
  have h60 := hs.1
  rw [cont_at ls i hi]
  by_cases hm : ls[i] ∈ addAll ls i
  · obtain ⟨k, hk, e1, e2⟩ := first_of _ _ hm
    obtain ⟨g1, g2, g3⟩ := add_old (addAll ls i) ls[i] (fun h => h.2.2.1 hm)
    rw [g2] at hsc
    rw [hsc] at ht
    refine ⟨k, by rw [ht, List.length_append]; omega, ?_, ?_⟩
    · simp only [ht]
      rw [List.getElem_append_left hk]; exact e1
    · rw [g3, fnd_hit _ _ k hk e1 e2, ht, off_append _ _ k (by omega)]
  · obtain ⟨g1, g2, g3, g4⟩ := add_new (addAll ls i) ls[i] hne (by omega) hm (by omega)
    rw [g2] at hsc
    rw [hsc] at ht
    refine ⟨(addAll ls i).length, by rw [ht, List.length_append, List.length_append]; simp; omega, ?_, ?_⟩
    · simp only [ht]
      rw [List.getElem_append_left (by simp), List.getElem_append_right (Nat.le_refl _)]
      simp
    · rw [g3, ht, List.append_assoc, off_append _ _ _ (Nat.le_refl _), off_all _ _ (Nat.le_refl _)]
theorem spot_nil (ls : List (List UInt8)) (i : Nat) (hi : i < ls.length) (he : ls[i] = []) : cont ls i = (0, 0) := by
  rw [cont_at ls i hi, he]
  obtain ⟨-, -, g3⟩ := add_old (addAll ls i) [] (fun h => h.1 rfl)
  rw [g3, fnd_miss _ _ (not_mem_nil _ (addAll_ok ls i))]
theorem none_at (l : List (List UInt8)) (h : OkL l) (o : Nat) : isIn l o 0 = false := by
  unfold isIn
  cases e : getK l o 0 with
  | none => rfl
  | some k =>
    obtain ⟨hk, h1, h2⟩ := getK_some l o 0 k e
    have := (h.2.1 l[k] (List.getElem_mem hk)).1
    exact absurd (List.length_eq_zero_iff.1 h2) this
theorem some_at (l : List (List UInt8)) (h : OkL l) (k : Nat) (hk : k < l.length) : isIn l (off l k) l[k].length = true ∧ getS l (off l k) l[k].length = l[k] := by
  have e := getS_at l h k hk
  exact ⟨by unfold isIn; rw [e]; rfl, getS_some l _ _ k e hk⟩
theorem off_inj (l : List (List UInt8)) (h : OkL l) (i j : Nat) (hi : i < l.length) (hj : j < l.length) (e : off l i = off l j) : i = j := by
  have key : ∀ a b, a < b → b < l.length → off l a < off l b := by
    intro a b hab hb
    have h1 := off_succ l a (by omega)
    have h2 := off_mono l (a + 1) b (by omega)
    have h3 := List.length_pos_iff.2 (h.2.1 l[a] (List.getElem_mem _)).1
    omega
  rcases Nat.lt_trichotomy i j with c | c | c
  · have := key i j c hj; omega
  · exact c
  · have := key j i c hi; omega
/-- two contents stand at one place just if they are one -/
theorem cont_eq (ls : List (List UInt8)) (hs : Small ls) (k i : Nat) (hk : k < ls.length) (hi : i < ls.length) (hne : ls[i] ≠ []) : (cont ls k = cont ls i) ↔ ls[k] = ls[i] := by
  have hok := addAll_ok ls ls.length
  obtain ⟨a, ha, a1, a2⟩ := spot ls hs i hi hne
  have hpos : 0 < ls[i].length := List.length_pos_iff.2 hne
  by_cases h0 : ls[k] = []
  · rw [spot_nil ls k hk h0, a2]
    constructor
    · intro h
      have := congrArg Prod.snd h
      simp only at this
      omega
    · intro h
      rw [h0] at h
      exact absurd h.symm hne
  · obtain ⟨b, hb, b1, b2⟩ := spot ls hs k hk h0
    rw [a2, b2]
    constructor
    · intro h
      have h1 := congrArg Prod.fst h
      simp only at h1
      have := off_inj _ hok b a hb ha h1
      subst this
      rw [← b1, ← a1]
    · intro h
      have : b = a := nodup_inj hok.2.2 b a hb ha (by rw [b1, a1, h])
      subst this
      rw [h]
/-- the sum of what was new, and how many there were -/
theorem once_step (ls : List (List UInt8)) (k : Nat) (hk : k < ls.length) : (addAll ls (k + 1)).flatten.length = (addAll ls k).flatten.length + (if addIs (addAll ls k) ls[k] then ls[k].length else 0) ∧ (addAll ls (k + 1)).length = (addAll ls k).length + (if addIs (addAll ls k) ls[k] then 1 else 0) := by
  rw [addAll_succ ls k hk]
  unfold addL
  by_cases h : addIs (addAll ls k) ls[k] = true
  · rw [if_pos h, if_pos h, if_pos h, List.flatten_append, List.length_append, List.length_append, List.flatten_cons, List.flatten_nil, List.append_nil]
    exact ⟨rfl, rfl⟩
  · rw [if_neg h, if_neg h, if_neg h]
    exact ⟨rfl, rfl⟩
end Go.Proofs.Ytjeeedbbdgjgeaa
