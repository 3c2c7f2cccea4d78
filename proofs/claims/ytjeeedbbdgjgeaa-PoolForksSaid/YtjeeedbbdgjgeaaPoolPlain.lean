/- Plain words on a pool of contents: where each stands, what is found, what is added (no program in sight). -/
import Derived.Test.YtjeeedbbdgjgeaaFnvPlain
namespace Go.Proofs.Ytjeeedbbdgjgeaa
namespace PoolPlain
def off (l : List (List UInt8)) (k : Nat) : Nat := (l.take k).flatten.length
theorem off_zero (l : List (List UInt8)) : off l 0 = 0 := by simp [off]
theorem off_succ (l : List (List UInt8)) (k : Nat) (hk : k < l.length) : off l (k + 1) = off l k + l[k].length := by
  unfold off; rw [List.take_succ_eq_append_getElem hk, List.flatten_append, List.length_append, List.flatten_cons, List.flatten_nil, List.append_nil]
theorem off_all (l : List (List UInt8)) (k : Nat) (hk : l.length ≤ k) : off l k = l.flatten.length := by unfold off; rw [List.take_of_length_le hk]
theorem off_le (l : List (List UInt8)) (k : Nat) : off l k ≤ l.flatten.length := by
  have h : l.flatten = (l.take k).flatten ++ (l.drop k).flatten := by rw [← List.flatten_append, List.take_append_drop]
  rw [h, List.length_append]; unfold off; omega
theorem off_end (l : List (List UInt8)) (k : Nat) (hk : k < l.length) : off l k + l[k].length ≤ l.flatten.length := by
  rw [← off_succ l k hk]; exact off_le l _
theorem off_append (l m : List (List UInt8)) (k : Nat) (hk : k ≤ l.length) : off (l ++ m) k = off l k := by
  unfold off; rw [List.take_append_of_le_length hk]
theorem off_mono (l : List (List UInt8)) (j k : Nat) (h : j ≤ k) : off l j ≤ off l k := by
  have h2 : off l j = off (l.take k) j := by unfold off; rw [List.take_take, Nat.min_eq_left h]
  rw [h2]; exact off_le _ _
theorem sub_at (l : List (List UInt8)) (k : Nat) (hk : k < l.length) : (l.flatten.drop (off l k)).take l[k].length = l[k] := by
  have h : l.flatten = (l.take k).flatten ++ (l[k] ++ (l.drop (k + 1)).flatten) := by
    conv => lhs; rw [← List.take_append_drop k l, List.flatten_append, List.drop_eq_getElem_cons hk, List.flatten_cons]
  rw [h]; unfold off
  rw [List.drop_left, List.take_left]
theorem flat_le (l : List (List UInt8)) (m : Nat) (h : ∀ s ∈ l, s.length ≤ m) : l.flatten.length ≤ l.length * m := by
  induction l with
  | nil => simp
  | cons x t ih =>
    have h1 := h x (List.mem_cons_self ..)
    have h2 := ih (fun s hs => h s (List.mem_cons_of_mem _ hs))
    rw [List.flatten_cons, List.length_append, List.length_cons, Nat.add_mul]
    omega

/-- where a content stands; is it there? -/
def fnd (l : List (List UInt8)) (s : List UInt8) : Nat × Nat × Bool := match l.findIdx? (fun x => x == s) with
  | some k => (off l k, s.length, true)
  | none => (0, 0, false)
theorem fnd_hit (l : List (List UInt8)) (s : List UInt8) (k : Nat) (hk : k < l.length) (he : l[k] = s) (hf : ∀ j (hj : j < k), l[j]'(Nat.lt_trans hj hk) ≠ s) : fnd l s = (off l k, s.length, true) := by
  have h : l.findIdx? (fun x => x == s) = some k := by
    rw [List.findIdx?_eq_some_iff_getElem]
    exact ⟨hk, by simpa using he, fun j hj => by simpa using hf j hj⟩
  unfold fnd; rw [h]
theorem fnd_miss (l : List (List UInt8)) (s : List UInt8) (h : s ∉ l) : fnd l s = (0, 0, false) := by
  have h : l.findIdx? (fun x => x == s) = none := by
    rw [List.findIdx?_eq_none_iff]
    intro x hx
    have : x ≠ s := fun e => h (e ▸ hx)
    simpa using this
  unfold fnd; rw [h]
theorem first_of (l : List (List UInt8)) (s : List UInt8) (h : s ∈ l) : ∃ k, ∃ hk : k < l.length, l[k] = s ∧ ∀ j (hj : j < k), l[j]'(Nat.lt_trans hj hk) ≠ s := by
  cases e : l.findIdx? (fun x => x == s) with
  | none =>
    rw [List.findIdx?_eq_none_iff] at e
    have := e s h
    simp at this
  | some k =>
    rw [List.findIdx?_eq_some_iff_getElem] at e
    obtain ⟨hk, h1, h2⟩ := e
    exact ⟨k, hk, by simpa using h1, fun j hj => by simpa using h2 j hj⟩
theorem not_mem_of (l : List (List UInt8)) (s : List UInt8) (h : ∀ j (hj : j < l.length), l[j] ≠ s) : s ∉ l := fun hm => by
  obtain ⟨j, hj, e⟩ := List.getElem_of_mem hm
  exact h j hj e

/-- the places of the contents of a sum -/
def grp (l : List (List UInt8)) (x : Nat) : List Nat := (List.range l.length).filter (fun k => FnvPlain.sum (l.getD k []) == x)
theorem grp_nil (x : Nat) : grp [] x = [] := rfl
theorem grp_snoc (l : List (List UInt8)) (s : List UInt8) (x : Nat) : grp (l ++ [s]) x = grp l x ++ (if FnvPlain.sum s = x then [l.length] else []) := by
  unfold grp
  rw [List.length_append, List.length_singleton, List.range_succ, List.filter_append]
  congr 1
  · refine List.filter_congr (fun k hk => ?_)
    have hk := List.mem_range.1 hk
    rw [List.getD_eq_getElem?_getD, List.getD_eq_getElem?_getD, List.getElem?_append_left hk]
  · by_cases h : FnvPlain.sum s = x
    · rw [if_pos h]; simp [h]
    · rw [if_neg h]; simp [h]
theorem grp_mem (l : List (List UInt8)) (x k : Nat) (h : k ∈ grp l x) : ∃ hk : k < l.length, FnvPlain.sum l[k] = x := by
  unfold grp at h
  obtain ⟨h1, h2⟩ := List.mem_filter.1 h
  have hk := List.mem_range.1 h1
  refine ⟨hk, ?_⟩
  rw [List.getD_eq_getElem?_getD, List.getElem?_eq_getElem hk] at h2
  simpa using h2
theorem mem_grp (l : List (List UInt8)) (k : Nat) (hk : k < l.length) : k ∈ grp l (FnvPlain.sum l[k]) := by
  unfold grp
  refine List.mem_filter.2 ⟨List.mem_range.2 hk, ?_⟩
  rw [List.getD_eq_getElem?_getD, List.getElem?_eq_getElem hk]
  simp
theorem grp_length (l : List (List UInt8)) (x : Nat) : (grp l x).length ≤ l.length := by
  unfold grp
  exact Nat.le_trans (List.length_filter_le _ _) (by simp)

/-- what a pool may hold -/
def OkL (l : List (List UInt8)) : Prop := l.length ≤ 2048 ∧ (∀ s ∈ l, s ≠ [] ∧ s.length ≤ 65536) ∧ l.Nodup
theorem okL_nil : OkL [] := ⟨by simp, by simp, List.nodup_nil⟩
theorem okL_flat (l : List (List UInt8)) (h : OkL l) : l.flatten.length ≤ 134217728 := by
  have h1 := flat_le l 65536 (fun s hs => (h.2.1 s hs).2)
  have := h.1
  omega
theorem nodup_inj {l : List (List UInt8)} (h : l.Nodup) (i j : Nat) (hi : i < l.length) (hj : j < l.length) (e : l[i] = l[j]) : i = j := by
  unfold List.Nodup at h
  rw [List.pairwise_iff_getElem] at h
  rcases Nat.lt_trichotomy i j with c | c | c
  · exact absurd e (h i j hi hj c)
  · exact c
  · exact absurd e.symm (h j i hj hi c)
theorem fnd_at (l : List (List UInt8)) (h : l.Nodup) (k : Nat) (hk : k < l.length) : fnd l l[k] = (off l k, l[k].length, true) :=
  fnd_hit l _ k hk rfl (fun j hj e => by have := nodup_inj h j k _ hk e; omega)

/-- what comes of adding -/
def addIs (l : List (List UInt8)) (s : List UInt8) : Bool := decide (s ≠ [] ∧ s.length ≤ 65536 ∧ s ∉ l ∧ l.length < 2048)
def addL (l : List (List UInt8)) (s : List UInt8) : List (List UInt8) := if addIs l s then l ++ [s] else l
def addC (l : List (List UInt8)) (s : List UInt8) : Nat × Nat := if addIs l s then (l.flatten.length, s.length) else ((fnd l s).1, (fnd l s).2.1)
def addE (l : List (List UInt8)) (s : List UInt8) : Nat := if s = [] then 2 else if 65536 < s.length then 5 else if s ∈ l then 0 else if 2048 ≤ l.length then 7 else 0
theorem okL_snoc (l : List (List UInt8)) (s : List UInt8) (h : OkL l) (h1 : s ≠ []) (h2 : s.length ≤ 65536) (h3 : s ∉ l) (h4 : l.length < 2048) : OkL (l ++ [s]) := by
  refine ⟨by simp; omega, fun x hx => ?_, ?_⟩
  · rcases List.mem_append.1 hx with hx | hx
    · exact h.2.1 x hx
    · rw [List.mem_singleton.1 hx]; exact ⟨h1, h2⟩
  · rw [List.nodup_append]
    exact ⟨h.2.2, by simp, fun a ha b hb e => h3 (by rw [List.mem_singleton.1 hb] at e; exact e ▸ ha)⟩
theorem okL_add (l : List (List UInt8)) (s : List UInt8) (h : OkL l) : OkL (addL l s) := by
  unfold addL
  split
  · rename_i hh
    unfold addIs at hh
    obtain ⟨h1, h2, h3, h4⟩ := of_decide_eq_true hh
    exact okL_snoc l s h h1 h2 h3 h4
  · exact h
theorem add_new (l : List (List UInt8)) (s : List UInt8) (h1 : s ≠ []) (h2 : s.length ≤ 65536) (h3 : s ∉ l) (h4 : l.length < 2048) : addIs l s = true ∧ addL l s = l ++ [s] ∧ addC l s = (l.flatten.length, s.length) ∧ addE l s = 0 := by
  have h : addIs l s = true := decide_eq_true ⟨h1, h2, h3, h4⟩
  refine ⟨h, ?_, ?_, ?_⟩
  · unfold addL; rw [if_pos h]
  · unfold addC; rw [if_pos h]
  · unfold addE; rw [if_neg h1, if_neg (by omega), if_neg h3, if_neg (by omega)]
theorem add_old (l : List (List UInt8)) (s : List UInt8) (h : ¬ (s ≠ [] ∧ s.length ≤ 65536 ∧ s ∉ l ∧ l.length < 2048)) : addIs l s = false ∧ addL l s = l ∧ addC l s = ((fnd l s).1, (fnd l s).2.1) := by
  have h : addIs l s = false := decide_eq_false h
  refine ⟨h, ?_, ?_⟩
  · unfold addL; rw [h]; rfl
  · unfold addC; rw [h]; rfl
theorem not_mem_nil (l : List (List UInt8)) (h : OkL l) : [] ∉ l := fun hm => (h.2.1 _ hm).1 rfl
theorem not_mem_long (l : List (List UInt8)) (h : OkL l) (s : List UInt8) (hs : 65536 < s.length) : s ∉ l := fun hm => by have := (h.2.1 _ hm).2; omega

/-- what stands at a place -/
def getK (l : List (List UInt8)) (o n : Nat) : Option Nat := (List.range l.length).find? (fun k => off l k == o && (l.getD k []).length == n)
def getS (l : List (List UInt8)) (o n : Nat) : List UInt8 := match getK l o n with | some k => l.getD k [] | none => []
theorem getK_some (l : List (List UInt8)) (o n k : Nat) (h : getK l o n = some k) : ∃ hk : k < l.length, off l k = o ∧ l[k].length = n := by
  unfold getK at h
  have h1 := List.find?_some h
  have h2 := List.mem_of_find?_eq_some h
  have hk := List.mem_range.1 h2
  refine ⟨hk, ?_⟩
  rw [List.getD_eq_getElem?_getD, List.getElem?_eq_getElem hk] at h1
  simpa using h1
theorem getK_none (l : List (List UInt8)) (o n : Nat) (h : getK l o n = none) (k : Nat) (hk : k < l.length) : ¬ (off l k = o ∧ l[k].length = n) := by
  unfold getK at h
  rw [List.find?_eq_none] at h
  have h1 := h k (List.mem_range.2 hk)
  rw [List.getD_eq_getElem?_getD, List.getElem?_eq_getElem hk] at h1
  simpa using h1
theorem getS_some (l : List (List UInt8)) (o n k : Nat) (h : getK l o n = some k) (hk : k < l.length) : getS l o n = l[k] := by
  unfold getS; rw [h]; show l.getD k [] = _; rw [List.getD_eq_getElem?_getD, List.getElem?_eq_getElem hk]; rfl
theorem getS_none (l : List (List UInt8)) (o n : Nat) (h : getK l o n = none) : getS l o n = [] := by unfold getS; rw [h]
/-- the first place is the one -/
theorem getK_first (l : List (List UInt8)) (o n k : Nat) (hk : k < l.length) (h : off l k = o ∧ l[k].length = n) (hf : ∀ j (hj : j < k), ¬ (off l j = o ∧ (l[j]'(Nat.lt_trans hj hk)).length = n)) : getK l o n = some k := by
  cases e : getK l o n with
  | none => exact absurd h (getK_none l o n e k hk)
  | some j =>
    obtain ⟨hj, e2⟩ := getK_some l o n j e
    rcases Nat.lt_trichotomy j k with c | c | c
    · exact absurd e2 (hf j c)
    · rw [c]
    · exfalso
      unfold getK at e
      rw [List.find?_range_eq_some] at e
      have := e.2.2 k c
      rw [List.getD_eq_getElem?_getD, List.getElem?_eq_getElem hk] at this
      simp [h.1, h.2] at this
/-- a content stands at its place -/
theorem getS_at (l : List (List UInt8)) (h : OkL l) (k : Nat) (hk : k < l.length) : getK l (off l k) l[k].length = some k := by
  refine getK_first l _ _ k hk ⟨rfl, rfl⟩ (fun j hj e => ?_)
  have h1 := off_succ l j (by omega)
  have h2 := off_mono l (j + 1) k (by omega)
  have h3 := (h.2.1 l[j] (List.getElem_mem _)).1
  have h4 : 0 < l[j].length := List.length_pos_iff.2 h3
  omega
end PoolPlain
end Go.Proofs.Ytjeeedbbdgjgeaa
