/- Plain words on what is added to a fork. -/
import Derived.Test.YtjeeedbbdgjgeaaPoolFork2
namespace Go.Proofs.Ytjeeedbbdgjgeaa
open Go.RowKit Go.Maps PoolPlain
def addOn (L ms : List (List UInt8)) (k : Nat) : List (List UInt8) := (ms.take k).foldl addL L
theorem addOn_zero (L ms : List (List UInt8)) : addOn L ms 0 = L := rfl
theorem addOn_succ (L ms : List (List UInt8)) (k : Nat) (hk : k < ms.length) : addOn L ms (k + 1) = addL (addOn L ms k) ms[k] := by
  unfold addOn; rw [List.take_succ_eq_append_getElem hk, List.foldl_append]; rfl
theorem addOn_pre (L ms : List (List UInt8)) (i j : Nat) (h : i ≤ j) (hj : j ≤ ms.length) : ∃ t, addOn L ms j = addOn L ms i ++ t := by
  induction j with
  | zero =>
    have : i = 0 := by omega
    subst this
    exact ⟨[], by simp⟩
  | succ j ih =>
    by_cases e : i = j + 1
    · subst e; exact ⟨[], by simp⟩
    · obtain ⟨t, ht⟩ := ih (by omega) (by omega)
      rw [addOn_succ L ms j (by omega), ht]
      obtain ⟨u, hu⟩ := addL_pre (addOn L ms i ++ t) ms[j]
      exact ⟨t ++ u, by rw [hu, List.append_assoc]⟩
theorem addOn_len (L ms : List (List UInt8)) (k : Nat) (hk : k ≤ ms.length) : (addOn L ms k).length ≤ L.length + k := by
  induction k with
  | zero => exact Nat.le_refl _
  | succ k ih =>
    rw [addOn_succ L ms k (by omega)]
    have := ih (by omega)
    unfold addL
    split
    · rw [List.length_append]; simp; omega
    · omega
theorem addOn_ok (L ms : List (List UInt8)) (k : Nat) (hL : OkL L) : OkL (addOn L ms k) := by
  unfold addOn
  generalize ms.take k = xs
  have gen : ∀ (xs l : List (List UInt8)), OkL l → OkL (xs.foldl addL l) := by
    intro xs
    induction xs with
    | nil => intro l h; exact h
    | cons x t ih => intro l h; exact ih _ (okL_add l x h)
  exact gen xs L hL
/-- what both had stands where it stood -/
theorem fnd_pre (L t : List (List UInt8)) (s : List UInt8) (h : s ∈ L) : fnd (L ++ t) s = fnd L s := by
  obtain ⟨k, hk, e1, e2⟩ := first_of L s h
  rw [fnd_hit L s k hk e1 e2, fnd_hit (L ++ t) s k (by rw [List.length_append]; omega) (by rw [List.getElem_append_left hk]; exact e1) (fun j hj => by rw [List.getElem_append_left (by omega)]; exact e2 j hj), off_append _ _ k (by omega)]
theorem fnd_is (l : List (List UInt8)) (s : List UInt8) : (fnd l s).2.2 = decide (s ∈ l) := by
  by_cases h : s ∈ l
  · obtain ⟨k, hk, e1, e2⟩ := first_of l s h
    rw [fnd_hit l s k hk e1 e2, decide_eq_true h]
  · rw [fnd_miss l s h, decide_eq_false h]
theorem mem_add (l : List (List UInt8)) (s : List UInt8) (h1 : s ≠ []) (h2 : s.length ≤ 65536) (h4 : l.length < 2048) : s ∈ addL l s := by
  by_cases h3 : s ∈ l
  · rw [(add_old l s (fun h => h.2.2.1 h3)).2.1]; exact h3
  · rw [(add_new l s h1 h2 h3 h4).2.1]; simp
/-- what the law looks at in its last loop -/
theorem forks_at (L ms : List (List UInt8)) (hL : OkL L) (hL4 : L.length ≤ 40) (hm4 : ms.length ≤ 40) (i : Nat) (hi : i < ms.length) (hs : ms[i].length ≤ 65536) :
    (fnd (addOn L ms ms.length) ms[i]).2.2 = decide (ms[i] ≠ []) ∧ ((fnd L ms[i]).2.2 = true → fnd (addOn L ms ms.length) ms[i] = fnd L ms[i]) := by
  obtain ⟨t, ht⟩ := addOn_pre L ms (i + 1) ms.length (by omega) (Nat.le_refl _)
  have hlen := addOn_len L ms i (by omega)
  have hok := addOn_ok L ms ms.length hL
  refine ⟨?_, fun h => ?_⟩
  · rw [fnd_is]
    by_cases he : ms[i] = []
    · rw [he, decide_eq_false (not_mem_nil _ hok), decide_eq_false (fun h => h rfl)]
    · have hm : ms[i] ∈ addOn L ms ms.length := by
        rw [ht, addOn_succ L ms i hi]
        exact List.mem_append_left _ (mem_add _ _ he hs (by omega))
      rw [decide_eq_true hm, decide_eq_true he]
  · rw [fnd_is] at h
    obtain ⟨u, hu⟩ := addOn_pre L ms 0 ms.length (by omega) (Nat.le_refl _)
    rw [addOn_zero] at hu
    rw [hu]
    exact fnd_pre L u _ (of_decide_eq_true h)
/-- the two pools of the law -/
def TwoSt (W : World) (p q : Nat) (l m : List (List UInt8)) (S T : Nat → Prop) (w : World) : Prop :=
  PoolAt w p l S ∧ PoolAt w q m T ∧ (∀ g, S g → ¬ T g) ∧ (∀ g, S g → W.heap.size ≤ g) ∧ (∀ g, T g → W.heap.size ≤ g) ∧ Below W.heap.size W w ∧ W.heap.size ≤ w.heap.size
theorem TwoSt.below {W : World} {p q : Nat} {l m : List (List UInt8)} {S T : Nat → Prop} {w w' : World} (h : TwoSt W p q l m S T w) (hb : Below w.heap.size w w') : TwoSt W p q l m S T w' :=
  ⟨h.1.below hb, h.2.1.below hb, h.2.2.1, h.2.2.2.1, h.2.2.2.2.1, h.2.2.2.2.2.1.trans (hb.mono h.2.2.2.2.2.2), Nat.le_trans h.2.2.2.2.2.2 hb.size⟩
theorem TwoSt.add {W : World} {p q : Nat} {l l' m : List (List UInt8)} {S T : Nat → Prop} {w w' : World} (h : TwoSt W p q l m S T w) (ha : After p l' S w w') : ∃ S', TwoSt W p q l' m S' T w' := by
  obtain ⟨h1, h2, h3, h4, h5, h6, h7⟩ := h
  obtain ⟨S', a1, a2, a3, a4, a5, a6⟩ := ha.lo h4 h6 h7
  exact ⟨S', a1, h2.touch a3 (fun g hg hs => h3 g hs hg), fun g hs ht => (a2 g hs).elim (fun h => h3 g h ht) (fun hle => by have := h2.2.1 g ht; omega), a4, h5, a5, a6⟩
theorem TwoSt.swap {W : World} {p q : Nat} {l m : List (List UInt8)} {S T : Nat → Prop} {w : World} (h : TwoSt W p q l m S T w) : TwoSt W q p m l T S w :=
  ⟨h.2.1, h.1, fun g ht hs => h.2.2.1 g hs ht, h.2.2.2.2.1, h.2.2.2.1, h.2.2.2.2.2⟩
/-- and the fork -/
def ThreeSt (W : World) (p q f : Nat) (l m n : List (List UInt8)) (w : World) : Prop :=
  ∃ S T U, PoolAt w p l S ∧ PoolAt w q m T ∧ PoolAt w f n U ∧ (∀ g, S g → ¬ T g) ∧ (∀ g, S g → ¬ U g) ∧ (∀ g, T g → ¬ U g) ∧ (∀ g, S g → W.heap.size ≤ g) ∧ (∀ g, T g → W.heap.size ≤ g) ∧ (∀ g, U g → W.heap.size ≤ g) ∧ Below W.heap.size W w ∧ W.heap.size ≤ w.heap.size
theorem ThreeSt.below {W : World} {p q f : Nat} {l m n : List (List UInt8)} {w w' : World} (h : ThreeSt W p q f l m n w) (hb : Below w.heap.size w w') : ThreeSt W p q f l m n w' := by
  obtain ⟨S, T, U, h1, h2, h3, h4, h5, h6, h7, h8, h9, h10, h11⟩ := h
  exact ⟨S, T, U, h1.below hb, h2.below hb, h3.below hb, h4, h5, h6, h7, h8, h9, h10.trans (hb.mono h11), Nat.le_trans h11 hb.size⟩
theorem ThreeSt.of_fork {W : World} {p q f : Nat} {l m : List (List UInt8)} {S T U : Nat → Prop} {w w' : World} (h : TwoSt W p q l m S T w) (hf : PoolAt w' f l U) (hU : ∀ g, U g → w.heap.size ≤ g) (hb : Below w.heap.size w w') : ThreeSt W p q f l m l w' :=
  ⟨S, T, U, h.1.below hb, h.2.1.below hb, hf, h.2.2.1, fun g hs hu => by have := h.1.2.1 g hs; have := hU g hu; omega, fun g hs hu => by have := h.2.1.2.1 g hs; have := hU g hu; omega, h.2.2.2.1, h.2.2.2.2.1, fun g hu => Nat.le_trans h.2.2.2.2.2.2 (hU g hu), h.2.2.2.2.2.1.trans (hb.mono h.2.2.2.2.2.2), Nat.le_trans h.2.2.2.2.2.2 hb.size⟩
theorem ThreeSt.rot {W : World} {p q f : Nat} {l m n : List (List UInt8)} {w : World} (h : ThreeSt W p q f l m n w) : ThreeSt W q f p m n l w := by
  obtain ⟨S, T, U, h1, h2, h3, h4, h5, h6, h7, h8, h9, h10, h11⟩ := h
  exact ⟨T, U, S, h2, h3, h1, h6, fun g ht hs => h4 g hs ht, fun g hu hs => h5 g hs hu, h8, h9, h7, h10, h11⟩
/-- an Add to the first of the three -/
theorem ThreeSt.adds {W : World} {p q f : Nat} {l m n : List (List UInt8)} {w : World} (h : ThreeSt W p q f l m n w) (s : ByteArray) (hs : s.size ≤ 9223372036854775807) :
    Calls Try.prog 22 #[.pointer (some ⟨p, 0, none⟩), .string s] w fun e w' => (∃ c1 c2 is er, e = .returned (.tuple #[.agg #[.int .u64 ((c1 : Nat) : Int), .int .u32 ((c2 : Nat) : Int)], .bool is, .int .i64 ((er : Nat) : Int)])) ∧ ThreeSt W p q f (addL l s.data.toList) m n w' := by
  obtain ⟨S, T, U, h1, h2, h3, h4, h5, h6, h7, h8, h9, h10, h11⟩ := h
  refine (pool_add p l S s w hs h1).mono ?_
  rintro e w' ⟨he, ha⟩
  obtain ⟨S', a1, a2, a3, a4, a5, a6⟩ := After.lo ha h7 h10 h11
  exact ⟨⟨_, _, _, _, he⟩, S', T, U, a1, h2.touch a3 (fun g hg hs => h4 g hs hg), h3.touch a3 (fun g hg hs => h5 g hs hg), fun g hs ht => (a2 g hs).elim (fun h => h4 g h ht) (fun hle => by have := h2.2.1 g ht; omega), fun g hs ht => (a2 g hs).elim (fun h => h5 g h ht) (fun hle => by have := h3.2.1 g ht; omega), h6, a4, h8, h9, a5, a6⟩
/-- an Add to the first of two, that tells when it is empty still -/
theorem TwoSt.adds {W : World} {p q : Nat} {l m : List (List UInt8)} {S T : Nat → Prop} {w : World} (h : TwoSt W p q l m S T w) (hN : l = [] → NilAt w p) (s : List UInt8) (hs : s.length ≤ 65536) :
    Calls Try.prog 22 #[.pointer (some ⟨p, 0, none⟩), .string (bs s)] w fun e w' => (∃ c1 c2 is er, e = .returned (.tuple #[.agg #[.int .u64 ((c1 : Nat) : Int), .int .u32 ((c2 : Nat) : Int)], .bool is, .int .i64 ((er : Nat) : Int)])) ∧ ∃ S', TwoSt W p q (addL l s) m S' T w' ∧ (addL l s = [] → NilAt w' p) ∧ Touch S w w' := by
  by_cases he : s = []
  · subst he
    refine (add_empty p w).mono ?_
    rintro e w' ⟨rfl, hb⟩
    have e2 : addL l [] = l := (add_old l [] (fun h => h.1 rfl)).2.1
    exact ⟨⟨0, 0, false, 2, rfl⟩, S, by rw [e2]; exact h.below hb, fun h0 => (hN (by rw [← e2]; exact h0)).below hb, Touch.of_below hb⟩
  · refine (pool_add p l S (bs s) w (by rw [bs_size]; omega) h.1).mono ?_
    rintro e w' ⟨he2, ha⟩
    rw [bs_data] at he2 ha
    have ha2 := ha
    obtain ⟨S2, -, -, ht⟩ := ha2
    obtain ⟨S', h'⟩ := h.add ha
    refine ⟨⟨_, _, _, _, he2⟩, S', h', fun h0 => ?_, ht⟩
    exfalso
    by_cases hl : l.length < 2048
    · have := mem_add l s he hs hl
      rw [h0] at this
      cases this
    · obtain ⟨t, ht⟩ := addL_pre l s
      rw [ht] at h0
      have := (List.append_eq_nil_iff.1 h0).1
      subst this
      exact hl (by decide)
/-- an Add to the second of two -/
theorem TwoSt.addq {W : World} {p q : Nat} {l m : List (List UInt8)} {S T : Nat → Prop} {w : World} (h : TwoSt W p q l m S T w) (hN : l = [] → NilAt w p) (s : List UInt8) (hs : s.length ≤ 65536) :
    Calls Try.prog 22 #[.pointer (some ⟨q, 0, none⟩), .string (bs s)] w fun e w' => (∃ c1 c2 is er, e = .returned (.tuple #[.agg #[.int .u64 ((c1 : Nat) : Int), .int .u32 ((c2 : Nat) : Int)], .bool is, .int .i64 ((er : Nat) : Int)])) ∧ ∃ T', TwoSt W p q l (addL m s) S T' w' ∧ (l = [] → NilAt w' p) := by
  refine (pool_add q m T (bs s) w (by rw [bs_size]; omega) h.2.1).mono ?_
  rintro e w' ⟨he2, ha⟩
  rw [bs_data] at he2 ha
  have ha2 := ha
  obtain ⟨S2, -, -, ht⟩ := ha2
  obtain ⟨T', h'⟩ := h.swap.add ha
  exact ⟨⟨_, _, _, _, he2⟩, T', h'.swap, fun h0 => (hN h0).touch (h.2.2.1 p h.1.2.2.1) ht⟩
theorem two_new (w : World) : TwoSt w w.heap.size (w.alloc (.cells #[.slice none 0 0, .slice none 0 0, .map none] 61)).heap.size [] [] (fun g => g = w.heap.size) (fun g => g = w.heap.size + 1) ((w.alloc (.cells #[.slice none 0 0, .slice none 0 0, .map none] 61)).alloc (.cells #[.slice none 0 0, .slice none 0 0, .map none] 61)) ∧
    NilAt ((w.alloc (.cells #[.slice none 0 0, .slice none 0 0, .map none] 61)).alloc (.cells #[.slice none 0 0, .slice none 0 0, .map none] 61)) w.heap.size := by
  have hB := own_new w (.cells #[.slice none 0 0, .slice none 0 0, .map none] 61) w.heap.size (Nat.le_refl _)
  have hq := PoolAt.new (w.alloc (.cells #[.slice none 0 0, .slice none 0 0, .map none] 61))
  have hz := World.size_alloc w (.cells #[.slice none 0 0, .slice none 0 0, .map none] 61)
  have hz2 := World.size_alloc (w.alloc (.cells #[.slice none 0 0, .slice none 0 0, .map none] 61)) (.cells #[.slice none 0 0, .slice none 0 0, .map none] 61)
  refine ⟨⟨(PoolAt.new w).alloc _, by rw [hz] at hq ⊢; exact hq, fun g h1 h2 => ?_, fun g h1 => ?_, fun g h1 => ?_, hB.alloc hB.size _, by omega⟩, (NilAt.new w).alloc _⟩
  · have h1 : g = w.heap.size := h1
    have h2 : g = w.heap.size + 1 := h2
    omega
  · have h1 : g = w.heap.size := h1
    omega
  · have h1 : g = w.heap.size + 1 := h1
    omega
/-- what the two Finds of the law's last loop tell -/
theorem forks_two (L ms : List (List UInt8)) (hL : OkL L) (hL4 : L.length ≤ 40) (hm4 : ms.length ≤ 40) (i : Nat) (hi : i < ms.length) (hs : ms[i].length ≤ 65536) :
    ∃ o n o2 n2 B2, fnd (addOn L ms ms.length) ms[i] = (o, n, decide (ms[i] ≠ [])) ∧ fnd L ms[i] = (o2, n2, B2) ∧ (B2 = true → o2 = o ∧ n2 = n ∧ ms[i] ≠ []) := by
  obtain ⟨h1, h2⟩ := forks_at L ms hL hL4 hm4 i hi hs
  refine ⟨(fnd (addOn L ms ms.length) ms[i]).1, (fnd (addOn L ms ms.length) ms[i]).2.1, (fnd L ms[i]).1, (fnd L ms[i]).2.1, (fnd L ms[i]).2.2, by rw [← h1], rfl, fun h => ?_⟩
  rw [h2 h]
  refine ⟨rfl, rfl, fun e => ?_⟩
  have h3 := h2 h
  rw [h3, h] at h1
  rw [e] at h1
  simp at h1
theorem forks_three (L ms : List (List UInt8)) (hL : OkL L) (hL4 : L.length ≤ 40) (hm4 : ms.length ≤ 40) (i : Nat) (hi : i < ms.length) (hs : ms[i].length ≤ 65536) :
    ∃ o n B o2 n2 B2, fnd (addOn L ms ms.length) ms[i] = (o, n, B) ∧ fnd L ms[i] = (o2, n2, B2) ∧ (((bs ms[i]).toList = [] ∧ B = false ∧ B2 = false) ∨ ((bs ms[i]).toList.isEmpty = false ∧ B = true ∧ B2 = false) ∨ ((bs ms[i]).toList.isEmpty = false ∧ B = true ∧ B2 = true ∧ o = o2 ∧ n = n2)) := by
  obtain ⟨o, n, o2, n2, B2, h1, h2, h3⟩ := forks_two L ms hL hL4 hm4 i hi hs
  refine ⟨o, n, _, o2, n2, B2, h1, h2, ?_⟩
  have e : (bs ms[i]).toList = ms[i] := by rw [ByteArray.toList_eq, bs_data]
  rw [e]
  by_cases he : ms[i] = []
  · left
    refine ⟨he, decide_eq_false (fun h => h he), ?_⟩
    cases B2 with
    | false => rfl
    | true => exact absurd he (h3 rfl).2.2
  · right
    have h4 : ms[i].isEmpty = false := by cases hh : ms[i] with
      | nil => exact absurd hh he
      | cons a t => rfl
    cases B2 with
    | false => exact .inl ⟨h4, decide_eq_true he, rfl⟩
    | true => exact .inr ⟨h4, decide_eq_true he, rfl, (h3 rfl).1.symm, (h3 rfl).2.1.symm⟩
/-- the text of a fork begins with what it came from -/
theorem forks_text (L ms : List (List UInt8)) : ∃ t, (addOn L ms ms.length).flatten = L.flatten ++ t := by
  obtain ⟨u, hu⟩ := addOn_pre L ms 0 ms.length (by omega) (Nat.le_refl _)
  rw [addOn_zero] at hu
  exact ⟨u.flatten, by rw [hu, List.flatten_append]⟩
theorem ThreeSt.text {W : World} {p q f : Nat} {l m n : List (List UInt8)} {w : World} (h : ThreeSt W p q f l m n w) : ∀ W', Below w.heap.size w W' → Calls Try.prog 29 #[.pointer (some ⟨p, 0, none⟩)] W' fun e w' => e = .returned (.string (bs l.flatten)) ∧ Below W'.heap.size W' w' := fun W' hW => by
  obtain ⟨S, T, U, h1, -⟩ := h.below hW
  exact pool_text p l S W' h1
theorem ThreeSt.len {W : World} {p q f : Nat} {l m n : List (List UInt8)} {w : World} (h : ThreeSt W p q f l m n w) : ∀ W', Below w.heap.size w W' → Calls Try.prog 26 #[.pointer (some ⟨p, 0, none⟩)] W' fun e w' => e = .returned (.int .i64 (l.length : Nat)) ∧ Below W'.heap.size W' w' := fun W' hW => by
  obtain ⟨S, T, U, h1, -⟩ := h.below hW
  refine (pool_len p l S W' h1).mono ?_
  rintro e w' ⟨rfl, rfl⟩
  exact ⟨rfl, Below.refl _ _⟩
theorem ThreeSt.find {W : World} {p q f : Nat} {l m n : List (List UInt8)} {w : World} (h : ThreeSt W p q f l m n w) (s : List UInt8) (hs : s.length ≤ 65536) {o k : Nat} {B : Bool} (hf : fnd l s = (o, k, B)) : ∀ W', Below w.heap.size w W' → Calls Try.prog 24 #[.pointer (some ⟨p, 0, none⟩), .string (bs s)] W' fun e w' => e = .returned (.tuple #[.agg #[.int .u64 (o : Nat), .int .u32 (k : Nat)], .bool B]) ∧ Below W'.heap.size W' w' := fun W' hW => by
  obtain ⟨S, T, U, h1, -⟩ := h.below hW
  refine (pool_find p l S (bs s) W' (by rw [bs_size]; omega) h1).mono ?_
  rintro e w' ⟨he, hb⟩
  rw [bs_data, hf] at he
  exact ⟨he, hb⟩
end Go.Proofs.Ytjeeedbbdgjgeaa
