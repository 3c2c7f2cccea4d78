/- The ends of lines in a text of lines, counted and cut at; how many lines are unlike (no program in sight). fault.Apply and fault.Harms at any kind. The document's Apply. The document's Apply: another range, another second line, no fault. Plain words on what is told of a range (no program in sight). The small example of the laws of layer 26. Plain words: what an origin answers (no program in sight). The small example of the laws of layer 28. The law FaultTells. The law function ReplyLays. The law function ReplyTakes. The law function ReplyBack. What FaultKeeps asks, in bytes; a text cut at its ends of lines. Plain words on feeds: what is taken off bytes, whatever the pieces (no program in sight). Plain words on connections: what is answered to bytes, whatever the pieces (no program in sight). Plain words on links: what comes back, and what the log has (no program in sight). -/
import Derived.Test.YthcomjhpjlcpdaaGreatDoorPl10
import Derived.Lib.SplitLaws
import Derived.Deep.RegionHeld3
set_option linter.unusedVariables false
set_option linter.unusedSimpArgs false
namespace Go.Proofs.YthcomjhpjlcpdaaGreatDoor
open Go.RowKit
open Go.Lib
theorem index_crlf (x rest : List UInt8) (hx : noEnds x) : index (x ++ 13 :: 10 :: rest) [13, 10] = ((x.length : Nat) : Int) := by
  induction x with
  | nil => unfold index; simp
  | cons c t ih =>
    have hc := hx c (List.mem_cons_self ..)
    have h0 : [(13 : UInt8), 10].isPrefixOf (c :: (t ++ 13 :: 10 :: rest)) = false := by
      simp only [List.isPrefixOf, Bool.and_eq_false_iff]
      left
      exact beq_eq_false_iff_ne.2 (fun e => hc.1 e.symm)
    rw [List.cons_append, index, if_neg (by rw [h0]; decide), ih (fun d hd => hx d (List.mem_cons_of_mem _ hd)), if_neg (by simp <;> omega)]
    simp
theorem count_crlf (x rest : List UInt8) (hx : noEnds x) : count (x ++ 13 :: 10 :: rest) [13, 10] = 1 + count rest [13, 10] := by
  rw [count_hit (by simp) (index_crlf x rest hx)]
  congr 2
  have e : x ++ 13 :: 10 :: rest = (x ++ [13, 10]) ++ rest := by simp
  rw [e, show x.length + [(13 : UInt8), 10].length = (x ++ [13, 10]).length from by simp, List.drop_left]
theorem split_crlf (x rest : List UInt8) (hx : noEnds x) : split (x ++ 13 :: 10 :: rest) [13, 10] = x :: split rest [13, 10] := by
  have hi := index_crlf x rest hx
  unfold split
  rw [count_crlf x rest hx, Nat.add_comm, splitK, if_neg (by rw [hi]; simp <;> omega), hi]
  have e : x ++ 13 :: 10 :: rest = (x ++ [13, 10]) ++ rest := by simp
  congr 1
  · simp
  · rw [e, show ((x.length : Int)).toNat + [(13 : UInt8), 10].length = (x ++ [13, 10]).length from by simp, List.drop_left]
theorem count_body (rest : List UInt8) : ∀ ls : List (List UInt8), (∀ x ∈ ls, noEnds x) → count (body ls ++ rest) [13, 10] = ls.length + count rest [13, 10] := by
  intro ls
  induction ls with
  | nil => intro _; simp [body]
  | cons x t ih =>
    intro h
    have e : body (x :: t) ++ rest = x ++ 13 :: 10 :: (body t ++ rest) := by simp [body]
    rw [e, count_crlf x _ (h x (List.mem_cons_self ..)), ih (fun y hy => h y (List.mem_cons_of_mem _ hy)), List.length_cons]
    omega
theorem split_body (rest : List UInt8) : ∀ ls : List (List UInt8), (∀ x ∈ ls, noEnds x) → split (body ls ++ rest) [13, 10] = ls ++ split rest [13, 10] := by
  intro ls
  induction ls with
  | nil => intro _; simp [body]
  | cons x t ih =>
    intro h
    have e : body (x :: t) ++ rest = x ++ 13 :: 10 :: (body t ++ rest) := by simp [body]
    rw [e, split_crlf x _ (h x (List.mem_cons_self ..)), ih (fun y hy => h y (List.mem_cons_of_mem _ hy))]
    rfl
theorem split_end (ls : List (List UInt8)) (h : ∀ x ∈ ls, noEnds x) : split (body ls ++ [13, 10]) [13, 10] = ls ++ [[], []] := by
  rw [split_body [13, 10] ls h]
  congr 1
/-- how many places of two lists are unlike -/
def nd : List (List UInt8) → List (List UInt8) → Nat
  | x :: a, y :: b => (if x = y then 0 else 1) + nd a b
  | _, _ => 0
theorem nd_step (a : List (List UInt8)) : ∀ (b : List (List UInt8)) (k : Nat) (h1 : k < a.length) (h2 : k < b.length), nd (a.take (k + 1)) (b.take (k + 1)) = nd (a.take k) (b.take k) + (if a[k] = b[k] then 0 else 1) := by
  induction a with
  | nil => intro b k h1; simp at h1
  | cons x t ih =>
    intro b k h1 h2
    cases b with
    | nil => simp at h2
    | cons y u =>
      cases k with
      | zero => simp [nd]
      | succ k =>
        have := ih u k (by simpa using h1) (by simpa using h2)
        simp only [List.take_succ_cons, nd, List.getElem_cons_succ] at this ⊢
        rw [this]; omega
theorem nd_same (a : List (List UInt8)) : nd a a = 0 := by
  induction a with
  | nil => rfl
  | cons x t ih => simp [nd, ih]
theorem nd_set (a : List (List UInt8)) : ∀ (i : Nat) (x : List UInt8) (h : i < a.length), nd a (a.set i x) = if a[i] = x then 0 else 1 := by
  induction a with
  | nil => intro i x h; simp at h
  | cons y t ih =>
    intro i x h
    cases i with
    | zero => simp [nd, nd_same]
    | succ i =>
      have := ih i x (by simpa using h)
      simp only [List.set_cons_succ, nd, List.getElem_cons_succ] at this ⊢
      rw [this]; simp
theorem set_in {x : List UInt8} {ls : List (List UInt8)} {i : Nat} (h : ∀ x ∈ ls, noEnds x) (hx : noEnds x) : ∀ y ∈ ls.set i x, noEnds y := by
  intro y hy
  rcases List.mem_or_eq_of_mem_set hy with hy | rfl
  · exact h y hy
  · exact hx
/-- a line that is another one makes the text another one, and just then -/
theorem put_same (ls : List (List UInt8)) (i : Nat) (x rest : List UInt8) (hi : i < ls.length) : (body (ls.set i x) ++ rest = body ls ++ rest) ↔ ls[i] = x := by
  constructor
  · intro h
    have h2 := List.append_cancel_right h
    rw [body_put ls i hi, body_split ls i hi] at h2
    have h3 := List.append_cancel_left h2
    exact (List.append_cancel_right h3).symm
  · intro h
    rw [← h, List.set_getElem_self]
/-- all that FaultKeeps asks of a fault that neither shuts nor cuts -/
theorem keeps_rep (c : Int) (fs : List (List UInt8 × List UInt8)) (b : List UInt8) (s : ByteArray) (k n : Int) (t : List UInt8) (h : repE c fs = 0) (hn : b.length ≤ 1000000) (hs : s.data.toList = repL c fs b) (h1 : k ≠ 1) (h2 : k ≠ 2) :
    ∃ ls ls' : List (List UInt8), ls'.length = ls.length ∧ ls.length ≤ 19 ∧ repL c fs b = body (ls.take (ls.length - 2)) ++ 13 :: 10 :: b ∧ applyF k n t s = body (ls'.take (ls.length - 2)) ++ 13 :: 10 :: b ∧ 2 ≤ ls.length ∧
      count s.data.toList [13, 10] = count (applyF k n t s) [13, 10] ∧ split (body (ls.take (ls.length - 2)) ++ [13, 10]) [13, 10] = ls ∧ split (body (ls'.take (ls.length - 2)) ++ [13, 10]) [13, 10] = ls' ∧
      nd ls ls' ≤ 1 ∧ (nd ls ls' = 1 ↔ applyF k n t s ≠ s.data.toList) := by
  obtain ⟨i, x, hi, hx, he, -⟩ := apply_rep c fs b s k n t h hn hs h1 h2
  obtain ⟨g1, g2⟩ := good_lines c fs b.length h hn
  have hno : ∀ y ∈ repLines c fs b.length, noEnds y := fun y hy => plain_noEnds y (g1 y hy).2.1
  have hrep : repL c fs b = body (repLines c fs b.length) ++ 13 :: 10 :: b := rfl
  generalize repLines c fs b.length = ls at *
  have hln : (ls ++ [[], []]).length - 2 = ls.length := by simp
  have hsl : (ls.set i x).length = ls.length := List.length_set
  have t1 : (ls ++ [[], []]).take ls.length = ls := List.take_left' rfl
  have t2 : (ls.set i x ++ [[], []]).take ls.length = ls.set i x := List.take_left' hsl
  have e1 : ls.set i x ++ [[], []] = (ls ++ [[], []]).set i x := by rw [List.set_append_left _ _ hi]
  have e2 : (ls ++ [([] : List UInt8), []])[i]'(by simp; omega) = ls[i] := List.getElem_append_left hi
  have hnd : nd (ls ++ [[], []]) (ls.set i x ++ [[], []]) = if ls[i] = x then 0 else 1 := by
    rw [e1, nd_set _ i x (by simp; omega), e2]
  refine ⟨ls ++ [[], []], ls.set i x ++ [[], []], by simp, by simp; omega, ?_, ?_, by simp, ?_, ?_, ?_, ?_, ?_⟩
  · rw [hln, t1]; exact hrep
  · rw [hln, t2]; exact he
  · rw [he, hs, hrep, count_body _ ls hno, count_body _ _ (set_in hno hx), hsl]
  · rw [hln, t1]; exact split_end ls hno
  · rw [hln, t2]; exact split_end _ (set_in hno hx)
  · rw [hnd]; split <;> omega
  · rw [hnd, he, hs, hrep]
    have := put_same ls i x (13 :: 10 :: b) hi
    by_cases e : ls[i] = x
    · rw [if_pos e]
      exact ⟨fun h => absurd h (by decide), fun h => absurd (this.2 e) h⟩
    · rw [if_neg e]
      exact ⟨fun _ h => e (this.1 h), fun _ => rfl⟩
end Go.Proofs.YthcomjhpjlcpdaaGreatDoor
namespace Go.Proofs.YthcomjhpjlcpdaaGreatDoor
open Go.RowKit
set_option maxRecDepth 100000 in
set_option maxHeartbeats 4000000 in
theorem apply_any (k n : Int) (t s : ByteArray) (w : World) (hk : 6 ≤ k) : Calls Tryz.prog 24 #[.agg #[.int .u8 k, .int .i64 n, .string t], .string s] w fun e w' => e = .returned (.string s) ∧ Below w.heap.size w w' := by
  have HB := Lib.hid (below_agg3 w (.int .u8 k) (.int .i64 n) (.string t) 53)
  go_enter Tryz.func24, Tryz.ntmps24
  go_wp2_with fail
  go_ret
  exact ⟨rfl, HB.out⟩
theorem apply_off (k n : Int) (t : List UInt8) (s : ByteArray) (h1 : k ≠ 1) (h2 : k ≠ 2) (h3 : k ≠ 3) (h4 : k ≠ 4) (h5 : k ≠ 5) : applyF k n t s = s.data.toList := by
  unfold applyF
  rw [if_neg h1, if_neg h2]
  by_cases hb : (headOf s).2.2 ≠ 0 ∨ (headOf s).1 = []
  · rw [if_pos hb]
  · rw [if_neg hb, if_neg h3, if_neg h5, if_neg h4]
theorem apply_bad (k n : Int) (t : List UInt8) (s : ByteArray) (h1 : k ≠ 1) (h2 : k ≠ 2) (h : (headOf s).2.2 ≠ 0 ∨ (headOf s).1.length = 0) : applyF k n t s = s.data.toList := by
  unfold applyF
  rw [if_neg h1, if_neg h2, if_pos]
  rcases h with h | h
  · exact .inl h
  · exact .inr (List.length_eq_zero_iff.1 h)
theorem fault_apply (k n : Int) (t s : ByteArray) (w : World) (hE : EnvW w) (hk0 : 0 ≤ k) (h0 : -9223372036854775808 ≤ n) (h1 : n ≤ 9223372036854775807) (ht : t.size ≤ 10000) (hs : s.size ≤ 1000000) :
    Calls Tryz.prog 24 #[.agg #[.int .u8 k, .int .i64 n, .string t], .string s] w fun e w' => e = .returned (.string (bs (applyF k n t.data.toList s))) ∧ Below w.heap.size w w' := by
  have same : applyF k n t.data.toList s = s.data.toList → (∀ (R : Ending → World → Prop), (R = fun e w' => e = .returned (.string s) ∧ Below w.heap.size w w') → Calls Tryz.prog 24 #[.agg #[.int .u8 k, .int .i64 n, .string t], .string s] w R) → Calls Tryz.prog 24 #[.agg #[.int .u8 k, .int .i64 n, .string t], .string s] w fun e w' => e = .returned (.string (bs (applyF k n t.data.toList s))) ∧ Below w.heap.size w w' := by
    intro e h
    rw [e, bs_self]
    exact h _ rfl
  rcases Int.lt_or_le k 6 with hk | hk
  case inr => exact same (apply_off k n _ s (by omega) (by omega) (by omega) (by omega) (by omega)) (fun R hR => by rw [hR]; exact apply_any k n t s w hk)
  have hc : k = 0 ∨ k = 1 ∨ k = 2 ∨ k = 3 ∨ k = 4 ∨ k = 5 := by omega
  have hh : (headOf s).2.2 ≠ 0 ∨ ((headOf s).2.2 = 0 ∧ (headOf s).1.length = 0) ∨ ((headOf s).2.2 = 0 ∧ (headOf s).1.length ≠ 0) := by omega
  have good : (headOf s).2.2 = 0 ∧ (headOf s).1.length ≠ 0 → ¬ ((headOf s).2.2 ≠ 0 ∨ (headOf s).1 = []) := by
    rintro ⟨a, b⟩ (c | c)
    · exact c a
    · exact b (by rw [c]; rfl)
  rcases hc with rfl | rfl | rfl | rfl | rfl | rfl
  · exact same (apply_off 0 n _ s (by omega) (by omega) (by omega) (by omega) (by omega)) (fun R hR => by rw [hR]; exact apply_keep n t s w hE h0 h1 ht hs)
  · exact apply_shut n t s w hE h0 h1 ht hs
  · exact apply_cut n t s w hE h0 h1 ht hs
  · rcases hh with hb | hb | hb
    · exact same (apply_bad 3 n _ s (by omega) (by omega) (.inl hb)) (fun R hR => by rw [hR]; exact apply_code_err n t s w hE hs hb)
    · exact same (apply_bad 3 n _ s (by omega) (by omega) (.inr hb.2)) (fun R hR => by rw [hR]; exact apply_code_none n t s w hE hs hb)
    · have e : applyF 3 n t.data.toList s = codeF n s := by
        unfold applyF codeF
        rw [if_neg (by omega), if_neg (by omega), if_neg (good hb), if_pos rfl]
      rw [e]
      exact apply_code n t s w hE h0 h1 ht hs hb
  · rcases hh with hb | hb | hb
    · exact same (apply_bad 4 n _ s (by omega) (by omega) (.inl hb)) (fun R hR => by rw [hR]; exact apply_place_err n t s w hE hs hb)
    · exact same (apply_bad 4 n _ s (by omega) (by omega) (.inr hb.2)) (fun R hR => by rw [hR]; exact apply_place_none n t s w hE hs hb)
    · have e : applyF 4 n t.data.toList s = placeT t.data.toList s (headOf s).1 := by
        unfold applyF placeT
        rw [if_neg (by omega), if_neg (by omega), if_neg (good hb), if_neg (by omega), if_neg (by omega), if_pos rfl]
        cases placeF crangeN (headOf s).1 0 <;> rfl
      rw [e]
      exact apply_place n t s w hE h0 h1 ht hs hb
  · rcases hh with hb | hb | hb
    · exact same (apply_bad 5 n _ s (by omega) (by omega) (.inl hb)) (fun R hR => by rw [hR]; exact apply_garble_err n t s w hE hs hb)
    · exact same (apply_bad 5 n _ s (by omega) (by omega) (.inr hb.2)) (fun R hR => by rw [hR]; exact apply_garble_none n t s w hE hs hb)
    · have e : applyF 5 n t.data.toList s = garbleF t.data.toList s (headOf s).1 := by
        unfold applyF garbleF
        rw [if_neg (by omega), if_neg (by omega), if_neg (good hb), if_neg (by omega), if_pos rfl]
      rw [e]
      exact apply_garble n t s w hE h0 h1 ht hs hb
/-- does a fault make another text of s? -/
def harmF (k n : Int) (t : List UInt8) (s : ByteArray) : Bool := decide (applyF k n t s ≠ s.data.toList)
end Go.Proofs.YthcomjhpjlcpdaaGreatDoor
namespace Go.Proofs.YthcomjhpjlcpdaaGreatDoor
open Go.RowKit
theorem rhead_some (s : ByteArray) (w : World) (hs : s.size ≤ 1000000) : Calls Tryz.prog 40 #[.string s] w fun e w' => ∃ a c, e = .returned (.tuple #[.slice a (headOf s).1.length c, .int .i64 (headOf s).2.1, .int .i64 (headOf s).2.2]) ∧ HoldsS w' (.slice a (headOf s).1.length c) (headOf s).1 ∧ Below w.heap.size w w' := by
  refine (ref_head s w (by omega)).mono ?_
  rintro e w' ⟨v, rfl, ho, hb⟩
  obtain ⟨a, c, rfl⟩ := slice_of_own ho
  exact ⟨a, c, rfl, HoldsS.of_own ho, hb⟩
set_option maxRecDepth 100000 in
set_option maxHeartbeats 2000000 in
theorem rapply_shut (n : Int) (t s : ByteArray) (w : World) :
    Calls Tryz.prog 30 #[.agg #[.int .u8 1, .int .i64 n, .string t], .string s] w fun e w' => e = .returned (.string ⟨#[]⟩) ∧ Below w.heap.size w w' := by
  have HB := Lib.hid (below_agg3 w (.int .u8 1) (.int .i64 n) (.string t) 54)
  go_enter Tryz.func30, Tryz.ntmps30
  go_wp2_with fail
  go_ret
  exact ⟨rfl, HB.out⟩
set_option maxRecDepth 100000 in
set_option maxHeartbeats 2000000 in
theorem rapply_cut (n : Int) (t s : ByteArray) (w : World) :
    Calls Tryz.prog 30 #[.agg #[.int .u8 2, .int .i64 n, .string t], .string s] w fun e w' => e = .returned (.string (bs (s.data.toList.take (max 0 (min n (s.size : Int))).toNat))) ∧ Below w.heap.size w w' := by
  have HB := Lib.hid (below_agg3 w (.int .u8 2) (.int .i64 n) (.string t) 54)
  go_enter Tryz.func30, Tryz.ntmps30
  go_wp2_with fail
  go_ret
  exact ⟨ret_str (bs_take _ _), HB.out⟩
set_option maxRecDepth 100000 in
set_option maxHeartbeats 2000000 in
theorem rapply_bad (k n : Int) (t s : ByteArray) (w : World) (hs : s.size ≤ 1000000) (h1 : k ≠ 1) (h2 : k ≠ 2) (hok : (headOf s).2.2 ≠ 0 ∨ ((headOf s).2.2 = 0 ∧ (headOf s).1.length = 0)) :
    Calls Tryz.prog 30 #[.agg #[.int .u8 k, .int .i64 n, .string t], .string s] w fun e w' => e = .returned (.string s) ∧ Below w.heap.size w w' := by
  have HB := Lib.hid (below_agg3 w (.int .u8 k) (.int .i64 n) (.string t) 54)
  have HH := Lib.hid (fun W => rhead_some s W hs)
  have u1 : (k == 1) = false := beq_eq_false_iff_ne.2 h1
  have u2 : (k == 2) = false := beq_eq_false_iff_ne.2 h2
  rcases hok with hok | hok
  · have g2 : (((headOf s).2.2 : Int) != 0) = true := by rw [bne_iff_ne]; omega
    generalize (headOf s).2.2 = ER at HH g2 hok
    go_enter Tryz.func30, Tryz.ntmps30
    go_wp2_with fail
    refine (HH.out _).mono ?_
    rintro e W2 ⟨al, cl, rfl, hhs, hb2⟩
    have HB2 := Lib.hid hb2
    clear hhs hb2
    go_wp2_with fail
    go_ret
    exact ⟨rfl, bstep HB.out HB2.out⟩
  · obtain ⟨g1, g2⟩ := hok
    rw [g1, g2] at HH
    clear g1 g2
    go_enter Tryz.func30, Tryz.ntmps30
    go_wp2_with fail
    refine (HH.out _).mono ?_
    rintro e W2 ⟨al, cl, rfl, hhs, hb2⟩
    have HB2 := Lib.hid hb2
    clear hhs hb2
    go_wp2_with fail
    go_ret
    exact ⟨rfl, bstep HB.out HB2.out⟩
structure RD (W0 W1 : World) (X : Nat) (k n : Int) (t : ByteArray) : Prop where
  bel : Below W0.heap.size W0 W1
  arg : W1.heap[X]? = some (.cells #[.int .u8 k, .int .i64 n, .string t] 54 (0, 0))
  lt : X < W0.heap.size
theorem RD.start (w : World) (k n : Int) (t : ByteArray) : RD (w.alloc (.cells #[.int .u8 k, .int .i64 n, .string t] 54)) (w.alloc (.cells #[.int .u8 k, .int .i64 n, .string t] 54)) w.heap.size k n t := ⟨Below.refl _ _, heap_alloc_new w _, by simp⟩
theorem RD.step {W0 W1 W2 : World} {X : Nat} {k n : Int} {t : ByteArray} (h : RD W0 W1 X k n t) (hb : Below W1.heap.size W1 W2) : RD W0 W2 X k n t := ⟨bstep h.bel hb, (hb.block X (Nat.lt_of_lt_of_le h.lt h.bel.size)).trans h.arg, h.lt⟩
theorem RD.cells {W0 W1 : World} {X : Nat} {k n : Int} {t : ByteArray} (h : RD W0 W1 X k n t) : W1.cell? ⟨X, 0, none⟩ = some (.int .u8 k) ∧ W1.cell? ⟨X, 1, none⟩ = some (.int .i64 n) ∧ W1.cell? ⟨X, 2, none⟩ = some (.string t) :=
  let ⟨a, b, c, _⟩ := three_facts h.arg
  ⟨a, b, c⟩
set_option maxRecDepth 100000 in
set_option maxHeartbeats 2000000 in
theorem rapply_code (n : Int) (t s : ByteArray) (w : World) (h0 : -9223372036854775808 ≤ n) (h1 : n ≤ 9223372036854775807) (hs : s.size ≤ 1000000) (hok : (headOf s).2.2 = 0 ∧ (headOf s).1.length ≠ 0) :
    Calls Tryz.prog 30 #[.agg #[.int .u8 3, .int .i64 n, .string t], .string s] w fun e w' => e = .returned (.string (bs (codeF n s))) ∧ Below w.heap.size w w' := by
  have HB := Lib.hid (below_agg3 w (.int .u8 3) (.int .i64 n) (.string t) 54)
  have HD := Lib.hid (RD.start w 3 n t)
  have HH := Lib.hid (fun W => rhead_some s W hs)
  have HS := Lib.hid (fun w => ref_print n w h0 h1)
  have HP := Lib.hid (fun W => ref_line s (printOf n) 0 W hs (Nat.le_trans (printOf_size n) (by decide)) (by decide))
  obtain ⟨g1, g2⟩ := hok
  have g3 : (((headOf s).1.length : Int) == 0) = false := by rw [beq_eq_false_iff_ne]; omega
  have g4 : ¬ (((headOf s).1.length : Int) = 0) := by omega
  rw [g1] at HH
  generalize (headOf s).1.length = LN at HH g3 g4
  clear g1 g2
  by_cases he : printErr n = 0
  · have HR : Hid (codeF n s = putF s 0 (printOf n).data.toList) := Lib.hid (if_neg (fun h => h he))
    rw [he] at HS
    clear he
    go_enter Tryz.func30, Tryz.ntmps30
    go_wp2_with fail
    generalize w.alloc (.cells #[.int .u8 3, .int .i64 n, .string t] 54) = W0 at HB HD ⊢
    generalize w.heap.size = X at HD ⊢
    refine (HH.out _).mono ?_
    rintro e W2 ⟨al, cl, rfl, hhs, hb2⟩
    have HD2 := Lib.hid (HD.out.step hb2)
    obtain ⟨x0, x1, x2⟩ := HD2.out.cells
    clear hhs hb2 HH
    go_wp2_with fail
    refine (HS.out _).mono ?_
    rintro e W3 ⟨rfl, hb3⟩
    have HD3 := Lib.hid (HD2.out.step hb3)
    clear hb3 x0 x1 x2
    go_wp2_with fail
    refine (HP.out _).mono ?_
    rintro e W4 ⟨rfl, hb4⟩
    have HD4 := Lib.hid (HD3.out.step hb4)
    clear hb4
    go_wp2_with fail
    go_ret
    exact ⟨ret_str (by rw [HR.out]), bstep HB.out HD4.out.bel⟩
  · have HR : Hid (s = bs (codeF n s)) := Lib.hid (by unfold codeF; rw [if_pos he, bs_self])
    have tz : ((printErr n : Int) != 0) = true := by rw [bne_iff_ne]; omega
    generalize printErr n = E at HS tz
    clear he
    go_enter Tryz.func30, Tryz.ntmps30
    go_wp2_with fail
    generalize w.alloc (.cells #[.int .u8 3, .int .i64 n, .string t] 54) = W0 at HB HD ⊢
    generalize w.heap.size = X at HD ⊢
    refine (HH.out _).mono ?_
    rintro e W2 ⟨al, cl, rfl, hhs, hb2⟩
    have HD2 := Lib.hid (HD.out.step hb2)
    obtain ⟨x0, x1, x2⟩ := HD2.out.cells
    clear hhs hb2 HH
    go_wp2_with fail
    refine (HS.out _).mono ?_
    rintro e W3 ⟨rfl, hb3⟩
    have HD3 := Lib.hid (HD2.out.step hb3)
    clear hb3 x0 x1 x2
    go_wp2_with fail
    go_ret
    exact ⟨ret_str HR.out, bstep HB.out HD3.out.bel⟩
end Go.Proofs.YthcomjhpjlcpdaaGreatDoor
namespace Go.Proofs.YthcomjhpjlcpdaaGreatDoor
open Go.RowKit
set_option maxRecDepth 100000 in
set_option maxHeartbeats 4000000 in
theorem rapply_garble (n : Int) (t s : ByteArray) (w : World) (hs : s.size ≤ 1000000) (ht : t.size ≤ 1000000) (hok : (headOf s).2.2 = 0 ∧ (headOf s).1.length ≠ 0) :
    Calls Tryz.prog 30 #[.agg #[.int .u8 5, .int .i64 n, .string t], .string s] w fun e w' => e = .returned (.string (bs (garbleF t.data.toList s (headOf s).1))) ∧ Below w.heap.size w w' := by
  have HB := Lib.hid (below_agg3 w (.int .u8 5) (.int .i64 n) (.string t) 54)
  have HD := Lib.hid (RD.start w 5 n t)
  have HH := Lib.hid (fun W => rhead_some s W hs)
  have HC := Lib.hid (fun W => ref_clean t W ht)
  have HP := Lib.hid (fun W => ref_line s (bs (cleanL t.data.toList)) 1 W hs (Nat.le_trans (clean_size t) ht) (by decide))
  obtain ⟨g1, g2⟩ := hok
  have g3 : (((headOf s).1.length : Int) == 0) = false := by rw [beq_eq_false_iff_ne]; omega
  have g4 : ¬ (((headOf s).1.length : Int) = 0) := by omega
  rw [g1] at HH
  by_cases hl : (headOf s).1.length < 2
  · have HR : Hid (s = bs (garbleF t.data.toList s (headOf s).1)) := Lib.hid (by unfold garbleF; rw [if_pos hl, bs_self])
    have hl1 : ¬ ((1 : Int) < ((headOf s).1.length : Int)) := by omega
    generalize (headOf s).1.length = LN at HH g3 g4 hl1
    clear g1 g2 hl
    go_enter Tryz.func30, Tryz.ntmps30
    go_wp2_with fail
    generalize w.alloc (.cells #[.int .u8 5, .int .i64 n, .string t] 54) = W0 at HB HD ⊢
    generalize w.heap.size = X at HD ⊢
    refine (HH.out _).mono ?_
    rintro e W2 ⟨al, cl, rfl, hhs, hb2⟩
    have HD2 := Lib.hid (HD.out.step hb2)
    obtain ⟨x0, x1, x2⟩ := HD2.out.cells
    clear hhs hb2 HH
    go_wp2_with fail
    refine wp_loop_rounds 1 ?_
    rw [rounds_succ]
    go_wp2_with fail
    go_ret
    exact ⟨ret_str HR.out, bstep HB.out HD2.out.bel⟩
  · have HR : Hid (garbleF t.data.toList s (headOf s).1 = putF s 1 (bs (cleanL t.data.toList)).data.toList) := Lib.hid (by unfold garbleF; rw [if_neg hl, bs_data])
    have hl1 : (1 : Int) < ((headOf s).1.length : Int) := by omega
    generalize bs (cleanL t.data.toList) = Q at HC HP HR
    generalize (headOf s).1.length = LN at HH g3 g4 hl1
    clear g1 g2 hl
    go_enter Tryz.func30, Tryz.ntmps30
    go_wp2_with fail
    generalize w.alloc (.cells #[.int .u8 5, .int .i64 n, .string t] 54) = W0 at HB HD ⊢
    generalize w.heap.size = X at HD ⊢
    refine (HH.out _).mono ?_
    rintro e W2 ⟨al, cl, rfl, hhs, hb2⟩
    have HD2 := Lib.hid (HD.out.step hb2)
    obtain ⟨x0, x1, x2⟩ := HD2.out.cells
    clear hhs hb2 HH
    go_wp2_with fail
    refine (HC.out _).mono ?_
    rintro e W3 ⟨rfl, rfl⟩
    go_wp2_with fail
    refine (HP.out _).mono ?_
    rintro e W4 ⟨rfl, hb4⟩
    have HD4 := Lib.hid (HD2.out.step hb4)
    clear hb4
    go_wp2_with fail
    go_ret
    exact ⟨ret_str (by rw [HR.out]), bstep HB.out HD4.out.bel⟩
set_option maxRecDepth 100000 in
set_option maxHeartbeats 4000000 in
theorem rapply_rest (k n : Int) (t s : ByteArray) (w : World) (hs : s.size ≤ 1000000) (h1 : k ≠ 1) (h2 : k ≠ 2) (h3 : k ≠ 3) (h4 : k ≠ 4) (h5 : k ≠ 5) (hok : (headOf s).2.2 = 0 ∧ (headOf s).1.length ≠ 0) :
    Calls Tryz.prog 30 #[.agg #[.int .u8 k, .int .i64 n, .string t], .string s] w fun e w' => e = .returned (.string s) ∧ Below w.heap.size w w' := by
  have HB := Lib.hid (below_agg3 w (.int .u8 k) (.int .i64 n) (.string t) 54)
  have HD := Lib.hid (RD.start w k n t)
  have HH := Lib.hid (fun W => rhead_some s W hs)
  have u1 : (k == 1) = false := beq_eq_false_iff_ne.2 h1
  have u2 : (k == 2) = false := beq_eq_false_iff_ne.2 h2
  have u3 : (k == 3) = false := beq_eq_false_iff_ne.2 h3
  have u4 : (k == 4) = false := beq_eq_false_iff_ne.2 h4
  have u5 : (k == 5) = false := beq_eq_false_iff_ne.2 h5
  obtain ⟨g1, g2⟩ := hok
  have g3 : (((headOf s).1.length : Int) == 0) = false := by rw [beq_eq_false_iff_ne]; omega
  have g4 : ¬ (((headOf s).1.length : Int) = 0) := by omega
  rw [g1] at HH
  generalize (headOf s).1.length = LN at HH g3 g4
  clear g1 g2
  by_cases hl1 : (1 : Int) < (LN : Int)
  all_goals
    go_enter Tryz.func30, Tryz.ntmps30
    go_wp2_with fail
    generalize w.alloc (.cells #[.int .u8 k, .int .i64 n, .string t] 54) = W0 at HB HD ⊢
    generalize w.heap.size = X at HD ⊢
    refine (HH.out _).mono ?_
    rintro e W2 ⟨al, cl, rfl, hhs, hb2⟩
    have HD2 := Lib.hid (HD.out.step hb2)
    obtain ⟨x0, x1, x2⟩ := HD2.out.cells
    clear hhs hb2 HH
    go_wp2_with fail
    refine wp_loop_rounds 1 ?_
    rw [rounds_succ]
    go_wp2_with fail
    go_ret
    exact ⟨rfl, bstep HB.out HD2.out.bel⟩
set_option maxRecDepth 100000 in
set_option maxHeartbeats 4000000 in
theorem rapply_place (n : Int) (t s : ByteArray) (w : World) (hs : s.size ≤ 1000000) (ht : t.size ≤ 10000) (hok : (headOf s).2.2 = 0 ∧ (headOf s).1.length ≠ 0) :
    Calls Tryz.prog 30 #[.agg #[.int .u8 4, .int .i64 n, .string t], .string s] w fun e w' => e = .returned (.string (bs (placeT t.data.toList s (headOf s).1))) ∧ Below w.heap.size w w' := by
  have HB := Lib.hid (below_agg3 w (.int .u8 4) (.int .i64 n) (.string t) 54)
  have HD := Lib.hid (RD.start w 4 n t)
  have HH := Lib.hid (fun W => rhead_some s W hs)
  have HC := Lib.hid (fun W => ref_clean t W (by omega))
  have hq : (bs (crangeF ++ cleanL t.data.toList)).size ≤ 1000000 := by
    have := clean_size t
    rw [bs_size] at this
    rw [bs_size, List.length_append, show crangeF.length = 15 from rfl]; omega
  have HP := Lib.hid (fun (i : Nat) (hi : i ≤ 1000) W => ref_line s (bs (crangeF ++ cleanL t.data.toList)) i W hs hq (by omega))
  have hbd := headOf_bound s
  have HF := Lib.hid (fun (x : List UInt8) (hx : x.length ≤ 256) w => by have := ref_fparse (bs x) w (by rw [bs_size]; omega); rw [bs_data] at this; exact this)
  obtain ⟨g1, g2⟩ := hok
  have g3 : (((headOf s).1.length : Int) == 0) = false := by rw [beq_eq_false_iff_ne]; omega
  have g4 : ¬ (((headOf s).1.length : Int) = 0) := by omega
  have hl1 : 1 ≤ (headOf s).1.length := by omega
  rw [g1] at HH
  generalize (headOf s).1 = ls at HH g3 g4 hl1 hbd ⊢
  have HBD := Lib.hid hbd
  have HT : Hid (∀ i, placeF crangeN ls 0 = some i → placeT t.data.toList s ls = putF s i (bs (crangeF ++ cleanL t.data.toList)).data.toList) := Lib.hid (fun i hi => by unfold placeT; rw [hi, bs_data])
  have HT0 : Hid (placeF crangeN ls 0 = none → s = bs (placeT t.data.toList s ls)) := Lib.hid (fun hi => by unfold placeT; rw [hi, bs_self])
  have padd := fun w => run_string_add_sum (P := Tryz.prog) w (⟨#[67, 111, 110, 116, 101, 110, 116, 45, 82, 97, 110, 103, 101, 58, 32]⟩ : ByteArray) (bs (cleanL t.data.toList)) (by have h1 := clean_size t; have e : crangeB.size = (⟨#[67, 111, 110, 116, 101, 110, 116, 45, 82, 97, 110, 103, 101, 58, 32]⟩ : ByteArray).size := rfl; have e2 : crangeB.size = 15 := rfl; rw [← e]; omega)
  have HCAT : Hid ((⟨#[67, 111, 110, 116, 101, 110, 116, 45, 82, 97, 110, 103, 101, 58, 32]⟩ : ByteArray) ++ bs (cleanL t.data.toList) = bs (crangeF ++ cleanL t.data.toList)) := Lib.hid (crange_cat (cleanL t.data.toList))
  generalize bs (cleanL t.data.toList) = Q at HC padd HCAT
  generalize bs (crangeF ++ cleanL t.data.toList) = R at HP HT HCAT
  clear g1 g2 hbd hq
  go_enter Tryz.func30, Tryz.ntmps30
  go_wp2_with fail
  generalize w.alloc (.cells #[.int .u8 4, .int .i64 n, .string t] 54) = W0 at HB HD ⊢
  generalize w.heap.size = X at HD ⊢
  refine (HH.out _).mono ?_
  rintro e W2 ⟨al, c, rfl, hhs, hb2⟩
  have HD2 := Lib.hid (HD.out.step hb2)
  obtain ⟨x0, x1, x2⟩ := HD2.out.cells
  obtain ⟨al', c', hv, hc, hcell⟩ := hhs
  obtain ⟨rfl, rfl⟩ : al = al' ∧ c = c' := by
    simp only [Value.slice.injEq] at hv
    exact ⟨hv.1, hv.2.2⟩
  have HCL := Lib.hid hcell
  clear hv hcell hb2 HH HD
  go_wp2_with fail
  clear x0 x1 x2
  go_loopg [10] (ls.length - 1) (fun gk s10 wr => ∃ i : Nat, s10 = .int .i64 (i : Int) ∧ 1 ≤ i ∧ i + gk = ls.length ∧ Below W2.heap.size W2 wr ∧ Hid (∀ j (hj : j < ls.length), j < i → ¬ (0 < 0 + j ∧ parseE ls[j] = 0 ∧ parseN ls[j] = crangeN)))
  case atStart => exact ⟨1, rfl, Nat.le_refl _, by omega, Below.refl _ _, Lib.hid (fun j hj h hh => by omega)⟩
  case round =>
    obtain ⟨i, rfl, hi1, hgk, hb, HK⟩ := hrel
    have HDr := Lib.hid (HD2.out.step hb)
    obtain ⟨x0, x1, x2⟩ := HDr.out.cells
    cases gk with
    | zero =>
      obtain rfl : i = ls.length := by omega
      clear hb padd
      go_wp2_with fail
      go_ret
      exact ⟨ret_str (HT0.out (place_miss crangeN ls 0 (fun j hj => HK.out j hj hj))), bstep HB.out HDr.out.bel⟩
    | succ gm =>
      have hi : i < ls.length := by omega
      have hii : (i : Int) < (ls.length : Int) := by omega
      obtain ⟨b, o, rfl, hbl, hcl⟩ := HCL.out (by intro e; rw [e] at hi; simp at hi)
      have hci := (hb.cell (p := ⟨b, o + i, none⟩) hbl).trans (hcl i hi)
      have hic : (i : Int) < (c : Int) := by omega
      have HFi := Lib.hid (HF.out ls[i] (HBD.out.1 _ (List.getElem_mem hi)) wr)
      have HBw := Lib.hid hb
      have hwk : IntKind.i64.wrap ((i : Int) + 1) = (i : Int) + 1 := by rw [IntKind.wrap_i64]; have := HBD.out.2; omega
      obtain ⟨E, hEq⟩ : ∃ E, parseE ls[i] = E := ⟨_, rfl⟩
      obtain ⟨NM, hNq⟩ : ∃ NM, parseN ls[i] = NM := ⟨_, rfl⟩
      have HEN := Lib.hid (And.intro hEq hNq)
      rw [hEq, hNq] at HFi
      have hnm : ((bs NM).toList == [99, 111, 110, 116, 101, 110, 116, 45, 114, 97, 110, 103, 101]) = decide (NM = crangeN) := bs_lit _ _
      clear hcl hb hEq hNq
      have next : ¬ (E = 0 ∧ NM = crangeN) → Hid (∀ j (hj : j < ls.length), j < i + 1 → ¬ (0 < 0 + j ∧ parseE ls[j] = 0 ∧ parseN ls[j] = crangeN)) := fun hno => Lib.hid (fun j hj hji hh => by
        rcases Nat.lt_or_ge j i with h1 | h1
        · exact HK.out j hj h1 hh
        · obtain rfl : j = i := by omega
          rw [HEN.out.1, HEN.out.2, Nat.zero_add] at hh
          exact hno hh.2)
      by_cases hp : E = 0 ∧ NM = crangeN
      · obtain ⟨rfl, rfl⟩ := hp
        have HHt := Lib.hid (place_hit crangeN ls 0 i hi HK.out ⟨by omega, HEN.out.1, HEN.out.2⟩)
        rw [decide_eq_true rfl] at hnm
        clear next
        generalize bs crangeN = CN at HFi hnm
        have hcat := HCAT.out
        go_wp2_with fail
        refine HFi.out.mono ?_
        rintro e w1 ⟨rfl, hb1⟩
        have HD1 := Lib.hid (HDr.out.step hb1)
        obtain ⟨y0, y1, y2⟩ := HD1.out.cells
        have hX1 : X ≠ w1.heap.size := Nat.ne_of_lt (Nat.lt_of_lt_of_le HD1.out.lt HD1.out.bel.size)
        have hX3 : ∀ A, (w1.alloc A).cell? ⟨X, 2, none⟩ = some (.string t) := fun A => (World.cell?_alloc_old w1 A ⟨X, 2, none⟩ hX1).trans y2
        clear hb1 hci x0 x1 x2
        go_wp2_with fail
        refine (HC.out _).mono ?_
        rintro e w2 ⟨rfl, rfl⟩
        go_wp2_with fail
        refine (HP.out i (by have := HBD.out.2; omega) _).mono ?_
        rintro e w3 ⟨rfl, hb3⟩
        have HB3 := Lib.hid (bstep HD1.out.bel (bstep ((Below.refl _ _).alloc (Nat.le_refl _) _) hb3))
        clear hb3
        go_wp2_with fail
        go_ret
        exact ⟨ret_str (by rw [HT.out i (by have := HHt.out; rwa [Nat.zero_add] at this)]), bstep HB.out HB3.out⟩
      · have HN := next hp
        clear next padd
        by_cases hE0 : E = 0
        · subst hE0
          have hNM : ¬ NM = crangeN := fun e => hp ⟨rfl, e⟩
          rw [decide_eq_false hNM] at hnm
          clear hp hNM
          go_wp2_with fail
          refine HFi.out.mono ?_
          rintro e w1 ⟨rfl, hb1⟩
          have HB1 := Lib.hid (bstep HBw.out (bstep hb1 ((Below.refl _ _).alloc (Nat.le_refl _) (.cells #[.string (bs NM), .string (bs (parseV ls[i]))] 102))))
          clear hb1 hci x0 x1 x2
          generalize bs NM = NB at *
          go_wp2_with fail
          go_roundg gm
          case measure => omega
          case rel => exact ⟨i + 1, rfl, by omega, by omega, HB1.out, HN⟩
        · have tz : ((E : Int) == 0) = false := by rw [beq_eq_false_iff_ne]; omega
          have tz2 : ¬ ((E : Int) = 0) := by omega
          clear hp
          go_wp2_with fail
          refine HFi.out.mono ?_
          rintro e w1 ⟨rfl, hb1⟩
          have HB1 := Lib.hid (bstep HBw.out (bstep hb1 ((Below.refl _ _).alloc (Nat.le_refl _) (.cells #[.string (bs NM), .string (bs (parseV ls[i]))] 102))))
          clear hb1 hci x0 x1 x2
          go_wp2_with fail
          go_roundg gm
          case measure => omega
          case rel => exact ⟨i + 1, rfl, by omega, by omega, HB1.out, HN⟩
theorem ref_apply (k n : Int) (t s : ByteArray) (w : World) (h0 : -9223372036854775808 ≤ n) (h1 : n ≤ 9223372036854775807) (ht : t.size ≤ 10000) (hs : s.size ≤ 1000000) :
    Calls Tryz.prog 30 #[.agg #[.int .u8 k, .int .i64 n, .string t], .string s] w fun e w' => e = .returned (.string (bs (applyF k n t.data.toList s))) ∧ Below w.heap.size w w' := by
  have same : applyF k n t.data.toList s = s.data.toList → (∀ (R : Ending → World → Prop), (R = fun e w' => e = .returned (.string s) ∧ Below w.heap.size w w') → Calls Tryz.prog 30 #[.agg #[.int .u8 k, .int .i64 n, .string t], .string s] w R) → Calls Tryz.prog 30 #[.agg #[.int .u8 k, .int .i64 n, .string t], .string s] w fun e w' => e = .returned (.string (bs (applyF k n t.data.toList s))) ∧ Below w.heap.size w w' := by
    intro e h
    rw [e, bs_self]
    exact h _ rfl
  have hh : ((headOf s).2.2 ≠ 0 ∨ ((headOf s).2.2 = 0 ∧ (headOf s).1.length = 0)) ∨ ((headOf s).2.2 = 0 ∧ (headOf s).1.length ≠ 0) := by omega
  have good : (headOf s).2.2 = 0 ∧ (headOf s).1.length ≠ 0 → ¬ ((headOf s).2.2 ≠ 0 ∨ (headOf s).1 = []) := by
    rintro ⟨a, b⟩ (c | c)
    · exact c a
    · exact b (by rw [c]; rfl)
  by_cases k1 : k = 1
  · subst k1; exact rapply_shut n t s w
  by_cases k2 : k = 2
  · subst k2; exact rapply_cut n t s w
  rcases hh with hb | hb
  · exact same (apply_bad k n _ s k1 k2 (hb.elim .inl (fun h => .inr h.2))) (fun R hR => by rw [hR]; exact rapply_bad k n t s w hs k1 k2 hb)
  by_cases k3 : k = 3
  · subst k3
    have e : applyF 3 n t.data.toList s = codeF n s := by
      unfold applyF codeF
      rw [if_neg (by omega), if_neg (by omega), if_neg (good hb), if_pos rfl]
    rw [e]
    exact rapply_code n t s w h0 h1 hs hb
  by_cases k4 : k = 4
  · subst k4
    have e : applyF 4 n t.data.toList s = placeT t.data.toList s (headOf s).1 := by
      unfold applyF placeT
      rw [if_neg (by omega), if_neg (by omega), if_neg (good hb), if_neg (by omega), if_neg (by omega), if_pos rfl]
      cases placeF crangeN (headOf s).1 0 <;> rfl
    rw [e]
    exact rapply_place n t s w hs ht hb
  by_cases k5 : k = 5
  · subst k5
    have e : applyF 5 n t.data.toList s = garbleF t.data.toList s (headOf s).1 := by
      unfold applyF garbleF
      rw [if_neg (by omega), if_neg (by omega), if_neg (good hb), if_neg (by omega), if_pos rfl]
    rw [e]
    exact rapply_garble n t s w hs (by omega) hb
  exact same (apply_off k n _ s k1 k2 k3 k4 k5) (fun R hR => by rw [hR]; exact rapply_rest k n t s w hs k1 k2 k3 k4 k5 hb)
end Go.Proofs.YthcomjhpjlcpdaaGreatDoor
namespace Go.Proofs.YthcomjhpjlcpdaaGreatDoor
open Go.RowKit
theorem toldE_ok (a b t : Int) (h : toldE a b t = 0) : rErr a b = 0 ∧ b < t ∧ t ≤ 9007199254740991 := by
  unfold toldE at h
  split at h
  · exact absurd h (by assumption)
  · split at h
    · exact absurd h (by decide)
    · exact ⟨by omega, by omega, by omega⟩
theorem toldL_eq (a b t : Int) (h : toldE a b t = 0) : toldL a b t = tellsL ++ (Go.Lib.decDigits a.toNat ++ 45 :: (Go.Lib.decDigits b.toNat ++ 47 :: Go.Lib.decDigits t.toNat)) := by
  obtain ⟨h1, h2, h3⟩ := toldE_ok a b t h
  obtain ⟨g1, g2, g3⟩ := rErr_ok a b h1
  unfold toldL textR digL
  rw [if_pos h, if_neg (by omega), if_neg (by omega), if_neg (by omega)]
  simp
theorem dec_len (n : Nat) (h : n ≤ 9223372036854775807) : (Go.Lib.decDigits n).length ≤ 20 := by
  have := digL_len (n : Int) (by omega)
  rw [digL_nat] at this
  exact this
theorem toldL_len (a b t : Int) : (toldL a b t).length ≤ 80 := by
  by_cases h : toldE a b t = 0
  · obtain ⟨h1, h2, h3⟩ := toldE_ok a b t h
    obtain ⟨g1, g2, g3⟩ := rErr_ok a b h1
    rw [toldL_eq a b t h]
    have e1 := dec_len a.toNat (by omega)
    have e2 := dec_len b.toNat (by omega)
    have e3 := dec_len t.toNat (by omega)
    have e4 : tellsL.length = 6 := rfl
    simp only [List.length_append, List.length_cons]
    omega
  · unfold toldL; rw [if_neg h]; exact Nat.zero_le _
theorem dec_plain (n : Nat) : ∀ c ∈ Go.Lib.decDigits n, plainB c.toNat = true := by
  intro c hc
  have := digN_bd _ (List.all_eq_true.1 (decDigits_all n) c hc)
  unfold plainB
  simp
  omega
/-- the name of the field that tells a range -/
def crangeK : List UInt8 := [99, 111, 110, 116, 101, 110, 116, 45, 114, 97, 110, 103, 101]
theorem told_gap (a b t : Int) (h : toldE a b t = 0) : printOk crangeK (toldL a b t) = true := by
  unfold printOk
  rw [show nameL crangeK = true by decide, Bool.true_and, Bool.and_eq_true, toldL_eq a b t h]
  refine ⟨?_, ?_⟩
  · refine List.all_eq_true.2 fun c hc => ?_
    rcases List.mem_append.1 hc with hc | hc
    · exact List.all_eq_true.1 (show (tellsL.all fun c => plainB c.toNat) = true by decide) c hc
    rcases List.mem_append.1 hc with hc | hc
    · exact dec_plain _ c hc
    rcases List.mem_cons.1 hc with rfl | hc
    · decide
    rcases List.mem_append.1 hc with hc | hc
    · exact dec_plain _ c hc
    rcases List.mem_cons.1 hc with rfl | hc
    · decide
    · exact dec_plain _ c hc
  · unfold noGap
    have e1 : headGap (tellsL ++ (Go.Lib.decDigits a.toNat ++ 45 :: (Go.Lib.decDigits b.toNat ++ 47 :: Go.Lib.decDigits t.toNat))) = false := by
      unfold tellsL; rfl
    have e2 : tellsL ++ (Go.Lib.decDigits a.toNat ++ 45 :: (Go.Lib.decDigits b.toNat ++ 47 :: Go.Lib.decDigits t.toNat)) = (tellsL ++ (Go.Lib.decDigits a.toNat ++ 45 :: (Go.Lib.decDigits b.toNat ++ [47]))) ++ Go.Lib.decDigits t.toNat := by simp
    rw [e1, e2, dig_last]
    rfl
theorem told_field (a b t : Int) (h : toldE a b t = 0) : fieldE crangeK (toldL a b t) = 0 := by
  unfold fieldE
  rw [if_pos (told_gap a b t h), if_neg]
  have := toldL_len a b t
  have e : (titL true crangeK).length = 13 := by decide
  unfold printL tailV
  split <;> simp only [List.length_append, List.length_cons, List.length_nil, e] <;> omega
/-- what is told is taken -/
theorem tell_told (a b t : Int) (h : toldE a b t = 0) : tellE (toldL a b t) = 0 ∧ tellA (toldL a b t) = a ∧ tellB (toldL a b t) = b ∧ tellC (toldL a b t) = t := by
  obtain ⟨h1, h2, h3⟩ := toldE_ok a b t h
  obtain ⟨g1, g2, g3⟩ := rErr_ok a b h1
  have hd : (toldL a b t).drop 6 = Go.Lib.decDigits a.toNat ++ 45 :: (Go.Lib.decDigits b.toNat ++ 47 :: Go.Lib.decDigits t.toNat) := by rw [toldL_eq a b t h]; rfl
  have hno : ∀ d ∈ Go.Lib.decDigits a.toNat, d ≠ 45 := fun d hd => (dig_no _ d hd).2.1
  have hno2 : ∀ d ∈ Go.Lib.decDigits b.toNat, d ≠ 47 := fun d hd => (dig_no _ d hd).2.2
  have hok : tellOk (toldL a b t) = true := by
    unfold tellOk
    rw [hd, hasB_of _ _ _ hno, behind_of _ _ _ hno, hasB_of _ _ _ hno2, toldL_eq a b t h, Bool.and_true, Bool.and_true]
    exact List.isPrefixOf_iff_prefix.2 (List.prefix_append _ _)
  have hF : tellF (toldL a b t) = a.toNat := by unfold tellF; rw [hd, upTo_of _ _ _ hno, (numE_dec _ (by omega)).2]
  have hT : tellT (toldL a b t) = b.toNat := by unfold tellT; rw [hd, behind_of _ _ _ hno, upTo_of _ _ _ hno2, (numE_dec _ (by omega)).2]
  have hN : tellN (toldL a b t) = t.toNat := by unfold tellN; rw [hd, behind_of _ _ _ hno, behind_of _ _ _ hno2, (numE_dec _ (by omega)).2]
  have he : tellE (toldL a b t) = 0 := by
    unfold tellE
    rw [if_neg (by rw [hok]; decide), hF, hT, hN, hd, upTo_of _ _ _ hno, behind_of _ _ _ hno, upTo_of _ _ _ hno2, behind_of _ _ _ hno2]
    unfold threeE
    rw [(numE_dec _ (by omega)).1, (numE_dec _ (by omega)).1, (numE_dec _ (by omega)).1, if_neg (by decide), Int.toNat_of_nonneg g1, Int.toNat_of_nonneg (by omega), Int.toNat_of_nonneg (by omega)]
    exact h
  refine ⟨he, ?_, ?_, ?_⟩
  · unfold tellA; rw [if_pos he, hF]; exact Int.toNat_of_nonneg g1
  · unfold tellB; rw [if_pos he, hT]; exact Int.toNat_of_nonneg (by omega)
  · unfold tellC; rw [if_pos he, hN]; exact Int.toNat_of_nonneg (by omega)
theorem clip_ok (a b t : Int) (h : clipE a b t = 0) : rErr a b = 0 ∧ a < t ∧ clipA a b t = a ∧ clipB a b t = (if b < t - 1 then b else t - 1) := by
  have hh := h
  unfold clipE at hh
  split at hh
  · exact absurd hh (by assumption)
  · split at hh
    · exact absurd hh (by decide)
    · refine ⟨by omega, by omega, ?_, ?_⟩
      · unfold clipA; rw [if_pos h]
      · unfold clipB; rw [if_pos h]
theorem clip_told (a b t : Int) (h : clipE a b t = 0) (ht : t ≤ 9007199254740991) : toldE (clipA a b t) (clipB a b t) t = 0 := by
  obtain ⟨h1, h2, h3, h4⟩ := clip_ok a b t h
  obtain ⟨g1, g2, g3⟩ := rErr_ok a b h1
  rw [h3, h4]
  have hr : rErr a (if b < t - 1 then b else t - 1) = 0 := by
    unfold rErr
    rw [if_neg]
    split <;> omega
  unfold toldE
  rw [if_neg (by rw [hr]; decide), if_neg (by split <;> omega)]
end Go.Proofs.YthcomjhpjlcpdaaGreatDoor
namespace Go.Proofs.YthcomjhpjlcpdaaGreatDoor
open Go.RowKit
/-- a reply of the program's that lies in a block -/
structure PAt (w : World) (b : Nat) (c : Int) (a : Option Addr) (n cp : Nat) (fs : List (List UInt8 × List UInt8)) (x : ByteArray) : Prop where
  blk : w.heap[b]? = some (.cells #[.int .i64 c, .slice a n cp, .string x] 79 (0, 0))
  own : ∃ B, w.ownsRow B 108 2 (.slice a n cp) n (fcells fs)
theorem PAt.lt {w : World} {b : Nat} {c : Int} {a : Option Addr} {n cp : Nat} {fs : List (List UInt8 × List UInt8)} {x : ByteArray} (h : PAt w b c a n cp fs x) : b < w.heap.size := (Array.getElem?_eq_some_iff.1 h.blk).1
theorem PAt.below {w w' : World} {b : Nat} {c : Int} {a : Option Addr} {n cp : Nat} {fs : List (List UInt8 × List UInt8)} {x : ByteArray} (h : PAt w b c a n cp fs x) (hb : Below w.heap.size w w') : PAt w' b c a n cp fs x :=
  ⟨(hb.block b h.lt).trans h.blk, let ⟨B, hB⟩ := h.own; ⟨B, own_keep hB hb⟩⟩
theorem PAt.alloc {w : World} {b : Nat} {c : Int} {a : Option Addr} {n cp : Nat} {fs : List (List UInt8 × List UInt8)} {x : ByteArray} (h : PAt w b c a n cp fs x) (o : Obj) : PAt (w.alloc o) b c a n cp fs x := h.below ((Below.refl _ _).alloc (Nat.le_refl _) o)
theorem PAt.holds {w : World} {b : Nat} {c : Int} {a : Option Addr} {n cp : Nat} {fs : List (List UInt8 × List UInt8)} {x : ByteArray} (h : PAt w b c a n cp fs x) : HoldsF w (.slice a n cp) fs := let ⟨_, hB⟩ := h.own; HoldsF.of_own hB
theorem PAt.new {w : World} {B : Nat} {c : Int} {a : Option Addr} {n cp : Nat} {fs : List (List UInt8 × List UInt8)} {x : ByteArray} (h : w.ownsRow B 108 2 (.slice a n cp) n (fcells fs)) :
    PAt (w.alloc (.cells #[.int .i64 c, .slice a n cp, .string x] 79)) w.heap.size c a n cp fs x :=
  ⟨heap_alloc_new w _, B, own_keep h ((Below.refl _ _).alloc (Nat.le_refl _) _)⟩
def ParseAt (C n : Int) (F : List (List UInt8 × List UInt8)) (B : ByteArray) (E : Nat) (w : World) (e : Ending) (w' : World) : Prop :=
  ∃ a cp, e = .returned (.tuple #[.agg #[.int .i64 C, .slice a F.length cp, .string B], .int .i64 n, .int .i64 (E : Nat)]) ∧ w'.ownsRow w.heap.size 108 2 (.slice a F.length cp) F.length (fcells F) ∧ Below w.heap.size w w'
def PrintAt (S : ByteArray) (E : Nat) (w : World) (e : Ending) (w' : World) : Prop := e = .returned (.tuple #[.string S, .int .i64 (E : Nat)]) ∧ Below w.heap.size w w'
theorem print_is (c : Int) (fv : Value) (fs : List (List UInt8 × List UInt8)) (b : ByteArray) (S : ByteArray) (E : Nat) (h : bs (repS c fs b.data.toList) = S ∧ repE c fs = E) (B : Nat) (w : World) (hE : EnvF w) (hc0 : -9223372036854775808 ≤ c) (hc1 : c ≤ 9223372036854775807)
    (hown : w.ownsRow B 108 2 fv fs.length (fcells fs)) (hl : fs.length ≤ 1000000) (hf : ∀ f ∈ fs, f.1.length ≤ 1000000 ∧ f.2.length ≤ 1000000) (hb : b.size ≤ 1000000) :
    Calls Tryz.prog 34 #[.agg #[.int .i64 c, fv, .string b]] w (PrintAt S E w) := by
  obtain ⟨rfl, rfl⟩ := h
  exact reply_print c fv fs b B w hE hc0 hc1 hown hl hf hb
def aw26 : List UInt8 := [72, 84, 84, 80, 47, 49, 46, 49, 32, 52, 48, 52, 32, 78, 111, 116, 32, 70, 111, 117, 110, 100, 13, 10, 67, 111, 110, 116, 101, 110, 116, 45, 76, 101, 110, 103, 116, 104, 58, 32, 49, 13, 10, 13, 10, 120]
theorem aw_e : repE 404 [] = 0 := by decide +kernel
theorem aw_st : (printOf 404).data.toList = [72, 84, 84, 80, 47, 49, 46, 49, 32, 52, 48, 52, 32, 78, 111, 116, 32, 70, 111, 117, 110, 100] := by
  rw [printOf_line 404 (by decide) (by decide)]
  exact (statusLine_data 404 (by decide) (by decide)).trans (by decide +kernel)
theorem aw_ln : printL clen (digL 1) = [67, 111, 110, 116, 101, 110, 116, 45, 76, 101, 110, 103, 116, 104, 58, 32, 49] := by
  rw [show (1 : Int) = ((1 : Nat) : Int) from rfl, digL_nat, Go.Lib.decDigits_one (by decide)]
  decide +kernel
theorem aw_s : repL 404 [] [120] = aw26 := by
  unfold repL repLines
  rw [aw_st, show (([120] : List UInt8).length : Int) = 1 from rfl, aw_ln]
  decide +kernel
theorem aw_p : bs (repS 404 [] (ByteArray.mk #[120]).data.toList) = bs aw26 ∧ repE 404 [] = 0 := by
  refine ⟨?_, aw_e⟩
  unfold repS
  rw [if_pos aw_e]
  exact congrArg bs aw_s
theorem aw_t : takE (bs aw26 ++ ⟨#[121]⟩) 1 = 0 ∧ takC (bs aw26 ++ ⟨#[121]⟩) 1 = 404 ∧ takF (bs aw26 ++ ⟨#[121]⟩) 1 = [] ∧ bs (takB (bs aw26 ++ ⟨#[121]⟩) 1) = ⟨#[120]⟩ ∧ takN (bs aw26 ++ ⟨#[121]⟩) 1 = 46 := by
  obtain ⟨h1, h2, h3, h4, h5⟩ := rep_take 404 [] [120] [121] (bs aw26 ++ ⟨#[121]⟩) 1 aw_e (by decide) (by rw [aw_s, ByteArray.data_append, Array.toList_append, bs_data]) (by decide)
  refine ⟨h1, h2, h3, by rw [h4]; rfl, ?_⟩
  rw [h5, aw_s]; rfl
theorem aw_l : takE (bs aw26) 0 = 5 := rep_long 404 [] [120] [] (bs aw26) 0 aw_e (by decide) (by rw [aw_s, bs_data, List.append_nil]) (by decide)
theorem aw_h : takE ⟨#[72, 84, 84, 80, 47, 49, 46, 49, 32, 50, 48, 48, 32, 79, 75, 13, 10, 13, 10]⟩ 9 = 6 := by decide +kernel
theorem aw_i : bs (repS 99 [] (ByteArray.mk #[]).data.toList) = ⟨#[]⟩ ∧ repE 99 [] = 8 := ⟨rfl, rfl⟩
theorem aw_same : sameR 404 404 [120] [120] [] [] = true ∧ sameR 404 0 [120] [] [] [] = false := by decide +kernel
theorem aw_sz : (bs aw26).size = 46 := rfl
theorem nil_own (w : World) : w.ownsRow 0 108 2 (.slice none 0 0) 0 (fcells []) := World.ownsRow_nil _ _ _ _
end Go.Proofs.YthcomjhpjlcpdaaGreatDoor
namespace Go.Proofs.YthcomjhpjlcpdaaGreatDoor
open Go.RowKit
/-- may an origin be? -/
def orgE (h p : List UInt8) : Nat := if pathB p = false ∨ hostB h = false then 2 else 0
theorem orgE_asks (h p : List UInt8) : aErr p h 0 0 = orgE h p := by
  unfold aErr orgE
  split
  · rfl
  · decide
/-- the code of what a server of the file f answers to s -/
def orgC (h p f : List UInt8) (s : ByteArray) : Int :=
  if askE s ≠ 0 ∨ askN s < (s.size : Int) then 400
  else if askPath s ≠ p ∨ askHost s ≠ h then 404
  else if clipE (askA s) (askB s) (f.length : Int) ≠ 0 then 416 else 206
def orgA (f : List UInt8) (s : ByteArray) : Int := clipA (askA s) (askB s) (f.length : Int)
def orgB (f : List UInt8) (s : ByteArray) : Int := clipB (askA s) (askB s) (f.length : Int)
def orgF (h p f : List UInt8) (s : ByteArray) : List (List UInt8 × List UInt8) := if orgC h p f s = 206 then [(crangeK, toldL (orgA f s) (orgB f s) (f.length : Int))] else []
def orgY (h p f : List UInt8) (s : ByteArray) : List UInt8 := if orgC h p f s = 206 then (f.take (orgB f s + 1).toNat).drop (orgA f s).toNat else []
def orgS (h p f : List UInt8) (s : ByteArray) : List UInt8 := if orgE h p = 0 then repS (orgC h p f s) (orgF h p f s) (orgY h p f s) else []
def orgK (h p f : List UInt8) (s : ByteArray) : Int := if orgE h p = 0 then orgC h p f s else 0
theorem orgC_four (h p f : List UInt8) (s : ByteArray) : orgC h p f s = 400 ∨ orgC h p f s = 404 ∨ orgC h p f s = 416 ∨ orgC h p f s = 206 := by
  unfold orgC
  split
  · exact .inl rfl
  · split
    · exact .inr (.inl rfl)
    · split
      · exact .inr (.inr (.inl rfl))
      · exact .inr (.inr (.inr rfl))
theorem orgC_206 (h p f : List UInt8) (s : ByteArray) (hc : orgC h p f s = 206) : askE s = 0 ∧ (s.size : Int) ≤ askN s ∧ askPath s = p ∧ askHost s = h ∧ clipE (askA s) (askB s) (f.length : Int) = 0 := by
  unfold orgC at hc
  split at hc
  · exact absurd hc (by decide)
  · split at hc
    · exact absurd hc (by decide)
    · split at hc
      · exact absurd hc (by decide)
      · rename_i h1 h2 h3
        rw [not_or] at h1 h2
        exact ⟨Decidable.not_not.1 h1.1, by omega, Decidable.not_not.1 h2.1, Decidable.not_not.1 h2.2, Decidable.not_not.1 h3⟩
theorem orgF_other (h p f : List UInt8) (s : ByteArray) (hc : orgC h p f s ≠ 206) : orgF h p f s = [] ∧ orgY h p f s = [] := by
  unfold orgF orgY
  rw [if_neg hc, if_neg hc]
  exact ⟨rfl, rfl⟩
theorem orgF_bd (h p f : List UInt8) (s : ByteArray) : (orgF h p f s).length ≤ 1 ∧ ∀ x ∈ orgF h p f s, x.1.length ≤ 1000000 ∧ x.2.length ≤ 1000000 := by
  unfold orgF
  split
  · refine ⟨Nat.le_refl _, fun x hx => ?_⟩
    obtain rfl := List.mem_singleton.1 hx
    exact ⟨by show crangeK.length ≤ 1000000; decide, Nat.le_trans (toldL_len _ _ _) (by decide)⟩
  · exact ⟨Nat.zero_le _, fun x hx => by cases hx⟩
theorem orgY_len (h p f : List UInt8) (s : ByteArray) : (orgY h p f s).length ≤ f.length := by
  unfold orgY
  split
  · rw [List.length_drop]
    have := List.length_take_le (orgB f s + 1).toNat f
    have := List.length_take_le' (orgB f s + 1).toNat f
    omega
  · exact Nat.zero_le _
theorem err_four (c : Int) (h : c = 400 ∨ c = 404 ∨ c = 416 ∨ c = 206) : printErr c = 0 := by
  rcases h with rfl | rfl | rfl | rfl <;> decide
/-- what is answered may be laid -/
theorem org_good (h p f : List UInt8) (s : ByteArray) (hf : f.length ≤ 1000000) : repE (orgC h p f s) (orgF h p f s) = 0 := by
  unfold repE
  rw [if_neg (by rw [err_four _ (orgC_four h p f s)]; decide)]
  by_cases hc : orgC h p f s = 206
  · obtain ⟨-, -, -, -, h5⟩ := orgC_206 h p f s hc
    have ht := clip_told _ _ _ h5 (by omega)
    have hfe := told_field _ _ _ ht
    unfold orgF
    rw [if_pos hc, if_neg (by simp)]
    show (if crangeK = clen then 22 else if fieldE crangeK (toldL (orgA f s) (orgB f s) (f.length : Int)) ≠ 0 then fieldE crangeK (toldL (orgA f s) (orgB f s) (f.length : Int)) else ownE []) = 0
    unfold orgA orgB
    rw [if_neg (by decide), hfe]
    rfl
  · rw [(orgF_other h p f s hc).1, if_neg (by simp)]
    rfl
theorem orgS_eq (h p f : List UInt8) (s : ByteArray) (hf : f.length ≤ 1000000) (he : orgE h p = 0) : orgS h p f s = repL (orgC h p f s) (orgF h p f s) (orgY h p f s) := by
  unfold orgS repS
  rw [if_pos he, if_pos (org_good h p f s hf)]
end Go.Proofs.YthcomjhpjlcpdaaGreatDoor
namespace Go.Proofs.YthcomjhpjlcpdaaGreatDoor
open Go.RowKit
def s28 : ByteArray := ⟨#[72, 84, 84, 80, 47, 49, 46, 49, 32, 50, 48, 54, 32, 79, 75, 13, 10, 67, 111, 110, 116, 101, 110, 116, 45, 76, 101, 110, 103, 116, 104, 58, 32, 49, 13, 10, 67, 111, 110, 116, 101, 110, 116, 45, 82, 97, 110, 103, 101, 58, 32, 98, 121, 116, 101, 115, 32, 48, 45, 48, 47, 49, 13, 10, 13, 10, 120]⟩
def a28 : List UInt8 := [72, 84, 84, 80, 47, 49, 46, 49, 32, 50, 48, 54, 32, 79, 75, 13, 10, 97, 98, 13, 10, 67, 111, 110, 116, 101, 110, 116, 45, 82, 97, 110, 103, 101, 58, 32, 98, 121, 116, 101, 115, 32, 48, 45, 48, 47, 49, 13, 10, 13, 10, 120]
def b28 : List UInt8 := [72, 84, 84, 80, 47, 49, 46, 49, 32, 50, 48, 54, 32, 79, 75, 13, 10, 67, 111, 110, 116, 101, 110, 116, 45, 76, 101, 110, 103, 116, 104, 58, 32, 49, 13, 10, 67, 111, 110, 116, 101, 110, 116, 45, 82, 97, 110, 103, 101, 58, 32, 121, 13, 10, 13, 10, 120]
def c28 : List UInt8 := [72, 84, 84, 80, 47, 49, 46, 49, 32, 50, 48, 48, 32, 79, 75, 13, 10, 67, 111, 110, 116, 101, 110, 116, 45, 76, 101, 110, 103, 116, 104, 58, 32, 49, 13, 10, 67, 111, 110, 116, 101, 110, 116, 45, 82, 97, 110, 103, 101, 58, 32, 98, 121, 116, 101, 115, 32, 48, 45, 48, 47, 49, 13, 10, 13, 10, 120]
set_option maxRecDepth 100000 in
theorem aw28_a : applyF 5 0 [97, 13, 10, 98] s28 = a28 := by decide +kernel
set_option maxRecDepth 100000 in
theorem aw28_b : applyF 4 0 [121] s28 = b28 := by decide +kernel
set_option maxRecDepth 100000 in
theorem aw28_d : applyF 1 0 [] s28 = [] ∧ applyF 2 4 [] s28 = [72, 84, 84, 80] ∧ harmF 0 0 [] s28 = false ∧ harmF 1 0 [] s28 = true ∧ cleanL [13, 10] = [] := by decide +kernel
theorem st200 : (printOf 200).data.toList = [72, 84, 84, 80, 47, 49, 46, 49, 32, 50, 48, 48, 32, 79, 75] := by
  rw [printOf_line 200 (by decide) (by decide)]
  exact (statusLine_data 200 (by decide) (by decide)).trans (by decide +kernel)
set_option maxRecDepth 100000 in
theorem aw28_c : applyF 3 200 [] s28 = c28 := by
  have h1 : ¬ ((headOf s28).2.2 ≠ 0 ∨ (headOf s28).1 = []) := by decide +kernel
  unfold applyF
  rw [if_neg (by decide), if_neg (by decide), if_neg h1, if_pos rfl, if_neg (by decide), st200]
  decide +kernel
end Go.Proofs.YthcomjhpjlcpdaaGreatDoor
namespace Go.Proofs.YthcomjhpjlcpdaaGreatDoor
open Go.RowKit
set_option maxRecDepth 100000 in
set_option maxHeartbeats 2000000 in
theorem over28 (B : Nat) (k n : Int) (t : ByteArray) (w : World) (hb : w.heap[B]? = some (.cells #[.int .u8 k, .int .i64 n, .string t] 54 (0, 0))) :
    Calls Tryz.prog 9 #[.slice (some ⟨B, 0, none⟩) 1 1, .int .i64 1] w fun e w' => e = .returned (.bool (decide ((300 : Int) < (t.size : Int)))) ∧ w' = w := by
  obtain ⟨x0, x1, x2, -, -, -⟩ := three_facts hb
  clear hb
  by_cases h : (300 : Int) < (t.size : Int)
  all_goals
    go_enter Tryz.func9, Tryz.ntmps9
    go_wp2_with fail
    refine wp_loop_rounds 2 ?_
    rw [rounds_succ]
    go_wp2_with fail
    try (rw [rounds_succ]; go_wp2_with fail)
    go_ret
    exact ⟨by simp [h], rfl⟩
end Go.Proofs.YthcomjhpjlcpdaaGreatDoor
namespace Go.Proofs.YthcomjhpjlcpdaaGreatDoor
open Go.RowKit
theorem overR_false (fs : List (List UInt8 × List UInt8)) (b : ByteArray) (h : overR fs b = false) : fs.length ≤ 20 ∧ (∀ f ∈ fs, f.1.length ≤ 400 ∧ f.2.length ≤ 400) ∧ b.size ≤ 500 := by
  unfold overR overF at h
  simp only [Bool.or_eq_false_iff, decide_eq_false_iff_not, List.any_eq_false] at h
  obtain ⟨⟨h1, h2⟩, h3⟩ := h
  refine ⟨by omega, fun f hf => ?_, by omega⟩
  have := h1 f hf
  unfold longF at this
  simp only [Bool.or_eq_true, decide_eq_true_eq, not_or] at this
  omega
/-- a reply of the document's that lies in a block -/
structure QAt (w : World) (b : Nat) (c : Int) (v : Value) (fs : List (List UInt8 × List UInt8)) (x : ByteArray) : Prop where
  blk : w.heap[b]? = some (.cells #[.int .i64 c, v, .string x] 95 (0, 0))
  hold : HoldsF w v fs
theorem QAt.lt {w : World} {b : Nat} {c : Int} {v : Value} {fs : List (List UInt8 × List UInt8)} {x : ByteArray} (h : QAt w b c v fs x) : b < w.heap.size := (Array.getElem?_eq_some_iff.1 h.blk).1
theorem QAt.below {w w' : World} {b : Nat} {c : Int} {v : Value} {fs : List (List UInt8 × List UInt8)} {x : ByteArray} (h : QAt w b c v fs x) (hb : Below w.heap.size w w') : QAt w' b c v fs x :=
  ⟨(hb.block b h.lt).trans h.blk, h.hold.below hb⟩
theorem QAt.new {w : World} {c : Int} {v : Value} {fs : List (List UInt8 × List UInt8)} {x : ByteArray} (h : HoldsF w v fs) :
    QAt (w.alloc (.cells #[.int .i64 c, v, .string x] 95)) w.heap.size c v fs x :=
  ⟨heap_alloc_new w _, h.below ((Below.refl _ _).alloc (Nat.le_refl _) _)⟩
theorem QAt.alloc {w : World} {b : Nat} {c : Int} {v : Value} {fs : List (List UInt8 × List UInt8)} {x : ByteArray} (h : QAt w b c v fs x) (o : Obj) : QAt (w.alloc o) b c v fs x := h.below ((Below.refl _ _).alloc (Nat.le_refl _) o)
theorem QAt.cells {w : World} {b : Nat} {c : Int} {v : Value} {fs : List (List UInt8 × List UInt8)} {x : ByteArray} (h : QAt w b c v fs x) : w.cell? ⟨b, 0, none⟩ = some (.int .i64 c) ∧ w.cell? ⟨b, 1, none⟩ = some v ∧ w.cell? ⟨b, 2, none⟩ = some (.string x) :=
  let ⟨h0, h1, h2, _⟩ := three_facts h.blk; ⟨h0, h1, h2⟩
end Go.Proofs.YthcomjhpjlcpdaaGreatDoor
namespace Go.Proofs.YthcomjhpjlcpdaaGreatDoor
open Go.RowKit
def RParseAt (C n : Int) (F : List (List UInt8 × List UInt8)) (B : ByteArray) (E : Nat) (w : World) (e : Ending) (w' : World) : Prop :=
  ∃ a cp, e = .returned (.tuple #[.agg #[.int .i64 C, .slice a F.length cp, .string B], .int .i64 n, .int .i64 (E : Nat)]) ∧ HoldsF w' (.slice a F.length cp) F ∧ Below w.heap.size w w'
theorem takF_len (s : ByteArray) (most : Int) : (takF s most).length ≤ 17 := by
  unfold takF
  split
  · refine Nat.le_trans (restF_len _) ?_
    unfold fldL
    rw [List.length_map, List.length_tail]
    have := (headOf_bound s).2
    omega
  · exact Nat.zero_le _
theorem PAt.cells {w : World} {b : Nat} {c : Int} {a : Option Addr} {n cp : Nat} {fs : List (List UInt8 × List UInt8)} {x : ByteArray} (h : PAt w b c a n cp fs x) : w.cell? ⟨b, 0, none⟩ = some (.int .i64 c) ∧ w.cell? ⟨b, 1, none⟩ = some (.slice a n cp) ∧ w.cell? ⟨b, 2, none⟩ = some (.string x) :=
  let ⟨h0, h1, h2, _⟩ := three_facts h.blk; ⟨h0, h1, h2⟩
theorem sameR_refl (c : Int) (x : List UInt8) (fs : List (List UInt8 × List UInt8)) : sameR c c x x fs fs = true := by unfold sameR; simp
end Go.Proofs.YthcomjhpjlcpdaaGreatDoor
namespace Go.Proofs.YthcomjhpjlcpdaaGreatDoor
open Go.RowKit
theorem body_len (ls : List (List UInt8)) (h : ∀ x ∈ ls, x.length ≤ 256) : (body ls).length ≤ ls.length * 258 := by
  induction ls with
  | nil => exact Nat.le_refl _
  | cons x t ih =>
    have h1 := h x (List.mem_cons_self ..)
    have h2 := ih (fun y hy => h y (List.mem_cons_of_mem _ hy))
    show (x ++ 13 :: 10 :: body t).length ≤ (t.length + 1) * 258
    rw [List.length_append, List.length_cons, List.length_cons]; omega
theorem repL_len (c : Int) (fs : List (List UInt8 × List UInt8)) (b : List UInt8) (h : repE c fs = 0) (hn : b.length ≤ 1000000) : (repL c fs b).length ≤ 4400 + b.length ∧ 2 ≤ (repL c fs b).length := by
  obtain ⟨g1, g2⟩ := good_lines c fs b.length h hn
  have := body_len (repLines c fs b.length) (fun x hx => (g1 x hx).2.2)
  unfold repL
  rw [List.length_append, List.length_cons, List.length_cons]; omega
theorem isEmpty_false (S : ByteArray) (h : 0 < S.size) : (S.toList == []) = false := by
  rw [beq_eq_false_iff_ne]
  intro e
  have : S.toList.length = 0 := by rw [e]; rfl
  rw [ByteArray.toList_eq, size_len] at this
  omega
end Go.Proofs.YthcomjhpjlcpdaaGreatDoor
namespace Go.Proofs.YthcomjhpjlcpdaaGreatDoor
open Go.RowKit
open Go.Lib in
theorem splitB_crlf (s : ByteArray) : (splitB ⟨#[13, 10]⟩ 0 (countB s ⟨#[13, 10]⟩) s).map Value.string = strs (split s.data.toList [13, 10]) := by
  have h := splitB_data ⟨#[13, 10]⟩ 0 (countB s ⟨#[13, 10]⟩) s
  have h2 : splitK (⟨#[13, 10]⟩ : ByteArray).data.toList 0 (countB s ⟨#[13, 10]⟩) s.data.toList = split s.data.toList [13, 10] := rfl
  rw [h2] at h
  unfold strs
  rw [← h, List.map_map]
  apply List.map_congr_left
  intro x _
  simp only [Function.comp_apply, bs_self]
open Go.Lib in
theorem countB_crlf (s : ByteArray) : countB s ⟨#[13, 10]⟩ + 1 = (split s.data.toList [13, 10]).length := by
  have h := splitB_all ⟨#[13, 10]⟩ (by decide) 0 _ s rfl
  have h2 := congrArg List.length (splitB_crlf s)
  rw [strs_length, List.length_map] at h2
  omega
theorem split_any (S : ByteArray) (w : World) (hs : S.size ≤ 1000000) (hE : EnvW w) :
    Calls Tryz.prog 144 #[.string S, .string ⟨#[13, 10]⟩] w fun e w' => ∃ a c, e = .returned (.slice a (Lib.split S.data.toList [13, 10]).length c) ∧ HoldsS w' (.slice a (Lib.split S.data.toList [13, 10]).length c) (Lib.split S.data.toList [13, 10]) ∧ Below w.heap.size w w' := by
  obtain ⟨m, hm⟩ := hE.m
  refine (Tryz.strings_Split S ⟨#[13, 10]⟩ m w (by omega) hm (by decide)).mono ?_
  rintro e w' ⟨rfl, rfl⟩
  rw [countB_crlf]
  exact ⟨_, _, rfl, HoldsS.of_block (block_alloc w _) (splitB_crlf S) rfl, (Below.refl _ _).alloc (Nat.le_refl _) _⟩
theorem drop_take {α : Type} (a b : List α) (n : Nat) (h : n = a.length) : (a ++ b).drop n = b := by subst h; exact List.drop_left
theorem keeps_bytes (c : Int) (fs : List (List UInt8 × List UInt8)) (x S T : ByteArray) (k n : Int) (t : List UInt8) (h : repE c fs = 0) (hx : x.size ≤ 1000000) (hS : S.data.toList = repL c fs x.data.toList) (hT : T.data.toList = applyF k n t S) (h1 : k ≠ 1) (h2 : k ≠ 2) :
    ∃ (A A' : Nat), S.size = A + 2 + x.size ∧ T.size = A' + 2 + x.size ∧ Lib.hasSuffix T.data.toList (S.extract A S.size).data.toList = true ∧ Lib.countB T ⟨#[13, 10]⟩ = Lib.countB S ⟨#[13, 10]⟩ ∧
      (Lib.split (T.extract 0 (A' + 2)).data.toList [13, 10]).length = (Lib.split (S.extract 0 (A + 2)).data.toList [13, 10]).length ∧ (Lib.split (S.extract 0 (A + 2)).data.toList [13, 10]).length ≤ 19 ∧
      nd (Lib.split (S.extract 0 (A + 2)).data.toList [13, 10]) (Lib.split (T.extract 0 (A' + 2)).data.toList [13, 10]) ≤ 1 ∧
      harmF k n t S = decide (nd (Lib.split (S.extract 0 (A + 2)).data.toList [13, 10]) (Lib.split (T.extract 0 (A' + 2)).data.toList [13, 10]) = 1) := by
  obtain ⟨ls, ls', e1, e2, e3, e4, e5, e6, e7, e8, e9, e10⟩ := keeps_rep c fs x.data.toList S k n t h (by rw [size_len]; exact hx) hS h1 h2
  rw [← hT] at e4
  rw [← hS] at e3
  have f3 : S.data.toList = (body (ls.take (ls.length - 2)) ++ [13, 10]) ++ x.data.toList := by rw [e3]; simp
  have f4 : T.data.toList = (body (ls'.take (ls.length - 2)) ++ [13, 10]) ++ x.data.toList := by rw [e4]; simp
  have g1 : S.extract 0 ((body (ls.take (ls.length - 2))).length + 2) = bs (body (ls.take (ls.length - 2)) ++ [13, 10]) := by
    rw [extract_bs, List.drop_zero, f3, show (body (ls.take (ls.length - 2))).length + 2 = (body (ls.take (ls.length - 2)) ++ [13, 10]).length by simp, List.take_left]
  have g2 : T.extract 0 ((body (ls'.take (ls.length - 2))).length + 2) = bs (body (ls'.take (ls.length - 2)) ++ [13, 10]) := by
    rw [extract_bs, List.drop_zero, f4, show (body (ls'.take (ls.length - 2))).length + 2 = (body (ls'.take (ls.length - 2)) ++ [13, 10]).length by simp, List.take_left]
  refine ⟨(body (ls.take (ls.length - 2))).length, (body (ls'.take (ls.length - 2))).length, ?_, ?_, ?_, ?_, ?_, ?_, ?_, ?_⟩
  · rw [← size_len S, ← size_len x, f3]; simp; omega
  · rw [← size_len T, ← size_len x, f4]; simp; omega
  · have e8 : (S.extract (body (ls.take (ls.length - 2))).length S.size).data.toList = 13 :: 10 :: x.data.toList := by
      rw [extract_bs, bs_data, List.take_of_length_le (l := S.data.toList) (by rw [size_len]; exact Nat.le_refl _), e3]
      exact List.drop_left
    rw [e8, e4]
    unfold Lib.hasSuffix
    exact List.isSuffixOf_iff_suffix.2 (List.suffix_append _ _)
  · show Lib.count T.data.toList [13, 10] = Lib.count S.data.toList [13, 10]
    rw [hT]; exact e6.symm
  · rw [g1, g2, bs_data, bs_data, e7, e8]; exact e1
  · rw [g1, bs_data, e7]; exact e2
  · rw [g1, g2, bs_data, bs_data, e7, e8]; exact e9
  · rw [g1, g2, bs_data, bs_data, e7, e8]
    unfold harmF
    exact decide_eq_decide.2 e10.symm
theorem putF_len (s : ByteArray) (k : Nat) (x : List UInt8) : (putF s k x).length ≤ s.size + x.length := by
  unfold putF
  rw [List.length_append, List.length_append, List.length_take, List.length_drop, size_len]
  omega
theorem applyF_len (k n : Int) (t : List UInt8) (s : ByteArray) : (applyF k n t s).length ≤ s.size + t.length + 200 := by
  have hc := cleanL_len t
  have hp : (printOf n).data.toList.length ≤ 100 := by rw [size_len]; exact printOf_size n
  have hs : s.data.toList.length = s.size := size_len s
  unfold applyF
  by_cases k1 : k = 1
  · rw [if_pos k1]; simp
  rw [if_neg k1]
  by_cases k2 : k = 2
  · rw [if_pos k2, List.length_take]; omega
  rw [if_neg k2]
  by_cases hb : (headOf s).2.2 ≠ 0 ∨ (headOf s).1 = []
  · rw [if_pos hb]; omega
  rw [if_neg hb]
  by_cases k3 : k = 3
  · rw [if_pos k3]
    by_cases hp2 : printErr n ≠ 0
    · rw [if_pos hp2]; omega
    · rw [if_neg hp2]; have := putF_len s 0 (printOf n).data.toList; omega
  rw [if_neg k3]
  by_cases k5 : k = 5
  · rw [if_pos k5]
    by_cases hl : (headOf s).1.length < 2
    · rw [if_pos hl]; omega
    · rw [if_neg hl]; have := putF_len s 1 (cleanL t); omega
  rw [if_neg k5]
  by_cases k4 : k = 4
  · rw [if_pos k4]
    cases placeF crangeN (headOf s).1 0 with
    | none => simp only; omega
    | some i =>
      have := putF_len s i (crangeF ++ cleanL t)
      rw [List.length_append, show crangeF.length = 15 from rfl] at this
      simp only
      omega
  rw [if_neg k4]; omega
theorem nd_le (a : List (List UInt8)) : ∀ b, nd a b ≤ a.length := by
  induction a with
  | nil => intro b; simp [nd]
  | cons x t ih =>
    intro b
    cases b with
    | nil => simp [nd]
    | cons y u =>
      have := ih u
      simp only [nd, List.length_cons]
      split <;> omega
end Go.Proofs.YthcomjhpjlcpdaaGreatDoor
namespace Go.Proofs.YthcomjhpjlcpdaaGreatDoor
open Go.RowKit

/-- what is taken off bytes: the replies, what is left, what ended it (0: nothing) -/
def feedR : Nat → Int → List UInt8 → List (Int × List (List UInt8 × List UInt8) × List UInt8) × List UInt8 × Nat
  | 0, _, l => ([], l, 0)
  | f + 1, m, l => if takE (bs l) m = 0 then ((takC (bs l) m, takF (bs l) m, takB (bs l) m) :: (feedR f m (l.drop (takN (bs l) m).toNat)).1, (feedR f m (l.drop (takN (bs l) m).toNat)).2) else if takE (bs l) m = 3 then ([], l, 0) else ([], [], takE (bs l) m)
def feedOf (m : Int) (l : List UInt8) : List (Int × List (List UInt8 × List UInt8) × List UInt8) × List UInt8 × Nat := feedR (l.length + 1) m l
theorem tak_n (l : List UInt8) (m : Int) (h : takE (bs l) m = 0) : 1 ≤ (takN (bs l) m).toNat ∧ (takN (bs l) m).toNat ≤ l.length ∧ takN (bs l) m = ((takN (bs l) m).toNat : Int) := by
  obtain ⟨-, h2, h3, -⟩ := rep_again (bs l) m h
  rw [bs_size] at h3
  omega
theorem feedR_more (m : Int) : ∀ (f : Nat) (l : List UInt8), l.length < f → feedR f m l = feedR (f + 1) m l := by
  intro f
  induction f with
  | zero => intro l h; exact absurd h (Nat.not_lt_zero _)
  | succ f ih =>
    intro l h
    rw [feedR, feedR]
    by_cases h0 : takE (bs l) m = 0
    · rw [if_pos h0, if_pos h0]
      obtain ⟨n1, n2, n3⟩ := tak_n l m h0
      rw [ih (l.drop (takN (bs l) m).toNat) (by rw [List.length_drop]; omega)]
    · rw [if_neg h0, if_neg h0]
theorem feedR_all (m : Int) (l : List UInt8) (f : Nat) (h : l.length < f) : feedR f m l = feedOf m l := by
  unfold feedOf
  obtain ⟨k, rfl⟩ : ∃ k, f = l.length + 1 + k := ⟨f - (l.length + 1), by omega⟩
  clear h
  induction k with
  | zero => rfl
  | succ k ih => rw [← ih, show l.length + 1 + (k + 1) = l.length + 1 + k + 1 by omega, ← feedR_more m _ l (by omega)]
theorem feed_more (m : Int) (l : List UInt8) (h : takE (bs l) m = 0) : feedOf m l = ((takC (bs l) m, takF (bs l) m, takB (bs l) m) :: (feedOf m (l.drop (takN (bs l) m).toNat)).1, (feedOf m (l.drop (takN (bs l) m).toNat)).2) := by
  obtain ⟨n1, n2, n3⟩ := tak_n l m h
  have e := feedR_all m (l.drop (takN (bs l) m).toNat) l.length (by rw [List.length_drop]; omega)
  unfold feedOf at e ⊢
  rw [feedR, if_pos h, e]
theorem feed_short (m : Int) (l : List UInt8) (h : takE (bs l) m = 3) : feedOf m l = ([], l, 0) := by
  unfold feedOf
  rw [feedR, if_neg (by rw [h]; decide), if_pos h]
theorem feed_bad (m : Int) (l : List UInt8) (h : takE (bs l) m ≠ 0) (h3 : takE (bs l) m ≠ 3) : feedOf m l = ([], [], takE (bs l) m) := by
  unfold feedOf
  rw [feedR, if_neg h, if_neg h3]
theorem feed_ind (m : Int) (P : List UInt8 → Prop) (hp : ∀ l, (takE (bs l) m = 0 → P (l.drop (takN (bs l) m).toNat)) → P l) : ∀ l, P l := by
  intro l
  obtain ⟨n, hn⟩ : ∃ n, l.length ≤ n := ⟨_, Nat.le_refl _⟩
  induction n generalizing l with
  | zero =>
    refine hp l (fun h => ?_)
    have := tak_n l m h
    omega
  | succ n ih =>
    refine hp l (fun h => ih _ ?_)
    have := tak_n l m h
    rw [List.length_drop]; omega
/-- what is left is too short, or nothing -/
def RestOk (m : Int) (l : List UInt8) : Prop := ((feedOf m l).2.2 = 0 → takE (bs (feedOf m l).2.1) m = 3) ∧ ((feedOf m l).2.2 ≠ 0 → (feedOf m l).2.1 = []) ∧ (feedOf m l).2.1.length ≤ l.length ∧ (feedOf m l).2.2 ≠ 3
theorem feed_rest (m : Int) : ∀ l, RestOk m l := by
  refine feed_ind m (RestOk m) ?_
  intro l ih
  unfold RestOk at ih ⊢
  by_cases h0 : takE (bs l) m = 0
  · have ih0 := ih h0
    rw [feed_more m l h0]
    rw [List.length_drop] at ih0
    generalize feedOf m (l.drop (takN (bs l) m).toNat) = R at ih0 ⊢
    obtain ⟨i1, i2, i3, i4⟩ := ih0
    exact ⟨i1, i2, Nat.le_trans i3 (Nat.sub_le _ _), i4⟩
  · by_cases h3 : takE (bs l) m = 3
    · rw [feed_short m l h3]; exact ⟨fun _ => h3, fun h => absurd rfl h, Nat.le_refl _, show (0 : Nat) ≠ 3 by decide⟩
    · rw [feed_bad m l h0 h3]; exact ⟨fun h => absurd h h0, fun _ => rfl, Nat.zero_le _, h3⟩
/-- a scan that is not too short does not hang on what stands behind -/
theorem scan_behind (l b : List UInt8) : ∀ n, (scan l n).2 ≠ 3 → scan (l ++ b) n = scan l n := by
  induction l with
  | nil => intro n h; exact absurd rfl h
  | cons c r ih =>
    intro n h
    rw [List.cons_append, scan, scan]
    rw [scan] at h
    by_cases h1 : c = 13 ∧ r = []
    · rw [if_pos h1] at h; exact absurd rfl h
    · rw [if_neg h1] at h ⊢
      have h1' : ¬ (c = 13 ∧ r ++ b = []) := fun e => h1 ⟨e.1, (List.append_eq_nil_iff.1 e.2).1⟩
      rw [if_neg h1']
      by_cases h2 : c = 13 ∧ r.head? = some 10
      · have h2' : c = 13 ∧ (r ++ b).head? = some 10 := ⟨h2.1, by cases r with
          | nil => simp at h2
          | cons d t => simpa using h2.2⟩
        rw [if_pos h2, if_pos h2']
      · rw [if_neg h2] at h ⊢
        have h2' : ¬ (c = 13 ∧ (r ++ b).head? = some 10) := fun e => by
          cases r with
          | nil => exact h1 ⟨e.1, rfl⟩
          | cons d t => exact h2 ⟨e.1, by simpa using e.2⟩
        rw [if_neg h2']
        by_cases h3 : plainB c.toNat = false
        · rw [if_pos h3, if_pos h3]
        · rw [if_neg h3] at h ⊢
          rw [if_neg h3]
          by_cases h4 : n = 256
          · rw [if_pos h4, if_pos h4]
          · rw [if_neg h4] at h ⊢
            rw [if_neg h4]
            exact ih _ h
theorem take_behind (l b : List UInt8) (a : Int) (h0 : 0 ≤ a) (h1 : a ≤ (l.length : Int)) (h : takeErr (bs l) a ≠ 3) : takeErr (bs (l ++ b)) a = takeErr (bs l) a ∧ takeLine (bs (l ++ b)) a = takeLine (bs l) a ∧ takeNext (bs (l ++ b)) a = takeNext (bs l) a := by
  obtain ⟨i, rfl⟩ : ∃ i : Nat, a = i := ⟨a.toNat, by omega⟩
  have hi : i ≤ l.length := by omega
  have e1 : takeErr (bs l) i = (scanAt l i 0).2 := by rw [takeErr_in (bs l) i (by rw [bs_size]; omega), bs_data]
  have e2 : takeErr (bs (l ++ b)) i = (scanAt (l ++ b) i 0).2 := by rw [takeErr_in (bs (l ++ b)) i (by rw [bs_size, List.length_append]; omega), bs_data]
  have es : scanAt (l ++ b) i 0 = scanAt l i 0 := by
    unfold scanAt at e1 ⊢
    rw [List.drop_append_of_le_length hi]
    exact scan_behind _ b 0 (by rw [← e1]; exact h)
  have eE : takeErr (bs (l ++ b)) i = takeErr (bs l) i := by rw [e1, e2, es]
  refine ⟨eE, ?_, ?_⟩
  · unfold takeLine
    rw [eE]
    split
    · rename_i hz
      rw [bs_data, bs_data, Int.toNat_natCast, es, extract_bs, extract_bs, bs_data, bs_data]
      congr 1
      have hz2 : (scan (l.drop i) 0).2 = 0 := e1.symm.trans hz
      have := scan_zero (l.drop i) 0 hz2
      rw [List.length_drop] at this
      rw [List.take_append_of_le_length (by unfold scanAt; omega)]
    · rfl
  · unfold takeNext
    rw [eE, bs_data, bs_data, Int.toNat_natCast, es]
theorem headR_behind (l b : List UInt8) : ∀ (f : Nat) (a : Int) (xs : List (List UInt8)), 0 ≤ a → a ≤ (l.length : Int) → (headR f (bs l) a xs).2.2 ≠ 3 → headR f (bs (l ++ b)) a xs = headR f (bs l) a xs := by
  intro f
  induction f with
  | zero => intro a xs _ _ _; rfl
  | succ f ih =>
    intro a xs h0 h1 h
    by_cases he : takeErr (bs l) a = 3
    · rw [headR_err f (bs l) a xs (by rw [he]; decide)] at h
      exact absurd he h
    · obtain ⟨t1, t2, t3⟩ := take_behind l b a h0 h1 he
      by_cases hz : takeErr (bs l) a = 0
      · by_cases hm : (takeLine (bs l) a).toList.isEmpty = true
        · rw [headR_end f (bs l) a xs hz hm, headR_end f (bs (l ++ b)) a xs (t1.trans hz) (by rw [t2]; exact hm), t3]
        · rw [Bool.not_eq_true] at hm
          by_cases h17 : xs.length = 17
          · rw [headR_many f (bs l) a xs hz hm h17, headR_many f (bs (l ++ b)) a xs (t1.trans hz) (by rw [t2]; exact hm) h17]
          · rw [headR_more f (bs l) a xs hz hm h17] at h ⊢
            rw [headR_more f (bs (l ++ b)) a xs (t1.trans hz) (by rw [t2]; exact hm) h17, t2, t3]
            obtain ⟨b1, b2⟩ := take_next_bd (bs l) a hz h0
            rw [bs_size] at b2
            exact ih _ _ (by omega) b2 h
      · rw [headR_err f (bs l) a xs hz, headR_err f (bs (l ++ b)) a xs (by rw [t1]; exact hz), t1]
theorem head_behind (l b : List UInt8) (h : (headOf (bs l)).2.2 ≠ 3) : headOf (bs (l ++ b)) = headOf (bs l) := headR_behind l b 18 0 [] (Int.le_refl _) (by omega) h
/-- what is not too short does not hang on what stands behind -/
theorem tak_behind (l b : List UInt8) (m : Int) (h : takE (bs l) m ≠ 3) : takE (bs (l ++ b)) m = takE (bs l) m ∧ takC (bs (l ++ b)) m = takC (bs l) m ∧ takF (bs (l ++ b)) m = takF (bs l) m ∧ takB (bs (l ++ b)) m = takB (bs l) m ∧ takN (bs (l ++ b)) m = takN (bs l) m := by
  have hh : (headOf (bs l)).2.2 ≠ 3 := fun e => h (by unfold takE; rw [e]; rfl)
  have hd := head_behind l b hh
  have hE : takE (bs (l ++ b)) m = takE (bs l) m := by
    unfold takE at h ⊢
    rw [hd]
    split
    · rfl
    rename_i q1
    rw [if_neg q1] at h
    split
    · rfl
    rename_i q2
    rw [if_neg q2] at h
    split
    · rfl
    rename_i q3
    rw [if_neg q3] at h
    split at h
    · exact absurd rfl h
    rename_i q4
    rw [bs_size] at q4
    rw [if_neg (by rw [bs_size, List.length_append]; omega), if_neg (by rw [bs_size]; omega)]
  by_cases hz : takE (bs l) m = 0
  · obtain ⟨z1, z2, z3, z4⟩ := tak_zero (bs l) m hz
    obtain ⟨n1, n2⟩ := headOf_bd (bs l) z1
    have hz2 := hE.trans hz
    refine ⟨hE, ?_, ?_, ?_, ?_⟩
    · unfold takC; rw [if_pos hz, if_pos hz2, hd]
    · unfold takF; rw [if_pos hz, if_pos hz2, hd]
    · unfold takB; rw [if_pos hz, if_pos hz2, hd, bs_data, bs_data]
      rw [bs_size] at z4 n2
      rw [List.take_append_of_le_length (by omega)]
    · unfold takN; rw [if_pos hz, if_pos hz2, hd]
  · obtain ⟨c1, c2, c3, c4⟩ := tak_bad (bs l) m hz
    obtain ⟨d1, d2, d3, d4⟩ := tak_bad (bs (l ++ b)) m (by rw [hE]; exact hz)
    exact ⟨hE, d1.trans c1.symm, d2.trans c2.symm, d3.trans c3.symm, d4.trans c4.symm⟩
/-- the pieces do not matter -/
def PieceOk (m : Int) (b l : List UInt8) : Prop := feedOf m (l ++ b) = if (feedOf m l).2.2 = 0 then ((feedOf m l).1 ++ (feedOf m ((feedOf m l).2.1 ++ b)).1, (feedOf m ((feedOf m l).2.1 ++ b)).2) else feedOf m l
theorem feed_behind (m : Int) (b : List UInt8) : ∀ l, PieceOk m b l := by
  refine feed_ind m (PieceOk m b) ?_
  intro l ih
  unfold PieceOk at ih ⊢
  by_cases h0 : takE (bs l) m = 0
  · obtain ⟨t1, t2, t3, t4, t5⟩ := tak_behind l b m (by rw [h0]; decide)
    obtain ⟨n1, n2, n3⟩ := tak_n l m h0
    have ih0 := ih h0
    rw [feed_more m (l ++ b) (t1.trans h0), t2, t3, t4, t5, List.drop_append_of_le_length n2, ih0, feed_more m l h0]
    clear ih0 ih
    generalize feedOf m (l.drop (takN (bs l) m).toNat) = R
    obtain ⟨R1, R2, R3⟩ := R
    generalize feedOf m (R2 ++ b) = Q
    by_cases hz : R3 = 0
    · rw [if_pos hz, if_pos hz]; rfl
    · rw [if_neg hz, if_neg hz]
  · by_cases h3 : takE (bs l) m = 3
    · rw [feed_short m l h3, if_pos rfl]; rfl
    · obtain ⟨t1, -⟩ := tak_behind l b m h3
      rw [feed_bad m l h0 h3, feed_bad m (l ++ b) (by rw [t1]; exact h0) (by rw [t1]; exact h3), t1, if_neg h0]
end Go.Proofs.YthcomjhpjlcpdaaGreatDoor
namespace Go.Proofs.YthcomjhpjlcpdaaGreatDoor
open Go.RowKit

/-- what is answered to bytes, what is left, how many answers, whether it is closed -/
def srvR (h p f : List UInt8) : Nat → List UInt8 → List UInt8 × List UInt8 × Nat × Bool
  | 0, l => ([], l, 0, false)
  | k + 1, l => if askE (bs l) = 0 then (orgS h p f (bs (l.take (askN (bs l)).toNat)) ++ (srvR h p f k (l.drop (askN (bs l)).toNat)).1, (srvR h p f k (l.drop (askN (bs l)).toNat)).2.1, (srvR h p f k (l.drop (askN (bs l)).toNat)).2.2.1 + 1, (srvR h p f k (l.drop (askN (bs l)).toNat)).2.2.2) else if askE (bs l) = 3 then ([], l, 0, false) else (orgS h p f (bs l), [], 1, true)
def srvOf (h p f : List UInt8) (l : List UInt8) : List UInt8 × List UInt8 × Nat × Bool := srvR h p f (l.length + 1) l
theorem ask_n (l : List UInt8) (h : askE (bs l) = 0) : 1 ≤ (askN (bs l)).toNat ∧ (askN (bs l)).toNat ≤ l.length ∧ askN (bs l) = ((askN (bs l)).toNat : Int) := by
  obtain ⟨-, h2, h3, -⟩ := ask_again (bs l) h
  rw [bs_size] at h3
  omega
theorem srvR_more (h p f : List UInt8) : ∀ (k : Nat) (l : List UInt8), l.length < k → srvR h p f k l = srvR h p f (k + 1) l := by
  intro k
  induction k with
  | zero => intro l hl; exact absurd hl (Nat.not_lt_zero _)
  | succ k ih =>
    intro l hl
    rw [srvR, srvR]
    by_cases h0 : askE (bs l) = 0
    · rw [if_pos h0, if_pos h0]
      obtain ⟨n1, n2, n3⟩ := ask_n l h0
      rw [ih (l.drop (askN (bs l)).toNat) (by rw [List.length_drop]; omega)]
    · rw [if_neg h0, if_neg h0]
theorem srvR_all (h p f : List UInt8) (l : List UInt8) (k : Nat) (hl : l.length < k) : srvR h p f k l = srvOf h p f l := by
  unfold srvOf
  obtain ⟨j, rfl⟩ : ∃ j, k = l.length + 1 + j := ⟨k - (l.length + 1), by omega⟩
  clear hl
  induction j with
  | zero => rfl
  | succ j ih => rw [← ih, show l.length + 1 + (j + 1) = l.length + 1 + j + 1 by omega, ← srvR_more h p f _ l (by omega)]
theorem srv_more (h p f : List UInt8) (l : List UInt8) (h0 : askE (bs l) = 0) : srvOf h p f l = (orgS h p f (bs (l.take (askN (bs l)).toNat)) ++ (srvOf h p f (l.drop (askN (bs l)).toNat)).1, (srvOf h p f (l.drop (askN (bs l)).toNat)).2.1, (srvOf h p f (l.drop (askN (bs l)).toNat)).2.2.1 + 1, (srvOf h p f (l.drop (askN (bs l)).toNat)).2.2.2) := by
  obtain ⟨n1, n2, n3⟩ := ask_n l h0
  have e := srvR_all h p f (l.drop (askN (bs l)).toNat) l.length (by rw [List.length_drop]; omega)
  unfold srvOf at e ⊢
  rw [srvR, if_pos h0, e]
theorem srv_short (h p f : List UInt8) (l : List UInt8) (h3 : askE (bs l) = 3) : srvOf h p f l = ([], l, 0, false) := by
  unfold srvOf
  rw [srvR, if_neg (by rw [h3]; decide), if_pos h3]
theorem srv_bad (h p f : List UInt8) (l : List UInt8) (h0 : askE (bs l) ≠ 0) (h3 : askE (bs l) ≠ 3) : srvOf h p f l = (orgS h p f (bs l), [], 1, true) := by
  unfold srvOf
  rw [srvR, if_neg h0, if_neg h3]
theorem srv_ind (P : List UInt8 → Prop) (hp : ∀ l, (askE (bs l) = 0 → P (l.drop (askN (bs l)).toNat)) → P l) : ∀ l, P l := by
  intro l
  obtain ⟨n, hn⟩ : ∃ n, l.length ≤ n := ⟨_, Nat.le_refl _⟩
  induction n generalizing l with
  | zero =>
    refine hp l (fun h => ?_)
    have := ask_n l h
    omega
  | succ n ih =>
    refine hp l (fun h => ih _ ?_)
    have := ask_n l h
    rw [List.length_drop]; omega
/-- what is left is too short, or nothing; few answers; each is short -/
def SrvRest (h p f : List UInt8) (l : List UInt8) : Prop := ((srvOf h p f l).2.2.2 = false → askE (bs (srvOf h p f l).2.1) = 3) ∧ ((srvOf h p f l).2.2.2 = true → (srvOf h p f l).2.1 = []) ∧ (srvOf h p f l).2.1.length ≤ l.length ∧ (srvOf h p f l).2.2.1 ≤ l.length + 1 ∧ (srvOf h p f l).1.length ≤ (srvOf h p f l).2.2.1 * (4400 + f.length)
theorem orgS_len (h p f : List UInt8) (s : ByteArray) (hf : f.length ≤ 1000000) : (orgS h p f s).length ≤ 4400 + f.length := by
  by_cases he : orgE h p = 0
  · rw [orgS_eq h p f s hf he]
    have h1 := orgY_len h p f s
    have h2 := (repL_len _ _ (orgY h p f s) (org_good h p f s hf) (by omega)).1
    omega
  · unfold orgS; rw [if_neg he]; exact Nat.zero_le _
theorem srv_rest (h p f : List UInt8) (hf : f.length ≤ 1000000) : ∀ l, SrvRest h p f l := by
  refine srv_ind (SrvRest h p f) ?_
  intro l ih
  unfold SrvRest at ih ⊢
  by_cases h0 : askE (bs l) = 0
  · have ih0 := ih h0
    obtain ⟨n1, n2, n3⟩ := ask_n l h0
    have ho := orgS_len h p f (bs (l.take (askN (bs l)).toNat)) hf
    rw [srv_more h p f l h0]
    rw [List.length_drop] at ih0
    generalize srvOf h p f (l.drop (askN (bs l)).toNat) = R at ih0 ⊢
    obtain ⟨i1, i2, i3, i4, i5⟩ := ih0
    refine ⟨i1, i2, Nat.le_trans i3 (Nat.sub_le _ _), ?_, ?_⟩
    · show R.2.2.1 + 1 ≤ _; omega
    · show (orgS h p f (bs (l.take (askN (bs l)).toNat)) ++ R.1).length ≤ (R.2.2.1 + 1) * (4400 + f.length)
      rw [List.length_append, Nat.add_mul, Nat.one_mul]; omega
  · by_cases h3 : askE (bs l) = 3
    · rw [srv_short h p f l h3]; exact ⟨fun _ => h3, (fun h => absurd (show false = true from h) (by decide)), Nat.le_refl _, Nat.zero_le _, Nat.zero_le _⟩
    · have ho := orgS_len h p f (bs l) hf
      rw [srv_bad h p f l h0 h3]; exact ⟨(fun h => absurd (show true = false from h) (by decide)), fun _ => rfl, Nat.zero_le _, by show 1 ≤ l.length + 1; omega, by show (orgS h p f (bs l)).length ≤ 1 * _; omega⟩
/-- what is not too short does not hang on what stands behind -/
theorem ask_behind (l b : List UInt8) (h : askE (bs l) ≠ 3) : askE (bs (l ++ b)) = askE (bs l) ∧ askN (bs (l ++ b)) = askN (bs l) := by
  have hh : (headOf (bs l)).2.2 ≠ 3 := fun e => h (by unfold askE; rw [e]; rfl)
  have hd := head_behind l b hh
  have hE : askE (bs (l ++ b)) = askE (bs l) := by unfold askE; rw [hd]
  refine ⟨hE, ?_⟩
  unfold askN
  rw [hE, hd]
/-- what may not be is answered alike -/
theorem orgS_bad (h p f : List UInt8) (s t : ByteArray) (hs : askE s ≠ 0) (ht : askE t ≠ 0) : orgS h p f s = orgS h p f t := by
  have e : ∀ u, askE u ≠ 0 → orgC h p f u = 400 := fun u hu => by unfold orgC; rw [if_pos (.inl hu)]
  obtain ⟨s1, s2⟩ := orgF_other h p f s (by rw [e s hs]; decide)
  obtain ⟨t1, t2⟩ := orgF_other h p f t (by rw [e t ht]; decide)
  unfold orgS
  rw [s1, s2, t1, t2, e s hs, e t ht]
/-- the pieces do not matter -/
def SrvPiece (h p f b l : List UInt8) : Prop := srvOf h p f (l ++ b) = if (srvOf h p f l).2.2.2 = true then srvOf h p f l else ((srvOf h p f l).1 ++ (srvOf h p f ((srvOf h p f l).2.1 ++ b)).1, (srvOf h p f ((srvOf h p f l).2.1 ++ b)).2.1, (srvOf h p f l).2.2.1 + (srvOf h p f ((srvOf h p f l).2.1 ++ b)).2.2.1, (srvOf h p f ((srvOf h p f l).2.1 ++ b)).2.2.2)
theorem srv_behind (h p f b : List UInt8) : ∀ l, SrvPiece h p f b l := by
  refine srv_ind (SrvPiece h p f b) ?_
  intro l ih
  unfold SrvPiece at ih ⊢
  by_cases h0 : askE (bs l) = 0
  · obtain ⟨t1, t2⟩ := ask_behind l b (by rw [h0]; decide)
    obtain ⟨n1, n2, n3⟩ := ask_n l h0
    have ih0 := ih h0
    rw [srv_more h p f (l ++ b) (t1.trans h0), t2, List.drop_append_of_le_length n2, List.take_append_of_le_length n2, ih0, srv_more h p f l h0]
    clear ih0 ih
    generalize srvOf h p f (l.drop (askN (bs l)).toNat) = R
    obtain ⟨R1, R2, R3, R4⟩ := R
    generalize srvOf h p f (R2 ++ b) = Q
    cases R4 with
    | true => rfl
    | false =>
      simp only [Bool.false_eq_true, if_false, List.append_assoc, Prod.mk.injEq, true_and, and_true]
      omega
  · by_cases h3 : askE (bs l) = 3
    · rw [srv_short h p f l h3, if_neg (show ¬ (false = true) by decide)]; simp
    · obtain ⟨t1, -⟩ := ask_behind l b h3
      rw [srv_bad h p f l h0 h3, srv_bad h p f (l ++ b) (by rw [t1]; exact h0) (by rw [t1]; exact h3), if_pos rfl, orgS_bad h p f (bs (l ++ b)) (bs l) (by rw [t1]; exact h0) h0]
end Go.Proofs.YthcomjhpjlcpdaaGreatDoor
namespace Go.Proofs.YthcomjhpjlcpdaaGreatDoor
open Go.RowKit
/-- a fault: its kind, number and text; a request's event -/
abbrev Flt := Int × Int × ByteArray
abbrev Evt := Int × Int × Bool
def noF : Flt := (0, 0, ⟨#[]⟩)
def wholeK (h p f s : ByteArray) : ByteArray := bs (orgS h.data.toList p.data.toList f.data.toList s)
def gotK (h p f : ByteArray) (x : Flt) (s : ByteArray) : ByteArray := bs (applyF x.1 x.2.1 x.2.2.data.toList (wholeK h p f s))
def hurtK (h p f : ByteArray) (x : Flt) (s : ByteArray) : Bool := harmF x.1 x.2.1 x.2.2.data.toList (wholeK h p f s)
def evK (h p f : ByteArray) (x : Flt) (s : ByteArray) : Evt := ((s.size : Int), ((gotK h p f x s).size : Int), hurtK h p f x s)
def oneK (b : Bool) : Nat := if b = true then 1 else 0
theorem hurt_eq (h p f : ByteArray) (x : Flt) (s : ByteArray) : hurtK h p f x s = !((gotK h p f x s).toList == (wholeK h p f s).toList) := by
  unfold hurtK gotK harmF
  rw [ByteArray.toList_eq, ByteArray.toList_eq, bs_data]
  by_cases e : applyF x.1 x.2.1 x.2.2.data.toList (wholeK h p f s) = (wholeK h p f s).data.toList
  · rw [e]; simp
  · rw [decide_eq_true e, beq_eq_false_iff_ne.2 e]; rfl
theorem whole_size (h p f s : ByteArray) (hf : f.size ≤ 1000000) : (wholeK h p f s).size ≤ 4400 + f.size := by
  unfold wholeK
  rw [bs_size]
  have := orgS_len h.data.toList p.data.toList f.data.toList s (by rw [size_len]; exact hf)
  rw [size_len] at this
  exact this
theorem got_size (h p f : ByteArray) (x : Flt) (s : ByteArray) (hf : f.size ≤ 1000000) : (gotK h p f x s).size ≤ 4600 + f.size + x.2.2.size := by
  unfold gotK
  rw [bs_size]
  have h1 := applyF_len x.1 x.2.1 x.2.2.data.toList (wholeK h p f s)
  have h2 := whole_size h p f s hf
  rw [size_len] at h1
  omega
theorem got_none (h p f s : ByteArray) : gotK h p f noF s = wholeK h p f s := by
  unfold gotK noF
  rw [apply_off 0 0 _ _ (by decide) (by decide) (by decide) (by decide) (by decide), bs_self]
theorem hurt_none (h p f s : ByteArray) : hurtK h p f noF s = false := by
  rw [hurt_eq, got_none]; simp
/-- a link's state behind some requests -/
def restK (l : List Flt) (asks : List ByteArray) : List Flt := l.drop asks.length
def logK (h p f : ByteArray) : List Flt → List ByteArray → List Evt
  | _, [] => []
  | l, s :: t => evK h p f (l.headD noF) s :: logK h p f l.tail t
def harmsK (l : List Evt) : Nat := l.countP (fun e => e.2.2)
theorem logK_snoc (h p f : ByteArray) : ∀ (asks : List ByteArray) (l : List Flt) (s : ByteArray), logK h p f l (asks ++ [s]) = logK h p f l asks ++ [evK h p f ((restK l asks).headD noF) s] := by
  intro asks
  induction asks with
  | nil => intro l s; rfl
  | cons a t ih =>
    intro l s
    have h1 : restK l (a :: t) = restK l.tail t := by
      unfold restK
      rw [List.length_cons, List.drop_tail]
    show evK h p f (l.headD noF) a :: logK h p f l.tail (t ++ [s]) = evK h p f (l.headD noF) a :: logK h p f l.tail t ++ [_]
    rw [ih, h1]
    rfl
theorem harmsK_snoc (l : List Evt) (e : Evt) : harmsK (l ++ [e]) = harmsK l + oneK e.2.2 := by
  unfold harmsK oneK
  rw [List.countP_append]
  congr 1
  cases h : e.2.2 <;> simp [h]
/-- the cells of faults and of events -/
def flts (l : List Flt) : List Value := l.flatMap fun x => [.int .u8 x.1, .int .i64 x.2.1, .string x.2.2]
def evs (l : List Evt) : List Value := l.flatMap fun e => [.int .i64 e.1, .int .i64 e.2.1, .bool e.2.2]
theorem flts_length (l : List Flt) : (flts l).length = l.length * 3 := by
  induction l with
  | nil => rfl
  | cons x t ih =>
    unfold flts at ih ⊢
    rw [List.flatMap_cons, List.length_append, ih, List.length_cons]
    simp only [List.length_cons, List.length_nil]
    omega
theorem evs_length (l : List Evt) : (evs l).length = l.length * 3 := by
  induction l with
  | nil => rfl
  | cons x t ih =>
    unfold evs at ih ⊢
    rw [List.flatMap_cons, List.length_append, ih, List.length_cons]
    simp only [List.length_cons, List.length_nil]
    omega
theorem flts_append (a b : List Flt) : flts (a ++ b) = flts a ++ flts b := by simp [flts]
theorem evs_append (a b : List Evt) : evs (a ++ b) = evs a ++ evs b := by simp [evs]
theorem flts_get (l : List Flt) : ∀ (j : Nat) (hj : j < l.length), (flts l)[3 * j]? = some (.int .u8 l[j].1) ∧ (flts l)[3 * j + 1]? = some (.int .i64 l[j].2.1) ∧ (flts l)[3 * j + 2]? = some (.string l[j].2.2) := by
  induction l with
  | nil => intro j hj; simp at hj
  | cons x t ih =>
    intro j hj
    cases j with
    | zero => exact ⟨rfl, rfl, rfl⟩
    | succ j =>
      obtain ⟨a, b, c⟩ := ih j (by simpa using hj)
      refine ⟨?_, ?_, ?_⟩
      · rw [show 3 * (j + 1) = 3 * j + 3 by omega]; exact a
      · rw [show 3 * (j + 1) + 1 = 3 * j + 1 + 3 by omega]; exact b
      · rw [show 3 * (j + 1) + 2 = 3 * j + 2 + 3 by omega]; exact c
theorem evs_get (l : List Evt) : ∀ (j : Nat) (hj : j < l.length), (evs l)[3 * j]? = some (.int .i64 l[j].1) ∧ (evs l)[3 * j + 1]? = some (.int .i64 l[j].2.1) ∧ (evs l)[3 * j + 2]? = some (.bool l[j].2.2) := by
  induction l with
  | nil => intro j hj; simp at hj
  | cons x t ih =>
    intro j hj
    cases j with
    | zero => exact ⟨rfl, rfl, rfl⟩
    | succ j =>
      obtain ⟨a, b, c⟩ := ih j (by simpa using hj)
      refine ⟨?_, ?_, ?_⟩
      · rw [show 3 * (j + 1) = 3 * j + 3 by omega]; exact a
      · rw [show 3 * (j + 1) + 1 = 3 * j + 1 + 3 by omega]; exact b
      · rw [show 3 * (j + 1) + 2 = 3 * j + 2 + 3 by omega]; exact c
end Go.Proofs.YthcomjhpjlcpdaaGreatDoor
