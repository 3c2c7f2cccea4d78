/- The ends of lines in a text of lines, counted and cut at; how many lines are unlike (no program in sight). fault.Apply and fault.Harms at any kind. The document's Apply. The document's Apply: another range, another second line, no fault. Plain words on what is told of a range (no program in sight). The small example of the laws of layer 26. Plain words: what an origin answers (no program in sight). The small example of the laws of layer 28. The law FaultTells. What the listed variables give. What an argument that is a slice of the reference's fields reads as. The law function FaultTells, as the row's proof takes it. -/
import Derived.Test.YtgnkmfjleecmfaaGreatDoorPf10
import Derived.Lib.SplitLaws
import Derived.Deep.RegionHeld3
import Derived.Test.YtgnkmfjleecmfaaGreatDoorRows
import Derived.OpenShut
import Derived.MakeChecks
import Derived.Stop.LaidErr
import Derived.PinnedBridge
import Derived.Lib.LaidU8T
import Derived.Lib.SmallJoins
import Derived.Deep.Slices
import Derived.Deep.Fields
import Derived.ChangeSame
import Derived.ChangeArms
import Derived.WideShapes
set_option linter.unusedVariables false
namespace Go.Proofs.YtgnkmfjleecmfaaGreatDoor
open Go.RowKit
open Go.Lib
theorem index_crlf (x rest : List UInt8) (hx : noEnds x) : index (x ++ 13 :: 10 :: rest) [13, 10] = ((x.length : Nat) : Int) := by
  induction x with
  | nil => unfold index; simp
  | cons c t ih =>
    have hc := hx c (List.mem_cons_self ..)
    have h0 : [(13 : UInt8), 10].isPrefixOf (c :: (t ++ 13 :: 10 :: rest)) = false := by
      simp only [List.isPrefixOf, Bool.and_eq_false_iff]
      left
      exact beq_eq_false_iff_ne.2 (fun e => hc.1 e.symm)
    rw [List.cons_append, index, if_neg (by rw [h0]; decide), ih (fun d hd => hx d (List.mem_cons_of_mem _ hd)), if_neg (by simp <;> omega)]
    simp
theorem count_crlf (x rest : List UInt8) (hx : noEnds x) : count (x ++ 13 :: 10 :: rest) [13, 10] = 1 + count rest [13, 10] := by
  rw [count_hit (by simp) (index_crlf x rest hx)]
  congr 2
  have e : x ++ 13 :: 10 :: rest = (x ++ [13, 10]) ++ rest := by simp
  rw [e, show x.length + [(13 : UInt8), 10].length = (x ++ [13, 10]).length from by simp, List.drop_left]
theorem split_crlf (x rest : List UInt8) (hx : noEnds x) : split (x ++ 13 :: 10 :: rest) [13, 10] = x :: split rest [13, 10] := by
  have hi := index_crlf x rest hx
  unfold split
  rw [count_crlf x rest hx, Nat.add_comm, splitK, if_neg (by rw [hi]; simp <;> omega), hi]
  have e : x ++ 13 :: 10 :: rest = (x ++ [13, 10]) ++ rest := by simp
  congr 1
  · simp
  · rw [e, show ((x.length : Int)).toNat + [(13 : UInt8), 10].length = (x ++ [13, 10]).length from by simp, List.drop_left]
theorem count_body (rest : List UInt8) : ∀ ls : List (List UInt8), (∀ x ∈ ls, noEnds x) → count (body ls ++ rest) [13, 10] = ls.length + count rest [13, 10] := by
  intro ls
  induction ls with
  | nil => intro _; simp [body]
  | cons x t ih =>
    intro h
    have e : body (x :: t) ++ rest = x ++ 13 :: 10 :: (body t ++ rest) := by simp [body]
    rw [e, count_crlf x _ (h x (List.mem_cons_self ..)), ih (fun y hy => h y (List.mem_cons_of_mem _ hy)), List.length_cons]
    omega
theorem split_body (rest : List UInt8) : ∀ ls : List (List UInt8), (∀ x ∈ ls, noEnds x) → split (body ls ++ rest) [13, 10] = ls ++ split rest [13, 10] := by
  intro ls
  induction ls with
  | nil => intro _; simp [body]
  | cons x t ih =>
    intro h
    have e : body (x :: t) ++ rest = x ++ 13 :: 10 :: (body t ++ rest) := by simp [body]
    rw [e, split_crlf x _ (h x (List.mem_cons_self ..)), ih (fun y hy => h y (List.mem_cons_of_mem _ hy))]
    rfl
theorem split_end (ls : List (List UInt8)) (h : ∀ x ∈ ls, noEnds x) : split (body ls ++ [13, 10]) [13, 10] = ls ++ [[], []] := by
  rw [split_body [13, 10] ls h]
  congr 1
/-- how many places of two lists are unlike -/
def nd : List (List UInt8) → List (List UInt8) → Nat
  | x :: a, y :: b => (if x = y then 0 else 1) + nd a b
  | _, _ => 0
theorem nd_step (a : List (List UInt8)) : ∀ (b : List (List UInt8)) (k : Nat) (h1 : k < a.length) (h2 : k < b.length), nd (a.take (k + 1)) (b.take (k + 1)) = nd (a.take k) (b.take k) + (if a[k] = b[k] then 0 else 1) := by
  induction a with
  | nil => intro b k h1; simp at h1
  | cons x t ih =>
    intro b k h1 h2
    cases b with
    | nil => simp at h2
    | cons y u =>
      cases k with
      | zero => simp [nd]
      | succ k =>
        have := ih u k (by simpa using h1) (by simpa using h2)
        simp only [List.take_succ_cons, nd, List.getElem_cons_succ] at this ⊢
        rw [this]; omega
theorem nd_same (a : List (List UInt8)) : nd a a = 0 := by
  induction a with
  | nil => rfl
  | cons x t ih => simp [nd, ih]
theorem nd_set (a : List (List UInt8)) : ∀ (i : Nat) (x : List UInt8) (h : i < a.length), nd a (a.set i x) = if a[i] = x then 0 else 1 := by
  induction a with
  | nil => intro i x h; simp at h
  | cons y t ih =>
    intro i x h
    cases i with
    | zero => simp [nd, nd_same]
    | succ i =>
      have := ih i x (by simpa using h)
      simp only [List.set_cons_succ, nd, List.getElem_cons_succ] at this ⊢
      rw [this]; simp
theorem set_in {x : List UInt8} {ls : List (List UInt8)} {i : Nat} (h : ∀ x ∈ ls, noEnds x) (hx : noEnds x) : ∀ y ∈ ls.set i x, noEnds y := by
  intro y hy
  rcases List.mem_or_eq_of_mem_set hy with hy | rfl
  · exact h y hy
  · exact hx
/-- a line that is another one makes the text another one, and just then -/
theorem put_same (ls : List (List UInt8)) (i : Nat) (x rest : List UInt8) (hi : i < ls.length) : (body (ls.set i x) ++ rest = body ls ++ rest) ↔ ls[i] = x := by
  constructor
  · intro h
    have h2 := List.append_cancel_right h
    rw [body_put ls i hi, body_split ls i hi] at h2
    have h3 := List.append_cancel_left h2
    exact (List.append_cancel_right h3).symm
  · intro h
    rw [← h, List.set_getElem_self]
/-- all that FaultKeeps asks of a fault that neither shuts nor cuts -/
theorem keeps_rep (c : Int) (fs : List (List UInt8 × List UInt8)) (b : List UInt8) (s : ByteArray) (k n : Int) (t : List UInt8) (h : repE c fs = 0) (hn : b.length ≤ 1000000) (hs : s.data.toList = repL c fs b) (h1 : k ≠ 1) (h2 : k ≠ 2) :
    ∃ ls ls' : List (List UInt8), ls'.length = ls.length ∧ ls.length ≤ 19 ∧ repL c fs b = body (ls.take (ls.length - 2)) ++ 13 :: 10 :: b ∧ applyF k n t s = body (ls'.take (ls.length - 2)) ++ 13 :: 10 :: b ∧ 2 ≤ ls.length ∧
      count s.data.toList [13, 10] = count (applyF k n t s) [13, 10] ∧ split (body (ls.take (ls.length - 2)) ++ [13, 10]) [13, 10] = ls ∧ split (body (ls'.take (ls.length - 2)) ++ [13, 10]) [13, 10] = ls' ∧
      nd ls ls' ≤ 1 ∧ (nd ls ls' = 1 ↔ applyF k n t s ≠ s.data.toList) := by
  obtain ⟨i, x, hi, hx, he, -⟩ := apply_rep c fs b s k n t h hn hs h1 h2
  obtain ⟨g1, g2⟩ := good_lines c fs b.length h hn
  have hno : ∀ y ∈ repLines c fs b.length, noEnds y := fun y hy => plain_noEnds y (g1 y hy).2.1
  have hrep : repL c fs b = body (repLines c fs b.length) ++ 13 :: 10 :: b := rfl
  generalize repLines c fs b.length = ls at *
  have hln : (ls ++ [[], []]).length - 2 = ls.length := by simp
  have hsl : (ls.set i x).length = ls.length := List.length_set
  have t1 : (ls ++ [[], []]).take ls.length = ls := List.take_left' rfl
  have t2 : (ls.set i x ++ [[], []]).take ls.length = ls.set i x := List.take_left' hsl
  have e1 : ls.set i x ++ [[], []] = (ls ++ [[], []]).set i x := by rw [List.set_append_left _ _ hi]
  have e2 : (ls ++ [([] : List UInt8), []])[i]'(by simp; omega) = ls[i] := List.getElem_append_left hi
  have hnd : nd (ls ++ [[], []]) (ls.set i x ++ [[], []]) = if ls[i] = x then 0 else 1 := by
    rw [e1, nd_set _ i x (by simp; omega), e2]
  refine ⟨ls ++ [[], []], ls.set i x ++ [[], []], by simp, by simp; omega, ?_, ?_, by simp, ?_, ?_, ?_, ?_, ?_⟩
  · rw [hln, t1]; exact hrep
  · rw [hln, t2]; exact he
  · rw [he, hs, hrep, count_body _ ls hno, count_body _ _ (set_in hno hx), hsl]
  · rw [hln, t1]; exact split_end ls hno
  · rw [hln, t2]; exact split_end _ (set_in hno hx)
  · rw [hnd]; split <;> omega
  · rw [hnd, he, hs, hrep]
    have := put_same ls i x (13 :: 10 :: b) hi
    by_cases e : ls[i] = x
    · rw [if_pos e]
      exact ⟨fun h => absurd h (by decide), fun h => absurd (this.2 e) h⟩
    · rw [if_neg e]
      exact ⟨fun _ h => e (this.1 h), fun _ => rfl⟩
end Go.Proofs.YtgnkmfjleecmfaaGreatDoor
namespace Go.Proofs.YtgnkmfjleecmfaaGreatDoor
open Go.RowKit
set_option maxRecDepth 100000 in
set_option maxHeartbeats 4000000 in
theorem apply_any (k n : Int) (t s : ByteArray) (w : World) (hk : 6 ≤ k) : Calls Tryz.prog 10 #[.agg #[.int .u8 k, .int .i64 n, .string t], .string s] w fun e w' => e = .returned (.string s) ∧ Below w.heap.size w w' := by
  have HB := Lib.hid (below_agg3 w (.int .u8 k) (.int .i64 n) (.string t) 28)
  go_enter Tryz.func10, Tryz.ntmps10
  go_wp2_with fail
  go_ret
  exact ⟨rfl, HB.out⟩
theorem apply_off (k n : Int) (t : List UInt8) (s : ByteArray) (h1 : k ≠ 1) (h2 : k ≠ 2) (h3 : k ≠ 3) (h4 : k ≠ 4) (h5 : k ≠ 5) : applyF k n t s = s.data.toList := by
  unfold applyF
  rw [if_neg h1, if_neg h2]
  by_cases hb : (headOf s).2.2 ≠ 0 ∨ (headOf s).1 = []
  · rw [if_pos hb]
  · rw [if_neg hb, if_neg h3, if_neg h5, if_neg h4]
theorem apply_bad (k n : Int) (t : List UInt8) (s : ByteArray) (h1 : k ≠ 1) (h2 : k ≠ 2) (h : (headOf s).2.2 ≠ 0 ∨ (headOf s).1.length = 0) : applyF k n t s = s.data.toList := by
  unfold applyF
  rw [if_neg h1, if_neg h2, if_pos]
  rcases h with h | h
  · exact .inl h
  · exact .inr (List.length_eq_zero_iff.1 h)
theorem fault_apply (k n : Int) (t s : ByteArray) (w : World) (hE : EnvW w) (hk0 : 0 ≤ k) (h0 : -9223372036854775808 ≤ n) (h1 : n ≤ 9223372036854775807) (ht : t.size ≤ 10000) (hs : s.size ≤ 1000000) :
    Calls Tryz.prog 10 #[.agg #[.int .u8 k, .int .i64 n, .string t], .string s] w fun e w' => e = .returned (.string (bs (applyF k n t.data.toList s))) ∧ Below w.heap.size w w' := by
  have same : applyF k n t.data.toList s = s.data.toList → (∀ (R : Ending → World → Prop), (R = fun e w' => e = .returned (.string s) ∧ Below w.heap.size w w') → Calls Tryz.prog 10 #[.agg #[.int .u8 k, .int .i64 n, .string t], .string s] w R) → Calls Tryz.prog 10 #[.agg #[.int .u8 k, .int .i64 n, .string t], .string s] w fun e w' => e = .returned (.string (bs (applyF k n t.data.toList s))) ∧ Below w.heap.size w w' := by
    intro e h
    rw [e, bs_self]
    exact h _ rfl
  rcases Int.lt_or_le k 6 with hk | hk
  case inr => exact same (apply_off k n _ s (by omega) (by omega) (by omega) (by omega) (by omega)) (fun R hR => by rw [hR]; exact apply_any k n t s w hk)
  have hc : k = 0 ∨ k = 1 ∨ k = 2 ∨ k = 3 ∨ k = 4 ∨ k = 5 := by omega
  have hh : (headOf s).2.2 ≠ 0 ∨ ((headOf s).2.2 = 0 ∧ (headOf s).1.length = 0) ∨ ((headOf s).2.2 = 0 ∧ (headOf s).1.length ≠ 0) := by omega
  have good : (headOf s).2.2 = 0 ∧ (headOf s).1.length ≠ 0 → ¬ ((headOf s).2.2 ≠ 0 ∨ (headOf s).1 = []) := by
    rintro ⟨a, b⟩ (c | c)
    · exact c a
    · exact b (by rw [c]; rfl)
  rcases hc with rfl | rfl | rfl | rfl | rfl | rfl
  · exact same (apply_off 0 n _ s (by omega) (by omega) (by omega) (by omega) (by omega)) (fun R hR => by rw [hR]; exact apply_keep n t s w hE h0 h1 ht hs)
  · exact apply_shut n t s w hE h0 h1 ht hs
  · exact apply_cut n t s w hE h0 h1 ht hs
  · rcases hh with hb | hb | hb
    · exact same (apply_bad 3 n _ s (by omega) (by omega) (.inl hb)) (fun R hR => by rw [hR]; exact apply_code_err n t s w hE hs hb)
    · exact same (apply_bad 3 n _ s (by omega) (by omega) (.inr hb.2)) (fun R hR => by rw [hR]; exact apply_code_none n t s w hE hs hb)
    · have e : applyF 3 n t.data.toList s = codeF n s := by
        unfold applyF codeF
        rw [if_neg (by omega), if_neg (by omega), if_neg (good hb), if_pos rfl]
      rw [e]
      exact apply_code n t s w hE h0 h1 ht hs hb
  · rcases hh with hb | hb | hb
    · exact same (apply_bad 4 n _ s (by omega) (by omega) (.inl hb)) (fun R hR => by rw [hR]; exact apply_place_err n t s w hE hs hb)
    · exact same (apply_bad 4 n _ s (by omega) (by omega) (.inr hb.2)) (fun R hR => by rw [hR]; exact apply_place_none n t s w hE hs hb)
    · have e : applyF 4 n t.data.toList s = placeT t.data.toList s (headOf s).1 := by
        unfold applyF placeT
        rw [if_neg (by omega), if_neg (by omega), if_neg (good hb), if_neg (by omega), if_neg (by omega), if_pos rfl]
        cases placeF crangeN (headOf s).1 0 <;> rfl
      rw [e]
      exact apply_place n t s w hE h0 h1 ht hs hb
  · rcases hh with hb | hb | hb
    · exact same (apply_bad 5 n _ s (by omega) (by omega) (.inl hb)) (fun R hR => by rw [hR]; exact apply_garble_err n t s w hE hs hb)
    · exact same (apply_bad 5 n _ s (by omega) (by omega) (.inr hb.2)) (fun R hR => by rw [hR]; exact apply_garble_none n t s w hE hs hb)
    · have e : applyF 5 n t.data.toList s = garbleF t.data.toList s (headOf s).1 := by
        unfold applyF garbleF
        rw [if_neg (by omega), if_neg (by omega), if_neg (good hb), if_neg (by omega), if_pos rfl]
      rw [e]
      exact apply_garble n t s w hE h0 h1 ht hs hb
/-- does a fault make another text of s? -/
def harmF (k n : Int) (t : List UInt8) (s : ByteArray) : Bool := decide (applyF k n t s ≠ s.data.toList)
set_option maxRecDepth 100000 in
theorem fault_harms (k n : Int) (t s : ByteArray) (w : World) (hE : EnvW w) (hk0 : 0 ≤ k) (h0 : -9223372036854775808 ≤ n) (h1 : n ≤ 9223372036854775807) (ht : t.size ≤ 10000) (hs : s.size ≤ 1000000) :
    Calls Tryz.prog 11 #[.agg #[.int .u8 k, .int .i64 n, .string t], .string s] w fun e w' => e = .returned (.bool (harmF k n t.data.toList s)) ∧ Below w.heap.size w w' := by
  have hB := below_agg3 w (.int .u8 k) (.int .i64 n) (.string t) 28
  have HA := Lib.hid (fun W hE => fault_apply k n t s W hE hk0 h0 h1 ht hs)
  have HE := Lib.hid (hE.below hB)
  have HB := Lib.hid hB
  obtain ⟨P, hP⟩ : ∃ P, bs (applyF k n t.data.toList s) = P := ⟨_, rfl⟩
  have HR : Hid (harmF k n t.data.toList s = !(P.toList == s.toList)) := Lib.hid (by
    rw [← hP, ByteArray.toList_eq, ByteArray.toList_eq, bs_data]
    unfold harmF
    by_cases e : applyF k n t.data.toList s = s.data.toList
    · rw [e]; simp
    · rw [decide_eq_true e, beq_eq_false_iff_ne.2 e]; rfl)
  rw [hP] at HA
  clear hB hE hP
  go_enter Tryz.func11, Tryz.ntmps11
  go_wp2_with fail
  refine (HA.out _ HE.out).mono ?_
  rintro e w1 ⟨rfl, hb1⟩
  have HB1 := Lib.hid hb1
  clear hb1
  go_wp2_with fail
  go_ret
  exact ⟨by rw [HR.out]; rfl, bstep HB.out HB1.out⟩
end Go.Proofs.YtgnkmfjleecmfaaGreatDoor
namespace Go.Proofs.YtgnkmfjleecmfaaGreatDoor
open Go.RowKit
theorem rhead_some (s : ByteArray) (w : World) (hs : s.size ≤ 1000000) : Calls Tryz.prog 31 #[.string s] w fun e w' => ∃ a c, e = .returned (.tuple #[.slice a (headOf s).1.length c, .int .i64 (headOf s).2.1, .int .i64 (headOf s).2.2]) ∧ HoldsS w' (.slice a (headOf s).1.length c) (headOf s).1 ∧ Below w.heap.size w w' := by
  refine (ref_head s w (by omega)).mono ?_
  rintro e w' ⟨v, rfl, ho, hb⟩
  obtain ⟨a, c, rfl⟩ := slice_of_own ho
  exact ⟨a, c, rfl, HoldsS.of_own ho, hb⟩
set_option maxRecDepth 100000 in
set_option maxHeartbeats 2000000 in
theorem rapply_shut (n : Int) (t s : ByteArray) (w : World) :
    Calls Tryz.prog 9 #[.agg #[.int .u8 1, .int .i64 n, .string t], .string s] w fun e w' => e = .returned (.string ⟨#[]⟩) ∧ Below w.heap.size w w' := by
  have HB := Lib.hid (below_agg3 w (.int .u8 1) (.int .i64 n) (.string t) 23)
  go_enter Tryz.func9, Tryz.ntmps9
  go_wp2_with fail
  go_ret
  exact ⟨rfl, HB.out⟩
set_option maxRecDepth 100000 in
set_option maxHeartbeats 2000000 in
theorem rapply_cut (n : Int) (t s : ByteArray) (w : World) :
    Calls Tryz.prog 9 #[.agg #[.int .u8 2, .int .i64 n, .string t], .string s] w fun e w' => e = .returned (.string (bs (s.data.toList.take (max 0 (min n (s.size : Int))).toNat))) ∧ Below w.heap.size w w' := by
  have HB := Lib.hid (below_agg3 w (.int .u8 2) (.int .i64 n) (.string t) 23)
  go_enter Tryz.func9, Tryz.ntmps9
  go_wp2_with fail
  go_ret
  exact ⟨ret_str (bs_take _ _), HB.out⟩
set_option maxRecDepth 100000 in
set_option maxHeartbeats 2000000 in
theorem rapply_bad (k n : Int) (t s : ByteArray) (w : World) (hs : s.size ≤ 1000000) (h1 : k ≠ 1) (h2 : k ≠ 2) (hok : (headOf s).2.2 ≠ 0 ∨ ((headOf s).2.2 = 0 ∧ (headOf s).1.length = 0)) :
    Calls Tryz.prog 9 #[.agg #[.int .u8 k, .int .i64 n, .string t], .string s] w fun e w' => e = .returned (.string s) ∧ Below w.heap.size w w' := by
  have HB := Lib.hid (below_agg3 w (.int .u8 k) (.int .i64 n) (.string t) 23)
  have HH := Lib.hid (fun W => rhead_some s W hs)
  have u1 : (k == 1) = false := beq_eq_false_iff_ne.2 h1
  have u2 : (k == 2) = false := beq_eq_false_iff_ne.2 h2
  rcases hok with hok | hok
  · have g2 : (((headOf s).2.2 : Int) != 0) = true := by rw [bne_iff_ne]; omega
    generalize (headOf s).2.2 = ER at HH g2 hok
    go_enter Tryz.func9, Tryz.ntmps9
    go_wp2_with fail
    refine (HH.out _).mono ?_
    rintro e W2 ⟨al, cl, rfl, hhs, hb2⟩
    have HB2 := Lib.hid hb2
    clear hhs hb2
    go_wp2_with fail
    go_ret
    exact ⟨rfl, bstep HB.out HB2.out⟩
  · obtain ⟨g1, g2⟩ := hok
    rw [g1, g2] at HH
    clear g1 g2
    go_enter Tryz.func9, Tryz.ntmps9
    go_wp2_with fail
    refine (HH.out _).mono ?_
    rintro e W2 ⟨al, cl, rfl, hhs, hb2⟩
    have HB2 := Lib.hid hb2
    clear hhs hb2
    go_wp2_with fail
    go_ret
    exact ⟨rfl, bstep HB.out HB2.out⟩
structure RD (W0 W1 : World) (X : Nat) (k n : Int) (t : ByteArray) : Prop where
  bel : Below W0.heap.size W0 W1
  arg : W1.heap[X]? = some (.cells #[.int .u8 k, .int .i64 n, .string t] 23 (0, 0))
  lt : X < W0.heap.size
theorem RD.start (w : World) (k n : Int) (t : ByteArray) : RD (w.alloc (.cells #[.int .u8 k, .int .i64 n, .string t] 23)) (w.alloc (.cells #[.int .u8 k, .int .i64 n, .string t] 23)) w.heap.size k n t := ⟨Below.refl _ _, heap_alloc_new w _, by simp⟩
theorem RD.step {W0 W1 W2 : World} {X : Nat} {k n : Int} {t : ByteArray} (h : RD W0 W1 X k n t) (hb : Below W1.heap.size W1 W2) : RD W0 W2 X k n t := ⟨bstep h.bel hb, (hb.block X (Nat.lt_of_lt_of_le h.lt h.bel.size)).trans h.arg, h.lt⟩
theorem RD.cells {W0 W1 : World} {X : Nat} {k n : Int} {t : ByteArray} (h : RD W0 W1 X k n t) : W1.cell? ⟨X, 0, none⟩ = some (.int .u8 k) ∧ W1.cell? ⟨X, 1, none⟩ = some (.int .i64 n) ∧ W1.cell? ⟨X, 2, none⟩ = some (.string t) :=
  let ⟨a, b, c, _⟩ := three_facts h.arg
  ⟨a, b, c⟩
set_option maxRecDepth 100000 in
set_option maxHeartbeats 2000000 in
theorem rapply_code (n : Int) (t s : ByteArray) (w : World) (h0 : -9223372036854775808 ≤ n) (h1 : n ≤ 9223372036854775807) (hs : s.size ≤ 1000000) (hok : (headOf s).2.2 = 0 ∧ (headOf s).1.length ≠ 0) :
    Calls Tryz.prog 9 #[.agg #[.int .u8 3, .int .i64 n, .string t], .string s] w fun e w' => e = .returned (.string (bs (codeF n s))) ∧ Below w.heap.size w w' := by
  have HB := Lib.hid (below_agg3 w (.int .u8 3) (.int .i64 n) (.string t) 23)
  have HD := Lib.hid (RD.start w 3 n t)
  have HH := Lib.hid (fun W => rhead_some s W hs)
  have HS := Lib.hid (fun w => ref_print n w h0 h1)
  have HP := Lib.hid (fun W => ref_line s (printOf n) 0 W hs (Nat.le_trans (printOf_size n) (by decide)) (by decide))
  obtain ⟨g1, g2⟩ := hok
  have g3 : (((headOf s).1.length : Int) == 0) = false := by rw [beq_eq_false_iff_ne]; omega
  have g4 : ¬ (((headOf s).1.length : Int) = 0) := by omega
  rw [g1] at HH
  generalize (headOf s).1.length = LN at HH g3 g4
  clear g1 g2
  by_cases he : printErr n = 0
  · have HR : Hid (codeF n s = putF s 0 (printOf n).data.toList) := Lib.hid (if_neg (fun h => h he))
    rw [he] at HS
    clear he
    go_enter Tryz.func9, Tryz.ntmps9
    go_wp2_with fail
    generalize w.alloc (.cells #[.int .u8 3, .int .i64 n, .string t] 23) = W0 at HB HD ⊢
    generalize w.heap.size = X at HD ⊢
    refine (HH.out _).mono ?_
    rintro e W2 ⟨al, cl, rfl, hhs, hb2⟩
    have HD2 := Lib.hid (HD.out.step hb2)
    obtain ⟨x0, x1, x2⟩ := HD2.out.cells
    clear hhs hb2 HH
    go_wp2_with fail
    refine (HS.out _).mono ?_
    rintro e W3 ⟨rfl, hb3⟩
    have HD3 := Lib.hid (HD2.out.step hb3)
    clear hb3 x0 x1 x2
    go_wp2_with fail
    refine (HP.out _).mono ?_
    rintro e W4 ⟨rfl, hb4⟩
    have HD4 := Lib.hid (HD3.out.step hb4)
    clear hb4
    go_wp2_with fail
    go_ret
    exact ⟨ret_str (by rw [HR.out]), bstep HB.out HD4.out.bel⟩
  · have HR : Hid (s = bs (codeF n s)) := Lib.hid (by unfold codeF; rw [if_pos he, bs_self])
    have tz : ((printErr n : Int) != 0) = true := by rw [bne_iff_ne]; omega
    generalize printErr n = E at HS tz
    clear he
    go_enter Tryz.func9, Tryz.ntmps9
    go_wp2_with fail
    generalize w.alloc (.cells #[.int .u8 3, .int .i64 n, .string t] 23) = W0 at HB HD ⊢
    generalize w.heap.size = X at HD ⊢
    refine (HH.out _).mono ?_
    rintro e W2 ⟨al, cl, rfl, hhs, hb2⟩
    have HD2 := Lib.hid (HD.out.step hb2)
    obtain ⟨x0, x1, x2⟩ := HD2.out.cells
    clear hhs hb2 HH
    go_wp2_with fail
    refine (HS.out _).mono ?_
    rintro e W3 ⟨rfl, hb3⟩
    have HD3 := Lib.hid (HD2.out.step hb3)
    clear hb3 x0 x1 x2
    go_wp2_with fail
    go_ret
    exact ⟨ret_str HR.out, bstep HB.out HD3.out.bel⟩
end Go.Proofs.YtgnkmfjleecmfaaGreatDoor
namespace Go.Proofs.YtgnkmfjleecmfaaGreatDoor
open Go.RowKit
set_option maxRecDepth 100000 in
set_option maxHeartbeats 4000000 in
theorem rapply_garble (n : Int) (t s : ByteArray) (w : World) (hs : s.size ≤ 1000000) (ht : t.size ≤ 1000000) (hok : (headOf s).2.2 = 0 ∧ (headOf s).1.length ≠ 0) :
    Calls Tryz.prog 9 #[.agg #[.int .u8 5, .int .i64 n, .string t], .string s] w fun e w' => e = .returned (.string (bs (garbleF t.data.toList s (headOf s).1))) ∧ Below w.heap.size w w' := by
  have HB := Lib.hid (below_agg3 w (.int .u8 5) (.int .i64 n) (.string t) 23)
  have HD := Lib.hid (RD.start w 5 n t)
  have HH := Lib.hid (fun W => rhead_some s W hs)
  have HC := Lib.hid (fun W => ref_clean t W ht)
  have HP := Lib.hid (fun W => ref_line s (bs (cleanL t.data.toList)) 1 W hs (Nat.le_trans (clean_size t) ht) (by decide))
  obtain ⟨g1, g2⟩ := hok
  have g3 : (((headOf s).1.length : Int) == 0) = false := by rw [beq_eq_false_iff_ne]; omega
  have g4 : ¬ (((headOf s).1.length : Int) = 0) := by omega
  rw [g1] at HH
  by_cases hl : (headOf s).1.length < 2
  · have HR : Hid (s = bs (garbleF t.data.toList s (headOf s).1)) := Lib.hid (by unfold garbleF; rw [if_pos hl, bs_self])
    have hl1 : ¬ ((1 : Int) < ((headOf s).1.length : Int)) := by omega
    generalize (headOf s).1.length = LN at HH g3 g4 hl1
    clear g1 g2 hl
    go_enter Tryz.func9, Tryz.ntmps9
    go_wp2_with fail
    generalize w.alloc (.cells #[.int .u8 5, .int .i64 n, .string t] 23) = W0 at HB HD ⊢
    generalize w.heap.size = X at HD ⊢
    refine (HH.out _).mono ?_
    rintro e W2 ⟨al, cl, rfl, hhs, hb2⟩
    have HD2 := Lib.hid (HD.out.step hb2)
    obtain ⟨x0, x1, x2⟩ := HD2.out.cells
    clear hhs hb2 HH
    go_wp2_with fail
    refine wp_loop_rounds 1 ?_
    rw [rounds_succ]
    go_wp2_with fail
    go_ret
    exact ⟨ret_str HR.out, bstep HB.out HD2.out.bel⟩
  · have HR : Hid (garbleF t.data.toList s (headOf s).1 = putF s 1 (bs (cleanL t.data.toList)).data.toList) := Lib.hid (by unfold garbleF; rw [if_neg hl, bs_data])
    have hl1 : (1 : Int) < ((headOf s).1.length : Int) := by omega
    generalize bs (cleanL t.data.toList) = Q at HC HP HR
    generalize (headOf s).1.length = LN at HH g3 g4 hl1
    clear g1 g2 hl
    go_enter Tryz.func9, Tryz.ntmps9
    go_wp2_with fail
    generalize w.alloc (.cells #[.int .u8 5, .int .i64 n, .string t] 23) = W0 at HB HD ⊢
    generalize w.heap.size = X at HD ⊢
    refine (HH.out _).mono ?_
    rintro e W2 ⟨al, cl, rfl, hhs, hb2⟩
    have HD2 := Lib.hid (HD.out.step hb2)
    obtain ⟨x0, x1, x2⟩ := HD2.out.cells
    clear hhs hb2 HH
    go_wp2_with fail
    refine (HC.out _).mono ?_
    rintro e W3 ⟨rfl, rfl⟩
    go_wp2_with fail
    refine (HP.out _).mono ?_
    rintro e W4 ⟨rfl, hb4⟩
    have HD4 := Lib.hid (HD2.out.step hb4)
    clear hb4
    go_wp2_with fail
    go_ret
    exact ⟨ret_str (by rw [HR.out]), bstep HB.out HD4.out.bel⟩
set_option maxRecDepth 100000 in
set_option maxHeartbeats 4000000 in
theorem rapply_rest (k n : Int) (t s : ByteArray) (w : World) (hs : s.size ≤ 1000000) (h1 : k ≠ 1) (h2 : k ≠ 2) (h3 : k ≠ 3) (h4 : k ≠ 4) (h5 : k ≠ 5) (hok : (headOf s).2.2 = 0 ∧ (headOf s).1.length ≠ 0) :
    Calls Tryz.prog 9 #[.agg #[.int .u8 k, .int .i64 n, .string t], .string s] w fun e w' => e = .returned (.string s) ∧ Below w.heap.size w w' := by
  have HB := Lib.hid (below_agg3 w (.int .u8 k) (.int .i64 n) (.string t) 23)
  have HD := Lib.hid (RD.start w k n t)
  have HH := Lib.hid (fun W => rhead_some s W hs)
  have u1 : (k == 1) = false := beq_eq_false_iff_ne.2 h1
  have u2 : (k == 2) = false := beq_eq_false_iff_ne.2 h2
  have u3 : (k == 3) = false := beq_eq_false_iff_ne.2 h3
  have u4 : (k == 4) = false := beq_eq_false_iff_ne.2 h4
  have u5 : (k == 5) = false := beq_eq_false_iff_ne.2 h5
  obtain ⟨g1, g2⟩ := hok
  have g3 : (((headOf s).1.length : Int) == 0) = false := by rw [beq_eq_false_iff_ne]; omega
  have g4 : ¬ (((headOf s).1.length : Int) = 0) := by omega
  rw [g1] at HH
  generalize (headOf s).1.length = LN at HH g3 g4
  clear g1 g2
  by_cases hl1 : (1 : Int) < (LN : Int)
  all_goals
    go_enter Tryz.func9, Tryz.ntmps9
    go_wp2_with fail
    generalize w.alloc (.cells #[.int .u8 k, .int .i64 n, .string t] 23) = W0 at HB HD ⊢
    generalize w.heap.size = X at HD ⊢
    refine (HH.out _).mono ?_
    rintro e W2 ⟨al, cl, rfl, hhs, hb2⟩
    have HD2 := Lib.hid (HD.out.step hb2)
    obtain ⟨x0, x1, x2⟩ := HD2.out.cells
    clear hhs hb2 HH
    go_wp2_with fail
    refine wp_loop_rounds 1 ?_
    rw [rounds_succ]
    go_wp2_with fail
    go_ret
    exact ⟨rfl, bstep HB.out HD2.out.bel⟩
set_option maxRecDepth 100000 in
set_option maxHeartbeats 4000000 in
theorem rapply_place (n : Int) (t s : ByteArray) (w : World) (hs : s.size ≤ 1000000) (ht : t.size ≤ 10000) (hok : (headOf s).2.2 = 0 ∧ (headOf s).1.length ≠ 0) :
    Calls Tryz.prog 9 #[.agg #[.int .u8 4, .int .i64 n, .string t], .string s] w fun e w' => e = .returned (.string (bs (placeT t.data.toList s (headOf s).1))) ∧ Below w.heap.size w w' := by
  have HB := Lib.hid (below_agg3 w (.int .u8 4) (.int .i64 n) (.string t) 23)
  have HD := Lib.hid (RD.start w 4 n t)
  have HH := Lib.hid (fun W => rhead_some s W hs)
  have HC := Lib.hid (fun W => ref_clean t W (by omega))
  have hq : (bs (crangeF ++ cleanL t.data.toList)).size ≤ 1000000 := by
    have := clean_size t
    rw [bs_size] at this
    rw [bs_size, List.length_append, show crangeF.length = 15 from rfl]; omega
  have HP := Lib.hid (fun (i : Nat) (hi : i ≤ 1000) W => ref_line s (bs (crangeF ++ cleanL t.data.toList)) i W hs hq (by omega))
  have hbd := headOf_bound s
  have HF := Lib.hid (fun (x : List UInt8) (hx : x.length ≤ 256) w => by have := ref_fparse (bs x) w (by rw [bs_size]; omega); rw [bs_data] at this; exact this)
  obtain ⟨g1, g2⟩ := hok
  have g3 : (((headOf s).1.length : Int) == 0) = false := by rw [beq_eq_false_iff_ne]; omega
  have g4 : ¬ (((headOf s).1.length : Int) = 0) := by omega
  have hl1 : 1 ≤ (headOf s).1.length := by omega
  rw [g1] at HH
  generalize (headOf s).1 = ls at HH g3 g4 hl1 hbd ⊢
  have HBD := Lib.hid hbd
  have HT : Hid (∀ i, placeF crangeN ls 0 = some i → placeT t.data.toList s ls = putF s i (bs (crangeF ++ cleanL t.data.toList)).data.toList) := Lib.hid (fun i hi => by unfold placeT; rw [hi, bs_data])
  have HT0 : Hid (placeF crangeN ls 0 = none → s = bs (placeT t.data.toList s ls)) := Lib.hid (fun hi => by unfold placeT; rw [hi, bs_self])
  have padd := fun w => run_string_add_sum (P := Tryz.prog) w (⟨#[67, 111, 110, 116, 101, 110, 116, 45, 82, 97, 110, 103, 101, 58, 32]⟩ : ByteArray) (bs (cleanL t.data.toList)) (by have h1 := clean_size t; have e : crangeB.size = (⟨#[67, 111, 110, 116, 101, 110, 116, 45, 82, 97, 110, 103, 101, 58, 32]⟩ : ByteArray).size := rfl; have e2 : crangeB.size = 15 := rfl; rw [← e]; omega)
  have HCAT : Hid ((⟨#[67, 111, 110, 116, 101, 110, 116, 45, 82, 97, 110, 103, 101, 58, 32]⟩ : ByteArray) ++ bs (cleanL t.data.toList) = bs (crangeF ++ cleanL t.data.toList)) := Lib.hid (crange_cat (cleanL t.data.toList))
  generalize bs (cleanL t.data.toList) = Q at HC padd HCAT
  generalize bs (crangeF ++ cleanL t.data.toList) = R at HP HT HCAT
  clear g1 g2 hbd hq
  go_enter Tryz.func9, Tryz.ntmps9
  go_wp2_with fail
  generalize w.alloc (.cells #[.int .u8 4, .int .i64 n, .string t] 23) = W0 at HB HD ⊢
  generalize w.heap.size = X at HD ⊢
  refine (HH.out _).mono ?_
  rintro e W2 ⟨al, c, rfl, hhs, hb2⟩
  have HD2 := Lib.hid (HD.out.step hb2)
  obtain ⟨x0, x1, x2⟩ := HD2.out.cells
  obtain ⟨al', c', hv, hc, hcell⟩ := hhs
  obtain ⟨rfl, rfl⟩ : al = al' ∧ c = c' := by
    simp only [Value.slice.injEq] at hv
    exact ⟨hv.1, hv.2.2⟩
  have HCL := Lib.hid hcell
  clear hv hcell hb2 HH HD
  go_wp2_with fail
  clear x0 x1 x2
  go_loopg [10] (ls.length - 1) (fun gk s10 wr => ∃ i : Nat, s10 = .int .i64 (i : Int) ∧ 1 ≤ i ∧ i + gk = ls.length ∧ Below W2.heap.size W2 wr ∧ Hid (∀ j (hj : j < ls.length), j < i → ¬ (0 < 0 + j ∧ parseE ls[j] = 0 ∧ parseN ls[j] = crangeN)))
  case atStart => exact ⟨1, rfl, Nat.le_refl _, by omega, Below.refl _ _, Lib.hid (fun j hj h hh => by omega)⟩
  case round =>
    obtain ⟨i, rfl, hi1, hgk, hb, HK⟩ := hrel
    have HDr := Lib.hid (HD2.out.step hb)
    obtain ⟨x0, x1, x2⟩ := HDr.out.cells
    cases gk with
    | zero =>
      obtain rfl : i = ls.length := by omega
      clear hb padd
      go_wp2_with fail
      go_ret
      exact ⟨ret_str (HT0.out (place_miss crangeN ls 0 (fun j hj => HK.out j hj hj))), bstep HB.out HDr.out.bel⟩
    | succ gm =>
      have hi : i < ls.length := by omega
      have hii : (i : Int) < (ls.length : Int) := by omega
      obtain ⟨b, o, rfl, hbl, hcl⟩ := HCL.out (by intro e; rw [e] at hi; simp at hi)
      have hci := (hb.cell (p := ⟨b, o + i, none⟩) hbl).trans (hcl i hi)
      have hic : (i : Int) < (c : Int) := by omega
      have HFi := Lib.hid (HF.out ls[i] (HBD.out.1 _ (List.getElem_mem hi)) wr)
      have HBw := Lib.hid hb
      have hwk : IntKind.i64.wrap ((i : Int) + 1) = (i : Int) + 1 := by rw [IntKind.wrap_i64]; have := HBD.out.2; omega
      obtain ⟨E, hEq⟩ : ∃ E, parseE ls[i] = E := ⟨_, rfl⟩
      obtain ⟨NM, hNq⟩ : ∃ NM, parseN ls[i] = NM := ⟨_, rfl⟩
      have HEN := Lib.hid (And.intro hEq hNq)
      rw [hEq, hNq] at HFi
      have hnm : ((bs NM).toList == [99, 111, 110, 116, 101, 110, 116, 45, 114, 97, 110, 103, 101]) = decide (NM = crangeN) := bs_lit _ _
      clear hcl hb hEq hNq
      have next : ¬ (E = 0 ∧ NM = crangeN) → Hid (∀ j (hj : j < ls.length), j < i + 1 → ¬ (0 < 0 + j ∧ parseE ls[j] = 0 ∧ parseN ls[j] = crangeN)) := fun hno => Lib.hid (fun j hj hji hh => by
        rcases Nat.lt_or_ge j i with h1 | h1
        · exact HK.out j hj h1 hh
        · obtain rfl : j = i := by omega
          rw [HEN.out.1, HEN.out.2, Nat.zero_add] at hh
          exact hno hh.2)
      by_cases hp : E = 0 ∧ NM = crangeN
      · obtain ⟨rfl, rfl⟩ := hp
        have HHt := Lib.hid (place_hit crangeN ls 0 i hi HK.out ⟨by omega, HEN.out.1, HEN.out.2⟩)
        rw [decide_eq_true rfl] at hnm
        clear next
        generalize bs crangeN = CN at HFi hnm
        have hcat := HCAT.out
        go_wp2_with fail
        refine HFi.out.mono ?_
        rintro e w1 ⟨rfl, hb1⟩
        have HD1 := Lib.hid (HDr.out.step hb1)
        obtain ⟨y0, y1, y2⟩ := HD1.out.cells
        have hX1 : X ≠ w1.heap.size := Nat.ne_of_lt (Nat.lt_of_lt_of_le HD1.out.lt HD1.out.bel.size)
        have hX3 : ∀ A, (w1.alloc A).cell? ⟨X, 2, none⟩ = some (.string t) := fun A => (World.cell?_alloc_old w1 A ⟨X, 2, none⟩ hX1).trans y2
        clear hb1 hci x0 x1 x2
        go_wp2_with fail
        refine (HC.out _).mono ?_
        rintro e w2 ⟨rfl, rfl⟩
        go_wp2_with fail
        refine (HP.out i (by have := HBD.out.2; omega) _).mono ?_
        rintro e w3 ⟨rfl, hb3⟩
        have HB3 := Lib.hid (bstep HD1.out.bel (bstep ((Below.refl _ _).alloc (Nat.le_refl _) _) hb3))
        clear hb3
        go_wp2_with fail
        go_ret
        exact ⟨ret_str (by rw [HT.out i (by have := HHt.out; rwa [Nat.zero_add] at this)]), bstep HB.out HB3.out⟩
      · have HN := next hp
        clear next padd
        by_cases hE0 : E = 0
        · subst hE0
          have hNM : ¬ NM = crangeN := fun e => hp ⟨rfl, e⟩
          rw [decide_eq_false hNM] at hnm
          clear hp hNM
          go_wp2_with fail
          refine HFi.out.mono ?_
          rintro e w1 ⟨rfl, hb1⟩
          have HB1 := Lib.hid (bstep HBw.out (bstep hb1 ((Below.refl _ _).alloc (Nat.le_refl _) (.cells #[.string (bs NM), .string (bs (parseV ls[i]))] 74))))
          clear hb1 hci x0 x1 x2
          generalize bs NM = NB at *
          go_wp2_with fail
          go_roundg gm
          case measure => omega
          case rel => exact ⟨i + 1, rfl, by omega, by omega, HB1.out, HN⟩
        · have tz : ((E : Int) == 0) = false := by rw [beq_eq_false_iff_ne]; omega
          have tz2 : ¬ ((E : Int) = 0) := by omega
          clear hp
          go_wp2_with fail
          refine HFi.out.mono ?_
          rintro e w1 ⟨rfl, hb1⟩
          have HB1 := Lib.hid (bstep HBw.out (bstep hb1 ((Below.refl _ _).alloc (Nat.le_refl _) (.cells #[.string (bs NM), .string (bs (parseV ls[i]))] 74))))
          clear hb1 hci x0 x1 x2
          go_wp2_with fail
          go_roundg gm
          case measure => omega
          case rel => exact ⟨i + 1, rfl, by omega, by omega, HB1.out, HN⟩
theorem ref_apply (k n : Int) (t s : ByteArray) (w : World) (h0 : -9223372036854775808 ≤ n) (h1 : n ≤ 9223372036854775807) (ht : t.size ≤ 10000) (hs : s.size ≤ 1000000) :
    Calls Tryz.prog 9 #[.agg #[.int .u8 k, .int .i64 n, .string t], .string s] w fun e w' => e = .returned (.string (bs (applyF k n t.data.toList s))) ∧ Below w.heap.size w w' := by
  have same : applyF k n t.data.toList s = s.data.toList → (∀ (R : Ending → World → Prop), (R = fun e w' => e = .returned (.string s) ∧ Below w.heap.size w w') → Calls Tryz.prog 9 #[.agg #[.int .u8 k, .int .i64 n, .string t], .string s] w R) → Calls Tryz.prog 9 #[.agg #[.int .u8 k, .int .i64 n, .string t], .string s] w fun e w' => e = .returned (.string (bs (applyF k n t.data.toList s))) ∧ Below w.heap.size w w' := by
    intro e h
    rw [e, bs_self]
    exact h _ rfl
  have hh : ((headOf s).2.2 ≠ 0 ∨ ((headOf s).2.2 = 0 ∧ (headOf s).1.length = 0)) ∨ ((headOf s).2.2 = 0 ∧ (headOf s).1.length ≠ 0) := by omega
  have good : (headOf s).2.2 = 0 ∧ (headOf s).1.length ≠ 0 → ¬ ((headOf s).2.2 ≠ 0 ∨ (headOf s).1 = []) := by
    rintro ⟨a, b⟩ (c | c)
    · exact c a
    · exact b (by rw [c]; rfl)
  by_cases k1 : k = 1
  · subst k1; exact rapply_shut n t s w
  by_cases k2 : k = 2
  · subst k2; exact rapply_cut n t s w
  rcases hh with hb | hb
  · exact same (apply_bad k n _ s k1 k2 (hb.elim .inl (fun h => .inr h.2))) (fun R hR => by rw [hR]; exact rapply_bad k n t s w hs k1 k2 hb)
  by_cases k3 : k = 3
  · subst k3
    have e : applyF 3 n t.data.toList s = codeF n s := by
      unfold applyF codeF
      rw [if_neg (by omega), if_neg (by omega), if_neg (good hb), if_pos rfl]
    rw [e]
    exact rapply_code n t s w h0 h1 hs hb
  by_cases k4 : k = 4
  · subst k4
    have e : applyF 4 n t.data.toList s = placeT t.data.toList s (headOf s).1 := by
      unfold applyF placeT
      rw [if_neg (by omega), if_neg (by omega), if_neg (good hb), if_neg (by omega), if_neg (by omega), if_pos rfl]
      cases placeF crangeN (headOf s).1 0 <;> rfl
    rw [e]
    exact rapply_place n t s w hs ht hb
  by_cases k5 : k = 5
  · subst k5
    have e : applyF 5 n t.data.toList s = garbleF t.data.toList s (headOf s).1 := by
      unfold applyF garbleF
      rw [if_neg (by omega), if_neg (by omega), if_neg (good hb), if_neg (by omega), if_pos rfl]
    rw [e]
    exact rapply_garble n t s w hs (by omega) hb
  exact same (apply_off k n _ s k1 k2 k3 k4 k5) (fun R hR => by rw [hR]; exact rapply_rest k n t s w hs k1 k2 k3 k4 k5 hb)
end Go.Proofs.YtgnkmfjleecmfaaGreatDoor
namespace Go.Proofs.YtgnkmfjleecmfaaGreatDoor
open Go.RowKit
theorem toldE_ok (a b t : Int) (h : toldE a b t = 0) : rErr a b = 0 ∧ b < t ∧ t ≤ 9007199254740991 := by
  unfold toldE at h
  split at h
  · exact absurd h (by assumption)
  · split at h
    · exact absurd h (by decide)
    · exact ⟨by omega, by omega, by omega⟩
theorem toldL_eq (a b t : Int) (h : toldE a b t = 0) : toldL a b t = tellsL ++ (Go.Lib.decDigits a.toNat ++ 45 :: (Go.Lib.decDigits b.toNat ++ 47 :: Go.Lib.decDigits t.toNat)) := by
  obtain ⟨h1, h2, h3⟩ := toldE_ok a b t h
  obtain ⟨g1, g2, g3⟩ := rErr_ok a b h1
  unfold toldL textR digL
  rw [if_pos h, if_neg (by omega), if_neg (by omega), if_neg (by omega)]
  simp
theorem dec_len (n : Nat) (h : n ≤ 9223372036854775807) : (Go.Lib.decDigits n).length ≤ 20 := by
  have := digL_len (n : Int) (by omega)
  rw [digL_nat] at this
  exact this
theorem toldL_len (a b t : Int) : (toldL a b t).length ≤ 80 := by
  by_cases h : toldE a b t = 0
  · obtain ⟨h1, h2, h3⟩ := toldE_ok a b t h
    obtain ⟨g1, g2, g3⟩ := rErr_ok a b h1
    rw [toldL_eq a b t h]
    have e1 := dec_len a.toNat (by omega)
    have e2 := dec_len b.toNat (by omega)
    have e3 := dec_len t.toNat (by omega)
    have e4 : tellsL.length = 6 := rfl
    simp only [List.length_append, List.length_cons]
    omega
  · unfold toldL; rw [if_neg h]; exact Nat.zero_le _
theorem dec_plain (n : Nat) : ∀ c ∈ Go.Lib.decDigits n, plainB c.toNat = true := by
  intro c hc
  have := digN_bd _ (List.all_eq_true.1 (decDigits_all n) c hc)
  unfold plainB
  simp
  omega
/-- the name of the field that tells a range -/
def crangeK : List UInt8 := [99, 111, 110, 116, 101, 110, 116, 45, 114, 97, 110, 103, 101]
theorem told_gap (a b t : Int) (h : toldE a b t = 0) : printOk crangeK (toldL a b t) = true := by
  unfold printOk
  rw [show nameL crangeK = true by decide, Bool.true_and, Bool.and_eq_true, toldL_eq a b t h]
  refine ⟨?_, ?_⟩
  · refine List.all_eq_true.2 fun c hc => ?_
    rcases List.mem_append.1 hc with hc | hc
    · exact List.all_eq_true.1 (show (tellsL.all fun c => plainB c.toNat) = true by decide) c hc
    rcases List.mem_append.1 hc with hc | hc
    · exact dec_plain _ c hc
    rcases List.mem_cons.1 hc with rfl | hc
    · decide
    rcases List.mem_append.1 hc with hc | hc
    · exact dec_plain _ c hc
    rcases List.mem_cons.1 hc with rfl | hc
    · decide
    · exact dec_plain _ c hc
  · unfold noGap
    have e1 : headGap (tellsL ++ (Go.Lib.decDigits a.toNat ++ 45 :: (Go.Lib.decDigits b.toNat ++ 47 :: Go.Lib.decDigits t.toNat))) = false := by
      unfold tellsL; rfl
    have e2 : tellsL ++ (Go.Lib.decDigits a.toNat ++ 45 :: (Go.Lib.decDigits b.toNat ++ 47 :: Go.Lib.decDigits t.toNat)) = (tellsL ++ (Go.Lib.decDigits a.toNat ++ 45 :: (Go.Lib.decDigits b.toNat ++ [47]))) ++ Go.Lib.decDigits t.toNat := by simp
    rw [e1, e2, dig_last]
    rfl
theorem told_field (a b t : Int) (h : toldE a b t = 0) : fieldE crangeK (toldL a b t) = 0 := by
  unfold fieldE
  rw [if_pos (told_gap a b t h), if_neg]
  have := toldL_len a b t
  have e : (titL true crangeK).length = 13 := by decide
  unfold printL tailV
  split <;> simp only [List.length_append, List.length_cons, List.length_nil, e] <;> omega
/-- what is told is taken -/
theorem tell_told (a b t : Int) (h : toldE a b t = 0) : tellE (toldL a b t) = 0 ∧ tellA (toldL a b t) = a ∧ tellB (toldL a b t) = b ∧ tellC (toldL a b t) = t := by
  obtain ⟨h1, h2, h3⟩ := toldE_ok a b t h
  obtain ⟨g1, g2, g3⟩ := rErr_ok a b h1
  have hd : (toldL a b t).drop 6 = Go.Lib.decDigits a.toNat ++ 45 :: (Go.Lib.decDigits b.toNat ++ 47 :: Go.Lib.decDigits t.toNat) := by rw [toldL_eq a b t h]; rfl
  have hno : ∀ d ∈ Go.Lib.decDigits a.toNat, d ≠ 45 := fun d hd => (dig_no _ d hd).2.1
  have hno2 : ∀ d ∈ Go.Lib.decDigits b.toNat, d ≠ 47 := fun d hd => (dig_no _ d hd).2.2
  have hok : tellOk (toldL a b t) = true := by
    unfold tellOk
    rw [hd, hasB_of _ _ _ hno, behind_of _ _ _ hno, hasB_of _ _ _ hno2, toldL_eq a b t h, Bool.and_true, Bool.and_true]
    exact List.isPrefixOf_iff_prefix.2 (List.prefix_append _ _)
  have hF : tellF (toldL a b t) = a.toNat := by unfold tellF; rw [hd, upTo_of _ _ _ hno, (numE_dec _ (by omega)).2]
  have hT : tellT (toldL a b t) = b.toNat := by unfold tellT; rw [hd, behind_of _ _ _ hno, upTo_of _ _ _ hno2, (numE_dec _ (by omega)).2]
  have hN : tellN (toldL a b t) = t.toNat := by unfold tellN; rw [hd, behind_of _ _ _ hno, behind_of _ _ _ hno2, (numE_dec _ (by omega)).2]
  have he : tellE (toldL a b t) = 0 := by
    unfold tellE
    rw [if_neg (by rw [hok]; decide), hF, hT, hN, hd, upTo_of _ _ _ hno, behind_of _ _ _ hno, upTo_of _ _ _ hno2, behind_of _ _ _ hno2]
    unfold threeE
    rw [(numE_dec _ (by omega)).1, (numE_dec _ (by omega)).1, (numE_dec _ (by omega)).1, if_neg (by decide), Int.toNat_of_nonneg g1, Int.toNat_of_nonneg (by omega), Int.toNat_of_nonneg (by omega)]
    exact h
  refine ⟨he, ?_, ?_, ?_⟩
  · unfold tellA; rw [if_pos he, hF]; exact Int.toNat_of_nonneg g1
  · unfold tellB; rw [if_pos he, hT]; exact Int.toNat_of_nonneg (by omega)
  · unfold tellC; rw [if_pos he, hN]; exact Int.toNat_of_nonneg (by omega)
theorem clip_ok (a b t : Int) (h : clipE a b t = 0) : rErr a b = 0 ∧ a < t ∧ clipA a b t = a ∧ clipB a b t = (if b < t - 1 then b else t - 1) := by
  have hh := h
  unfold clipE at hh
  split at hh
  · exact absurd hh (by assumption)
  · split at hh
    · exact absurd hh (by decide)
    · refine ⟨by omega, by omega, ?_, ?_⟩
      · unfold clipA; rw [if_pos h]
      · unfold clipB; rw [if_pos h]
theorem clip_told (a b t : Int) (h : clipE a b t = 0) (ht : t ≤ 9007199254740991) : toldE (clipA a b t) (clipB a b t) t = 0 := by
  obtain ⟨h1, h2, h3, h4⟩ := clip_ok a b t h
  obtain ⟨g1, g2, g3⟩ := rErr_ok a b h1
  rw [h3, h4]
  have hr : rErr a (if b < t - 1 then b else t - 1) = 0 := by
    unfold rErr
    rw [if_neg]
    split <;> omega
  unfold toldE
  rw [if_neg (by rw [hr]; decide), if_neg (by split <;> omega)]
end Go.Proofs.YtgnkmfjleecmfaaGreatDoor
namespace Go.Proofs.YtgnkmfjleecmfaaGreatDoor
open Go.RowKit
/-- a reply of the program's that lies in a block -/
structure PAt (w : World) (b : Nat) (c : Int) (a : Option Addr) (n cp : Nat) (fs : List (List UInt8 × List UInt8)) (x : ByteArray) : Prop where
  blk : w.heap[b]? = some (.cells #[.int .i64 c, .slice a n cp, .string x] 63 (0, 0))
  own : ∃ B, w.ownsRow B 149 2 (.slice a n cp) n (fcells fs)
theorem PAt.lt {w : World} {b : Nat} {c : Int} {a : Option Addr} {n cp : Nat} {fs : List (List UInt8 × List UInt8)} {x : ByteArray} (h : PAt w b c a n cp fs x) : b < w.heap.size := (Array.getElem?_eq_some_iff.1 h.blk).1
theorem PAt.below {w w' : World} {b : Nat} {c : Int} {a : Option Addr} {n cp : Nat} {fs : List (List UInt8 × List UInt8)} {x : ByteArray} (h : PAt w b c a n cp fs x) (hb : Below w.heap.size w w') : PAt w' b c a n cp fs x :=
  ⟨(hb.block b h.lt).trans h.blk, let ⟨B, hB⟩ := h.own; ⟨B, own_keep hB hb⟩⟩
theorem PAt.alloc {w : World} {b : Nat} {c : Int} {a : Option Addr} {n cp : Nat} {fs : List (List UInt8 × List UInt8)} {x : ByteArray} (h : PAt w b c a n cp fs x) (o : Obj) : PAt (w.alloc o) b c a n cp fs x := h.below ((Below.refl _ _).alloc (Nat.le_refl _) o)
theorem PAt.holds {w : World} {b : Nat} {c : Int} {a : Option Addr} {n cp : Nat} {fs : List (List UInt8 × List UInt8)} {x : ByteArray} (h : PAt w b c a n cp fs x) : HoldsF w (.slice a n cp) fs := let ⟨_, hB⟩ := h.own; HoldsF.of_own hB
theorem PAt.new {w : World} {B : Nat} {c : Int} {a : Option Addr} {n cp : Nat} {fs : List (List UInt8 × List UInt8)} {x : ByteArray} (h : w.ownsRow B 149 2 (.slice a n cp) n (fcells fs)) :
    PAt (w.alloc (.cells #[.int .i64 c, .slice a n cp, .string x] 63)) w.heap.size c a n cp fs x :=
  ⟨heap_alloc_new w _, B, own_keep h ((Below.refl _ _).alloc (Nat.le_refl _) _)⟩
def ParseAt (C n : Int) (F : List (List UInt8 × List UInt8)) (B : ByteArray) (E : Nat) (w : World) (e : Ending) (w' : World) : Prop :=
  ∃ a cp, e = .returned (.tuple #[.agg #[.int .i64 C, .slice a F.length cp, .string B], .int .i64 n, .int .i64 (E : Nat)]) ∧ w'.ownsRow w.heap.size 149 2 (.slice a F.length cp) F.length (fcells F) ∧ Below w.heap.size w w'
theorem parse_is (s : ByteArray) (most : Int) (C n : Int) (F : List (List UInt8 × List UInt8)) (B : ByteArray) (E : Nat) (h : takE s most = E ∧ takC s most = C ∧ takF s most = F ∧ bs (takB s most) = B ∧ takN s most = n) (w : World) (hs : s.size ≤ 1000000) (hE : EnvF w) :
    Calls Tryz.prog 29 #[.string s, .int .i64 most] w (ParseAt C n F B E w) := by
  obtain ⟨rfl, rfl, rfl, rfl, rfl⟩ := h
  refine (reply_parse s most w hs hE).mono ?_
  rintro e w' ⟨fv, rfl, h1, h2⟩
  obtain ⟨a, cp, rfl⟩ := own_fslice h1
  exact ⟨a, cp, rfl, h1, h2⟩
theorem parse_err (s : ByteArray) (most : Int) (E : Nat) (h : takE s most = E) (h0 : E ≠ 0) (w : World) (hs : s.size ≤ 1000000) (hE : EnvF w) :
    Calls Tryz.prog 29 #[.string s, .int .i64 most] w (ParseAt 0 0 [] ⟨#[]⟩ E w) := by
  obtain ⟨h1, h2, h3, h4⟩ := tak_bad s most (by rw [h]; exact h0)
  exact parse_is s most 0 0 [] ⟨#[]⟩ E ⟨h, h1, h2, by rw [h3]; rfl, h4⟩ w hs hE
def PrintAt (S : ByteArray) (E : Nat) (w : World) (e : Ending) (w' : World) : Prop := e = .returned (.tuple #[.string S, .int .i64 (E : Nat)]) ∧ Below w.heap.size w w'
theorem print_is (c : Int) (fv : Value) (fs : List (List UInt8 × List UInt8)) (b : ByteArray) (S : ByteArray) (E : Nat) (h : bs (repS c fs b.data.toList) = S ∧ repE c fs = E) (B : Nat) (w : World) (hE : EnvF w) (hc0 : -9223372036854775808 ≤ c) (hc1 : c ≤ 9223372036854775807)
    (hown : w.ownsRow B 149 2 fv fs.length (fcells fs)) (hl : fs.length ≤ 1000000) (hf : ∀ f ∈ fs, f.1.length ≤ 1000000 ∧ f.2.length ≤ 1000000) (hb : b.size ≤ 1000000) :
    Calls Tryz.prog 50 #[.agg #[.int .i64 c, fv, .string b]] w (PrintAt S E w) := by
  obtain ⟨rfl, rfl⟩ := h
  exact reply_print c fv fs b B w hE hc0 hc1 hown hl hf hb
def aw26 : List UInt8 := [72, 84, 84, 80, 47, 49, 46, 49, 32, 52, 48, 52, 32, 78, 111, 116, 32, 70, 111, 117, 110, 100, 13, 10, 67, 111, 110, 116, 101, 110, 116, 45, 76, 101, 110, 103, 116, 104, 58, 32, 49, 13, 10, 13, 10, 120]
theorem aw_e : repE 404 [] = 0 := by decide +kernel
theorem aw_st : (printOf 404).data.toList = [72, 84, 84, 80, 47, 49, 46, 49, 32, 52, 48, 52, 32, 78, 111, 116, 32, 70, 111, 117, 110, 100] := by
  rw [printOf_line 404 (by decide) (by decide)]
  exact (statusLine_data 404 (by decide) (by decide)).trans (by decide +kernel)
theorem aw_ln : printL clen (digL 1) = [67, 111, 110, 116, 101, 110, 116, 45, 76, 101, 110, 103, 116, 104, 58, 32, 49] := by
  rw [show (1 : Int) = ((1 : Nat) : Int) from rfl, digL_nat, Go.Lib.decDigits_one (by decide)]
  decide +kernel
theorem aw_s : repL 404 [] [120] = aw26 := by
  unfold repL repLines
  rw [aw_st, show (([120] : List UInt8).length : Int) = 1 from rfl, aw_ln]
  decide +kernel
theorem aw_p : bs (repS 404 [] (ByteArray.mk #[120]).data.toList) = bs aw26 ∧ repE 404 [] = 0 := by
  refine ⟨?_, aw_e⟩
  unfold repS
  rw [if_pos aw_e]
  exact congrArg bs aw_s
theorem aw_t : takE (bs aw26 ++ ⟨#[121]⟩) 1 = 0 ∧ takC (bs aw26 ++ ⟨#[121]⟩) 1 = 404 ∧ takF (bs aw26 ++ ⟨#[121]⟩) 1 = [] ∧ bs (takB (bs aw26 ++ ⟨#[121]⟩) 1) = ⟨#[120]⟩ ∧ takN (bs aw26 ++ ⟨#[121]⟩) 1 = 46 := by
  obtain ⟨h1, h2, h3, h4, h5⟩ := rep_take 404 [] [120] [121] (bs aw26 ++ ⟨#[121]⟩) 1 aw_e (by decide) (by rw [aw_s, ByteArray.data_append, Array.toList_append, bs_data]) (by decide)
  refine ⟨h1, h2, h3, by rw [h4]; rfl, ?_⟩
  rw [h5, aw_s]; rfl
theorem aw_l : takE (bs aw26) 0 = 5 := rep_long 404 [] [120] [] (bs aw26) 0 aw_e (by decide) (by rw [aw_s, bs_data, List.append_nil]) (by decide)
theorem aw_h : takE ⟨#[72, 84, 84, 80, 47, 49, 46, 49, 32, 50, 48, 48, 32, 79, 75, 13, 10, 13, 10]⟩ 9 = 6 := by decide +kernel
theorem aw_i : bs (repS 99 [] (ByteArray.mk #[]).data.toList) = ⟨#[]⟩ ∧ repE 99 [] = 8 := ⟨rfl, rfl⟩
theorem aw_same : sameR 404 404 [120] [120] [] [] = true ∧ sameR 404 0 [120] [] [] [] = false := by decide +kernel
theorem aw_sz : (bs aw26).size = 46 := rfl
theorem aw_T (w : World) (hE : EnvF w) : Calls Tryz.prog 29 #[.string (bs aw26 ++ ⟨#[121]⟩), .int .i64 1] w (ParseAt 404 46 [] ⟨#[120]⟩ 0 w) := by
  obtain ⟨h1, h2, h3, h4, h5⟩ := aw_t
  exact parse_is _ _ _ _ _ _ _ ⟨h1, h2, h3, h4, h5⟩ w (by rw [ByteArray.size_append, aw_sz]; decide) hE
theorem nil_own (w : World) : w.ownsRow 0 149 2 (.slice none 0 0) 0 (fcells []) := World.ownsRow_nil _ _ _ _
end Go.Proofs.YtgnkmfjleecmfaaGreatDoor
namespace Go.Proofs.YtgnkmfjleecmfaaGreatDoor
open Go.RowKit
/-- may an origin be? -/
def orgE (h p : List UInt8) : Nat := if pathB p = false ∨ hostB h = false then 2 else 0
theorem orgE_asks (h p : List UInt8) : aErr p h 0 0 = orgE h p := by
  unfold aErr orgE
  split
  · rfl
  · decide
/-- the code of what a server of the file f answers to s -/
def orgC (h p f : List UInt8) (s : ByteArray) : Int :=
  if askE s ≠ 0 ∨ askN s < (s.size : Int) then 400
  else if askPath s ≠ p ∨ askHost s ≠ h then 404
  else if clipE (askA s) (askB s) (f.length : Int) ≠ 0 then 416 else 206
def orgA (f : List UInt8) (s : ByteArray) : Int := clipA (askA s) (askB s) (f.length : Int)
def orgB (f : List UInt8) (s : ByteArray) : Int := clipB (askA s) (askB s) (f.length : Int)
def orgF (h p f : List UInt8) (s : ByteArray) : List (List UInt8 × List UInt8) := if orgC h p f s = 206 then [(crangeK, toldL (orgA f s) (orgB f s) (f.length : Int))] else []
def orgY (h p f : List UInt8) (s : ByteArray) : List UInt8 := if orgC h p f s = 206 then (f.take (orgB f s + 1).toNat).drop (orgA f s).toNat else []
def orgS (h p f : List UInt8) (s : ByteArray) : List UInt8 := if orgE h p = 0 then repS (orgC h p f s) (orgF h p f s) (orgY h p f s) else []
def orgK (h p f : List UInt8) (s : ByteArray) : Int := if orgE h p = 0 then orgC h p f s else 0
theorem orgC_four (h p f : List UInt8) (s : ByteArray) : orgC h p f s = 400 ∨ orgC h p f s = 404 ∨ orgC h p f s = 416 ∨ orgC h p f s = 206 := by
  unfold orgC
  split
  · exact .inl rfl
  · split
    · exact .inr (.inl rfl)
    · split
      · exact .inr (.inr (.inl rfl))
      · exact .inr (.inr (.inr rfl))
theorem orgC_206 (h p f : List UInt8) (s : ByteArray) (hc : orgC h p f s = 206) : askE s = 0 ∧ (s.size : Int) ≤ askN s ∧ askPath s = p ∧ askHost s = h ∧ clipE (askA s) (askB s) (f.length : Int) = 0 := by
  unfold orgC at hc
  split at hc
  · exact absurd hc (by decide)
  · split at hc
    · exact absurd hc (by decide)
    · split at hc
      · exact absurd hc (by decide)
      · rename_i h1 h2 h3
        rw [not_or] at h1 h2
        exact ⟨Decidable.not_not.1 h1.1, by omega, Decidable.not_not.1 h2.1, Decidable.not_not.1 h2.2, Decidable.not_not.1 h3⟩
theorem orgF_other (h p f : List UInt8) (s : ByteArray) (hc : orgC h p f s ≠ 206) : orgF h p f s = [] ∧ orgY h p f s = [] := by
  unfold orgF orgY
  rw [if_neg hc, if_neg hc]
  exact ⟨rfl, rfl⟩
theorem orgF_bd (h p f : List UInt8) (s : ByteArray) : (orgF h p f s).length ≤ 1 ∧ ∀ x ∈ orgF h p f s, x.1.length ≤ 1000000 ∧ x.2.length ≤ 1000000 := by
  unfold orgF
  split
  · refine ⟨Nat.le_refl _, fun x hx => ?_⟩
    obtain rfl := List.mem_singleton.1 hx
    exact ⟨by show crangeK.length ≤ 1000000; decide, Nat.le_trans (toldL_len _ _ _) (by decide)⟩
  · exact ⟨Nat.zero_le _, fun x hx => by cases hx⟩
theorem orgY_len (h p f : List UInt8) (s : ByteArray) : (orgY h p f s).length ≤ f.length := by
  unfold orgY
  split
  · rw [List.length_drop]
    have := List.length_take_le (orgB f s + 1).toNat f
    have := List.length_take_le' (orgB f s + 1).toNat f
    omega
  · exact Nat.zero_le _
theorem err_four (c : Int) (h : c = 400 ∨ c = 404 ∨ c = 416 ∨ c = 206) : printErr c = 0 := by
  rcases h with rfl | rfl | rfl | rfl <;> decide
/-- what is answered may be laid -/
theorem org_good (h p f : List UInt8) (s : ByteArray) (hf : f.length ≤ 1000000) : repE (orgC h p f s) (orgF h p f s) = 0 := by
  unfold repE
  rw [if_neg (by rw [err_four _ (orgC_four h p f s)]; decide)]
  by_cases hc : orgC h p f s = 206
  · obtain ⟨-, -, -, -, h5⟩ := orgC_206 h p f s hc
    have ht := clip_told _ _ _ h5 (by omega)
    have hfe := told_field _ _ _ ht
    unfold orgF
    rw [if_pos hc, if_neg (by simp)]
    show (if crangeK = clen then 22 else if fieldE crangeK (toldL (orgA f s) (orgB f s) (f.length : Int)) ≠ 0 then fieldE crangeK (toldL (orgA f s) (orgB f s) (f.length : Int)) else ownE []) = 0
    unfold orgA orgB
    rw [if_neg (by decide), hfe]
    rfl
  · rw [(orgF_other h p f s hc).1, if_neg (by simp)]
    rfl
theorem orgS_eq (h p f : List UInt8) (s : ByteArray) (hf : f.length ≤ 1000000) (he : orgE h p = 0) : orgS h p f s = repL (orgC h p f s) (orgF h p f s) (orgY h p f s) := by
  unfold orgS repS
  rw [if_pos he, if_pos (org_good h p f s hf)]
end Go.Proofs.YtgnkmfjleecmfaaGreatDoor
namespace Go.Proofs.YtgnkmfjleecmfaaGreatDoor
open Go.RowKit
def s28 : ByteArray := ⟨#[72, 84, 84, 80, 47, 49, 46, 49, 32, 50, 48, 54, 32, 79, 75, 13, 10, 67, 111, 110, 116, 101, 110, 116, 45, 76, 101, 110, 103, 116, 104, 58, 32, 49, 13, 10, 67, 111, 110, 116, 101, 110, 116, 45, 82, 97, 110, 103, 101, 58, 32, 98, 121, 116, 101, 115, 32, 48, 45, 48, 47, 49, 13, 10, 13, 10, 120]⟩
def a28 : List UInt8 := [72, 84, 84, 80, 47, 49, 46, 49, 32, 50, 48, 54, 32, 79, 75, 13, 10, 97, 98, 13, 10, 67, 111, 110, 116, 101, 110, 116, 45, 82, 97, 110, 103, 101, 58, 32, 98, 121, 116, 101, 115, 32, 48, 45, 48, 47, 49, 13, 10, 13, 10, 120]
def b28 : List UInt8 := [72, 84, 84, 80, 47, 49, 46, 49, 32, 50, 48, 54, 32, 79, 75, 13, 10, 67, 111, 110, 116, 101, 110, 116, 45, 76, 101, 110, 103, 116, 104, 58, 32, 49, 13, 10, 67, 111, 110, 116, 101, 110, 116, 45, 82, 97, 110, 103, 101, 58, 32, 121, 13, 10, 13, 10, 120]
def c28 : List UInt8 := [72, 84, 84, 80, 47, 49, 46, 49, 32, 50, 48, 48, 32, 79, 75, 13, 10, 67, 111, 110, 116, 101, 110, 116, 45, 76, 101, 110, 103, 116, 104, 58, 32, 49, 13, 10, 67, 111, 110, 116, 101, 110, 116, 45, 82, 97, 110, 103, 101, 58, 32, 98, 121, 116, 101, 115, 32, 48, 45, 48, 47, 49, 13, 10, 13, 10, 120]
set_option maxRecDepth 100000 in
theorem aw28_a : applyF 5 0 [97, 13, 10, 98] s28 = a28 := by decide +kernel
set_option maxRecDepth 100000 in
theorem aw28_b : applyF 4 0 [121] s28 = b28 := by decide +kernel
set_option maxRecDepth 100000 in
theorem aw28_d : applyF 1 0 [] s28 = [] ∧ applyF 2 4 [] s28 = [72, 84, 84, 80] ∧ harmF 0 0 [] s28 = false ∧ harmF 1 0 [] s28 = true ∧ cleanL [13, 10] = [] := by decide +kernel
theorem st200 : (printOf 200).data.toList = [72, 84, 84, 80, 47, 49, 46, 49, 32, 50, 48, 48, 32, 79, 75] := by
  rw [printOf_line 200 (by decide) (by decide)]
  exact (statusLine_data 200 (by decide) (by decide)).trans (by decide +kernel)
set_option maxRecDepth 100000 in
theorem aw28_c : applyF 3 200 [] s28 = c28 := by
  have h1 : ¬ ((headOf s28).2.2 ≠ 0 ∨ (headOf s28).1 = []) := by decide +kernel
  unfold applyF
  rw [if_neg (by decide), if_neg (by decide), if_neg h1, if_pos rfl, if_neg (by decide), st200]
  decide +kernel
set_option maxRecDepth 100000 in
set_option maxHeartbeats 4000000 in
theorem awake28 (w : World) (hE : EnvW w) : Calls Tryz.prog 8 #[] w fun e w' => e = .returned (.bool true) ∧ Below w.heap.size w w' := by
  have HE := Lib.hid hE
  clear hE
  have H1 := Lib.hid (fun w hE => fault_apply 5 0 ⟨#[97, 13, 10, 98]⟩ s28 w hE (by decide) (by decide) (by decide) (by decide) (by decide))
  have H2 := Lib.hid (fun w hE => fault_apply 4 0 ⟨#[121]⟩ s28 w hE (by decide) (by decide) (by decide) (by decide) (by decide))
  have H3 := Lib.hid (fun w hE => fault_apply 3 200 ⟨#[]⟩ s28 w hE (by decide) (by decide) (by decide) (by decide) (by decide))
  have H4 := Lib.hid (fun w hE => fault_apply 1 0 ⟨#[]⟩ s28 w hE (by decide) (by decide) (by decide) (by decide) (by decide))
  have H5 := Lib.hid (fun w hE => fault_apply 2 4 ⟨#[]⟩ s28 w hE (by decide) (by decide) (by decide) (by decide) (by decide))
  have H6 := Lib.hid (fun w hE => fault_harms 0 0 ⟨#[]⟩ s28 w hE (by decide) (by decide) (by decide) (by decide) (by decide))
  have H7 := Lib.hid (fun w hE => fault_harms 1 0 ⟨#[]⟩ s28 w hE (by decide) (by decide) (by decide) (by decide) (by decide))
  have H8 := Lib.hid (fun w => fault_clean ⟨#[13, 10]⟩ w (by decide))
  rw [show bs (applyF 5 0 (ByteArray.mk #[97, 13, 10, 98]).data.toList s28) = bs a28 from congrArg bs aw28_a] at H1
  rw [show bs (applyF 4 0 (ByteArray.mk #[121]).data.toList s28) = bs b28 from congrArg bs aw28_b] at H2
  rw [show bs (applyF 3 200 (ByteArray.mk #[]).data.toList s28) = bs c28 from congrArg bs aw28_c] at H3
  rw [show bs (applyF 1 0 (ByteArray.mk #[]).data.toList s28) = ⟨#[]⟩ from congrArg bs aw28_d.1] at H4
  rw [show bs (applyF 2 4 (ByteArray.mk #[]).data.toList s28) = ⟨#[72, 84, 84, 80]⟩ from congrArg bs aw28_d.2.1] at H5
  rw [show harmF 0 0 (ByteArray.mk #[]).data.toList s28 = false from aw28_d.2.2.1] at H6
  rw [show harmF 1 0 (ByteArray.mk #[]).data.toList s28 = true from aw28_d.2.2.2.1] at H7
  rw [show bs (cleanL (ByteArray.mk #[13, 10]).data.toList) = ⟨#[]⟩ from congrArg bs aw28_d.2.2.2.2] at H8
  unfold s28 at H1 H2 H3 H4 H5 H6 H7
  have la : ((bs a28).toList == [72, 84, 84, 80, 47, 49, 46, 49, 32, 50, 48, 54, 32, 79, 75, 13, 10, 97, 98, 13, 10, 67, 111, 110, 116, 101, 110, 116, 45, 82, 97, 110, 103, 101, 58, 32, 98, 121, 116, 101, 115, 32, 48, 45, 48, 47, 49, 13, 10, 13, 10, 120]) = true := (bs_lit a28 _).trans (decide_eq_true rfl)
  have lb : ((bs b28).toList == [72, 84, 84, 80, 47, 49, 46, 49, 32, 50, 48, 54, 32, 79, 75, 13, 10, 67, 111, 110, 116, 101, 110, 116, 45, 76, 101, 110, 103, 116, 104, 58, 32, 49, 13, 10, 67, 111, 110, 116, 101, 110, 116, 45, 82, 97, 110, 103, 101, 58, 32, 121, 13, 10, 13, 10, 120]) = true := (bs_lit b28 _).trans (decide_eq_true rfl)
  have lc : ((bs c28).toList == [72, 84, 84, 80, 47, 49, 46, 49, 32, 50, 48, 48, 32, 79, 75, 13, 10, 67, 111, 110, 116, 101, 110, 116, 45, 76, 101, 110, 103, 116, 104, 58, 32, 49, 13, 10, 67, 111, 110, 116, 101, 110, 116, 45, 82, 97, 110, 103, 101, 58, 32, 98, 121, 116, 101, 115, 32, 48, 45, 48, 47, 49, 13, 10, 13, 10, 120]) = true := (bs_lit c28 _).trans (decide_eq_true rfl)
  have lc2 : ((bs c28).toList == ([72, 84, 84, 80, 47, 49, 46, 49, 32, 50, 48, 48, 32, 79, 75, 13, 10, 67, 111, 110, 116, 101, 110, 116, 45, 76, 101, 110, 103, 116, 104, 58, 32].append [49, 13, 10, 67, 111, 110, 116, 101, 110, 116, 45, 82, 97, 110, 103, 101, 58, 32, 98, 121, 116, 101, 115, 32, 48, 45, 48, 47, 49, 13, 10, 13, 10, 120] : List UInt8)) = true := (bs_lit c28 _).trans (decide_eq_true rfl)
  generalize bs a28 = PA at H1 la
  generalize bs b28 = PB at H2 lb
  generalize bs c28 = PC at H3 lc lc2
  go_enter Tryz.func8, Tryz.ntmps8
  go_wp2_with fail
  refine (H1.out _ HE.out).mono ?_
  rintro e w1 ⟨rfl, hb1⟩
  have HB1 := Lib.hid hb1
  have HE1 := Lib.hid (HE.out.below hb1)
  clear hb1
  go_wp2_with fail
  refine (H2.out _ HE1.out).mono ?_
  rintro e w2 ⟨rfl, hb2⟩
  have HB2 := Lib.hid (bstep HB1.out hb2)
  have HE2 := Lib.hid (HE1.out.below hb2)
  clear hb2 HB1 HE1 H2
  go_wp2_with fail
  refine (H3.out _ HE2.out).mono ?_
  rintro e w3 ⟨rfl, hb3⟩
  have HB3 := Lib.hid (bstep HB2.out hb3)
  have HE3 := Lib.hid (HE2.out.below hb3)
  clear hb3 HB2 HE2 H3
  go_wp2_with fail
  refine (H4.out _ HE3.out).mono ?_
  rintro e w4 ⟨rfl, hb4⟩
  have HB4 := Lib.hid (bstep HB3.out hb4)
  have HE4 := Lib.hid (HE3.out.below hb4)
  clear hb4 HB3 HE3 H4
  go_wp2_with fail
  refine (H5.out _ HE4.out).mono ?_
  rintro e w5 ⟨rfl, hb5⟩
  have HB5 := Lib.hid (bstep HB4.out hb5)
  have HE5 := Lib.hid (HE4.out.below hb5)
  clear hb5 HB4 HE4 H5
  go_wp2_with fail
  refine (H6.out _ HE5.out).mono ?_
  rintro e w6 ⟨rfl, hb6⟩
  have HB6 := Lib.hid (bstep HB5.out hb6)
  have HE6 := Lib.hid (HE5.out.below hb6)
  clear hb6 HB5 HE5 H6
  go_wp2_with fail
  refine (H7.out _ HE6.out).mono ?_
  rintro e w7 ⟨rfl, hb7⟩
  have HB7 := Lib.hid (bstep HB6.out hb7)
  have HE7 := Lib.hid (HE6.out.below hb7)
  clear hb7 HB6 HE6 H7
  go_wp2_with fail
  refine (H8.out _).mono ?_
  rintro e w8 ⟨rfl, hb8⟩
  have HB8 := Lib.hid (bstep HB7.out hb8)
  have HE8 := Lib.hid (HE7.out.below hb8)
  clear hb8 HB7 HE7 H8
  go_wp2_with fail
  go_ret
  exact ⟨rfl, HB8.out⟩
end Go.Proofs.YtgnkmfjleecmfaaGreatDoor
namespace Go.Proofs.YtgnkmfjleecmfaaGreatDoor
open Go.RowKit
set_option maxRecDepth 100000 in
set_option maxHeartbeats 2000000 in
theorem over28 (B : Nat) (k n : Int) (t : ByteArray) (w : World) (hb : w.heap[B]? = some (.cells #[.int .u8 k, .int .i64 n, .string t] 23 (0, 0))) :
    Calls Tryz.prog 7 #[.slice (some ⟨B, 0, none⟩) 1 1, .int .i64 1] w fun e w' => e = .returned (.bool (decide ((300 : Int) < (t.size : Int)))) ∧ w' = w := by
  obtain ⟨x0, x1, x2, -, -, -⟩ := three_facts hb
  clear hb
  by_cases h : (300 : Int) < (t.size : Int)
  all_goals
    go_enter Tryz.func7, Tryz.ntmps7
    go_wp2_with fail
    refine wp_loop_rounds 2 ?_
    rw [rounds_succ]
    go_wp2_with fail
    try (rw [rounds_succ]; go_wp2_with fail)
    go_ret
    exact ⟨by simp [h], rfl⟩
set_option maxRecDepth 100000 in
set_option maxHeartbeats 4000000 in
theorem faultTells_walk (k n : Int) (t s : ByteArray) (w : World) (hE : EnvW w) (hk0 : 0 ≤ k) (h0 : -9223372036854775808 ≤ n) (h1 : n ≤ 9223372036854775807) :
    Calls Tryz.prog 3 #[.agg #[.int .u8 k, .int .i64 n, .string t], .string s] w fun e w' => e = .returned (.bool true) ∧ Below w.heap.size w w' := by
  have B1 := below_agg3 w (.int .u8 k) (.int .i64 n) (.string t) 23
  have B2 := bstep B1 (below_agg3 (w.alloc (.cells #[.int .u8 k, .int .i64 n, .string t] 23)) (.int .u8 k) (.int .i64 n) (.string t) 23)
  have HE2 := Lib.hid (hE.below B2)
  have HB2 := Lib.hid B2
  have HOv := Lib.hid (over28 (w.heap.size + 1) k n t ((w.alloc (.cells #[.int .u8 k, .int .i64 n, .string t] 23)).alloc (.cells #[.int .u8 k, .int .i64 n, .string t] 23)) (by
    have := heap_alloc_new (w.alloc (.cells #[.int .u8 k, .int .i64 n, .string t] 23)) (.cells #[.int .u8 k, .int .i64 n, .string t] 23)
    simpa using this))
  have HXB : Hid (((w.alloc (.cells #[.int .u8 k, .int .i64 n, .string t] 23)).alloc (.cells #[.int .u8 k, .int .i64 n, .string t] 23)).heap[w.heap.size]? = some (.cells #[.int .u8 k, .int .i64 n, .string t] 23 (0, 0))) := Lib.hid (((below_agg3 (w.alloc (.cells #[.int .u8 k, .int .i64 n, .string t] 23)) (.int .u8 k) (.int .i64 n) (.string t) 23).block w.heap.size (by simp)).trans (heap_alloc_new w _))
  clear B1 B2 hE
  by_cases ht : (300 : Int) < (t.size : Int)
  · rw [decide_eq_true ht] at HOv
    clear ht HXB
    go_enter Tryz.func3, Tryz.ntmps3
    go_wp2_with fail
    refine HOv.out.mono ?_
    rintro e w1 ⟨rfl, rfl⟩
    go_wp2_with fail
    refine (awake28 _ HE2.out).mono ?_
    rintro e w2 ⟨rfl, hb2⟩
    go_wp2_with fail
    go_ret
    exact ⟨rfl, bstep HB2.out hb2⟩
  rw [decide_eq_false ht] at HOv
  by_cases hl : (800 : Int) < (s.size : Int)
  · clear ht HXB
    go_enter Tryz.func3, Tryz.ntmps3
    go_wp2_with fail
    refine HOv.out.mono ?_
    rintro e w1 ⟨rfl, rfl⟩
    go_wp2_with fail
    refine (awake28 _ HE2.out).mono ?_
    rintro e w2 ⟨rfl, hb2⟩
    go_wp2_with fail
    go_ret
    exact ⟨rfl, bstep HB2.out hb2⟩
  have H1 := Lib.hid (fun W => ref_apply k n t s W h0 h1 (by omega) (by omega))
  have H2 := Lib.hid (fun W hE => fault_apply k n t s W hE hk0 h0 h1 (by omega) (by omega))
  have H3 := Lib.hid (fun W hE => fault_harms k n t s W hE hk0 h0 h1 (by omega) (by omega))
  have H4 := Lib.hid (fun W => fault_clean t W (by omega))
  have H5 := Lib.hid (fun W => ref_clean t W (by omega))
  obtain ⟨P, hP⟩ : ∃ P, bs (applyF k n t.data.toList s) = P := ⟨_, rfl⟩
  have hR : harmF k n t.data.toList s = !(P.toList == s.toList) := by
    rw [← hP, ByteArray.toList_eq, ByteArray.toList_eq, bs_data]
    unfold harmF
    by_cases e : applyF k n t.data.toList s = s.data.toList
    · rw [e]; simp
    · rw [decide_eq_true e, beq_eq_false_iff_ne.2 e]; rfl
  rw [hP] at H1 H2
  rw [hR] at H3
  have hpp : (P.toList == P.toList) = true := by simp
  generalize bs (cleanL t.data.toList) = Q at H4 H5
  have hqq : (Q.toList == Q.toList) = true := by simp
  clear hP hR ht
  by_cases hps : P.toList = s.toList
  all_goals
    first
      | (have hb1 : (P.toList == s.toList) = true := beq_iff_eq.2 hps; rw [hb1] at H3)
      | (have hb1 : (P.toList == s.toList) = false := beq_eq_false_iff_ne.2 hps; rw [hb1] at H3)
    go_enter Tryz.func3, Tryz.ntmps3
    go_wp2_with fail
    refine HOv.out.mono ?_
    rintro e w1 ⟨rfl, rfl⟩
    generalize (w.alloc (.cells #[.int .u8 k, .int .i64 n, .string t] 23)).alloc (.cells #[.int .u8 k, .int .i64 n, .string t] 23) = W0 at HE2 HB2 HXB ⊢
    generalize w.heap.size = X at HXB ⊢
    obtain ⟨x0, x1, x2, -, -, -⟩ := three_facts HXB.out
    go_wp2_with fail
    refine (H1.out _).mono ?_
    rintro e w1 ⟨rfl, hb1'⟩
    have HB3 := Lib.hid (bstep HB2.out hb1')
    have HE3 := Lib.hid (HE2.out.below hb1')
    have HX3 := Lib.hid ((hb1'.block X (Array.getElem?_eq_some_iff.1 HXB.out).1).trans HXB.out)
    clear hb1' x0 x1 x2
    obtain ⟨x0, x1, x2, -, -, -⟩ := three_facts HX3.out
    go_wp2_with fail
    have hB2 := below_agg3 w1 (.int .u8 k) (.int .i64 n) (.string t) 28
    have HB5 := Lib.hid (bstep HB3.out hB2)
    have HE5 := Lib.hid (HE3.out.below hB2)
    have HX5 := Lib.hid ((hB2.block X (Array.getElem?_eq_some_iff.1 HX3.out).1).trans HX3.out)
    have HY5 := Lib.hid (heap_alloc_new w1 (.cells #[.int .u8 k, .int .i64 n, .string t] 28))
    clear hB2 HB3 HE3 HX3 x0 x1 x2 HB2 HE2 HXB
    generalize w1.alloc (.cells #[.int .u8 k, .int .i64 n, .string t] 28) = W5 at HB5 HE5 HX5 HY5 ⊢
    generalize w1.heap.size = Y at HY5 ⊢
    have HS : Hid (∀ W, Below W5.heap.size W5 W → W.cell? ⟨X, 2, none⟩ = some (.string t) ∧ W.cell? ⟨Y, 0, none⟩ = some (.int .u8 k) ∧ W.cell? ⟨Y, 1, none⟩ = some (.int .i64 n) ∧ W.cell? ⟨Y, 2, none⟩ = some (.string t)) := Lib.hid (fun W hW =>
      let ⟨_, _, a, _⟩ := three_facts ((hW.block X (Array.getElem?_eq_some_iff.1 HX5.out).1).trans HX5.out)
      let ⟨b, c, d, _⟩ := three_facts ((hW.block Y (Array.getElem?_eq_some_iff.1 HY5.out).1).trans HY5.out)
      ⟨a, b, c, d⟩)
    have HEE : Hid (∀ W, Below W5.heap.size W5 W → EnvW W) := Lib.hid (fun W hW => HE5.out.below hW)
    have HDr : Hid (Below W5.heap.size W5 W5.drew) := Lib.hid (Below.refl _ _).drew
    clear HE5 HX5 HY5
    go_region_held3 (fun w' => w'.cell? ⟨X, 2, none⟩ = some (.string t) ∧ w'.cell? ⟨Y, 0, none⟩ = some (.int .u8 k) ∧ w'.cell? ⟨Y, 1, none⟩ = some (.int .i64 n) ∧ w'.cell? ⟨Y, 2, none⟩ = some (.string t)) (first | exact HS.out _ HDr.out | exact HS.out _ HA1.out | exact HS.out _ HA2.out | exact HS.out _ HA3.out | exact HS.out _ HA4.out | exact HS.out _ HA5.out)
      (first
        | (go_at_call 10; refine (H2.out _ (HEE.out _ HDr.out)).mono ?_; rintro e wa ⟨rfl, hba⟩; have HA1 : Hid (Below W5.heap.size W5 wa) := Lib.hid (bstep HDr.out hba); clear hba)
        | (go_at_call 11; refine (H3.out _ (HEE.out _ HA1.out)).mono ?_; rintro e wb ⟨rfl, hbb⟩; have HA2 : Hid (Below W5.heap.size W5 wb) := Lib.hid (bstep HA1.out hbb); clear hbb)
        | (go_at_call 12; refine (H4.out _).mono ?_; rintro e wc ⟨rfl, hbc⟩; have HA3 : Hid (Below W5.heap.size W5 wc) := Lib.hid (bstep HA2.out hbc); clear hbc)
        | (go_at_call 13; refine (H5.out _).mono ?_; rintro e wd ⟨rfl, hd⟩; have HA4 : Hid (Below W5.heap.size W5 wd) := Lib.hid (by rw [hd]; exact HA3.out); clear hd)
        | (go_at_call 8; refine (awake28 _ (HEE.out _ HA4.out)).mono ?_; rintro e we ⟨rfl, hbe⟩; have HA5 : Hid (Below W5.heap.size W5 we) := Lib.hid (bstep HA4.out hbe); clear hbe))
    go_wp2_with fail
    go_ret
    exact ⟨rfl, bstep HB5.out HA5.out⟩
end Go.Proofs.YtgnkmfjleecmfaaGreatDoor
namespace Go.Proofs.YtgnkmfjleecmfaaGreatDoor
open Go.RowKit

def renU : Go.Shelf.Ren := ⟨fun n => n, fun | 5 => 5 | 119 => 220 | 138 => 259 | 139 => 260 | n => n, fun | 3 => 1 | 4 => 2 | n => n⟩
theorem u8t : U8Types Tryz.prog renU := ⟨Tryz.underlying5, Tryz.underlying220, Tryz.underlying259, Tryz.underlying260⟩
theorem u8x : U8Extra Tryz.prog renU := ⟨by kernel_rfl, by kernel_rfl, by kernel_rfl, by kernel_rfl, by kernel_rfl, by kernel_rfl, by kernel_rfl⟩
theorem accept_data : (Rows.laid_unicode_utf8_acceptRanges : DataW Unit) = Go.Lib.acceptData := by kernel_rfl
theorem pow10_data : (Rows.laid_internal_strconv_uint64pow10 : DataW Unit) = Go.Lib.tabData .u64 Go.Lib.pow10Tab := rfl
theorem maxLen_cell {W : World} (h : W.ShapedOpen Tryz.prog) : ∃ m, W.cell? ⟨0, 0, none⟩ = some (.int .i64 m) := Tryz.laysM145.s1_3 W h
theorem lt_of_cell {W : World} {g : Nat} {v : Value} (h : W.cell? ⟨g, 0, none⟩ = some v) : g < W.heap.size := World.block_lt_of_cell? _ _ h
theorem err_star : "*" ++ "errors.errorString" = "*errors.errorString" := by decide
theorem err_row (u : TypeId) (h : Tryz.prog.typeName? 3 u = some "*errors.errorString") : u = 302 :=
  typeName_ptr_named (nm := "errors.errorString") (by rw [err_star]; kernel_rfl) (by kernel_rfl) (by decide) u (by rw [err_star]; exact h)
theorem env_of {W : World} {rest : List (String × DataW Unit)} (h : laidMet Tryz.prog (("math/bits.deBruijn32tab", Rows.laid_math_bits_deBruijn32tab) :: ("math/bits.deBruijn64tab", Rows.laid_math_bits_deBruijn64tab) :: ("internal/strconv.uint64pow10", Rows.laid_internal_strconv_uint64pow10) :: ("unicode/utf8.acceptRanges", Rows.laid_unicode_utf8_acceptRanges) :: ("strconv.ErrRange", Rows.laid_strconv_ErrRange) :: rest) W)
    (hf : ("unicode/utf8.first", Rows.laid_unicode_utf8_first) ∈ rest) (hsh : W.ShapedOpen Tryz.prog) : EnvF W := by
  have ht : Go.Lib.TabIs Tryz.prog W "internal/strconv.uint64pow10" .u64 Go.Lib.pow10Tab :=
    Go.Lib.tabIs_of_head (n := 20) (t := 299) (e := 282) g_pow10 (by kernel_rfl) (by kernel_rfl) (by kernel_rfl) (by kernel_rfl) (by kernel_rfl) h.tail.tail
  have h3 : Go.Lib.VarReads Tryz.prog W "unicode/utf8.first" Go.Lib.firstData := by
    have := Go.Lib.laidMet.reads h (n := "unicode/utf8.first") (d := Rows.laid_unicode_utf8_first) (by simp [hf])
    rwa [show (Rows.laid_unicode_utf8_first : DataW Unit) = Go.Lib.firstData from Pinned.utf8First_eq] at this
  have h4 : Go.Lib.VarReads Tryz.prog W "unicode/utf8.acceptRanges" Go.Lib.acceptData := by
    have := Go.Lib.laidMet.reads h (n := "unicode/utf8.acceptRanges") (d := Rows.laid_unicode_utf8_acceptRanges) (by simp)
    rwa [accept_data] at this
  obtain ⟨a0, s0, hv0, _, _, _⟩ := laid_sentinel h.tail.tail.tail.tail (g := 4) (ti := 112) (tp := 302) (te := 304) (ts := 9) (by kernel_rfl) (by kernel_rfl) Tryz.underlying112 err_row Tryz.underlying302 Tryz.underlying304 rfl rfl Tryz.underlying9 (by kernel_rfl) (by kernel_rfl)
  obtain ⟨m, hm⟩ := maxLen_cell hsh
  have hr : W.cell? ⟨4, 0, none⟩ = some (.iface 302 (.pointer (some a0))) := World.var?_cell (show Tryz.prog.globalNamed "strconv.ErrRange" = some 4 by kernel_rfl) hv0 0
  refine ⟨⟨m, hm⟩, lt_of_cell hm, utf8Tabs_of_readsT u8t u8x h3 h4, ht, ?_, ⟨_, _, hr⟩, lt_of_cell hr⟩
  rcases Nat.lt_or_ge 5 W.heap.size with hlt | hge
  · exact hlt
  · unfold Go.Lib.TabIs World.var? at ht
    rw [g_pow10] at ht
    simp [Array.getElem?_eq_none hge] at ht
end Go.Proofs.YtgnkmfjleecmfaaGreatDoor
namespace Go.Proofs.YtgnkmfjleecmfaaGreatDoor
open Go.RowKit

def FieldArg (W : World) (v : Value) (fs : List (List UInt8 × List UInt8)) : Prop := HoldsF W v fs ∧ (∀ f ∈ fs, f.1.length ≤ maxLen ∧ f.2.length ≤ maxLen) ∧ fs.length ≤ maxLen
theorem len_two {α : Type} {l : List α} (h : l.length = 2) : ∃ a b, l = [a, b] := by
  cases l with
  | nil => simp at h
  | cons a t => cases t with
    | nil => simp at h
    | cons b u => cases u with
      | nil => exact ⟨a, b, rfl⟩
      | cons c v => simp at h
theorem string_cell {H : Type} {enc : TypeId × Value → H} {W : World} {n : Nat} {cs : List Value} {x : DataW H × List MemPlace} (h : DataW.trod enc Tryz.prog W 0 (fun _ => true) true n 9 cs = some x) : ∃ l : List UInt8, cs = [.string (bs l)] ∧ l.length ≤ maxLen := by
  obtain ⟨s, hs, _, hm⟩ := DataW.trod_string Tryz.underlying9 h
  exact ⟨s.data.toList, by rw [hs, bs_self], by rw [size_len]; exact hm⟩
set_option maxRecDepth 10000 in
theorem fieldArg_of {H : Type} {enc : TypeId × Value → H} {W : World} {b : Option Addr} {n c : Nat} {d : DataW H} {p : List MemPlace}
    (h : DataW.Trod enc Tryz.prog W 0 (fun _ => true) true 33 (.slice b n c) d p) : ∃ fs, FieldArg W (.slice b n c) fs := by
  obtain ⟨fuel, hf⟩ := h
  rcases Go.Deep.open_slice Tryz.underlying33 hf with ⟨hcs, _⟩ | ⟨a, len, cap, m, q, D, Pl, hcs, _, hl, hm, hmm, _, hi⟩
  · simp [Value.cells] at hcs
    obtain ⟨rfl, rfl, rfl⟩ := hcs
    exact ⟨[], HoldsF.nil W none 0, fun f hf => by simp at hf, by unfold maxLen; simp⟩
  · simp [Value.cells] at hcs
    obtain ⟨rfl, rfl, rfl⟩ := hcs
    have hC : Tryz.prog.cellsOf 74 = 2 := by kernel_rfl
    have hS : Tryz.prog.cellsOf 9 = 1 := by kernel_rfl
    have key : ∀ i, ∃ f : List UInt8 × List UInt8, i < n → W.cell? (a.add (i * 2)) = some (.string (bs f.1)) ∧ W.cell? (a.add (i * 2 + 1)) = some (.string (bs f.2)) ∧ f.1.length ≤ maxLen ∧ f.2.length ≤ maxLen := by
      intro i
      by_cases hin : i < n
      · obtain ⟨cs', hc', ht⟩ := hi i (by rw [hmm]; simp; omega)
        rw [hC] at hc'
        obtain ⟨_, hcl, hcell⟩ := World.cells?_some hc'
        obtain ⟨xs, k, _, _, hcl2, hxl, hg⟩ := DataW.trod_struct Tryz.underlying74 ht
        obtain ⟨u0, u1, rfl⟩ := len_two hcl
        have hxl2 : xs.length = 2 := hxl
        obtain ⟨z0, z1, rfl⟩ := len_two hxl2
        have g0 : DataW.trod enc Tryz.prog W 0 (fun _ => true) true k 9 (([u0, u1].drop 0).take (Tryz.prog.cellsOf 9)) = some z0 := hg 0 _ rfl
        have g1 : DataW.trod enc Tryz.prog W 0 (fun _ => true) true k 9 (([u0, u1].drop 1).take (Tryz.prog.cellsOf 9)) = some z1 := hg 1 _ rfl
        rw [hS] at g0 g1
        obtain ⟨l0, e0, b0⟩ := string_cell g0
        obtain ⟨l1, e1, b1⟩ := string_cell g1
        have c0 := hcell 0 (by omega)
        have c1 := hcell 1 (by omega)
        rw [Go.Deep.add_add] at c0 c1
        simp at e0 e1 c0 c1
        subst e0 e1
        exact ⟨(l0, l1), fun _ => ⟨c0, c1, b0, b1⟩⟩
      · exact ⟨([], []), fun h => absurd h hin⟩
    obtain ⟨g, hg⟩ := Classical.skolem.1 key
    have hlen : ((List.range n).map g).length = n := by simp
    refine ⟨(List.range n).map g, ⟨some a, c, by rw [hlen], by rw [hlen]; exact hl, fun hne => ?_⟩, ?_, by rw [hlen]; omega⟩
    · have hpos : 0 < n := by
        rcases Nat.eq_zero_or_pos n with h0 | h0
        · subst h0; simp at hne
        · exact h0
      have h0 := (hg 0 hpos).1
      obtain ⟨b, o, sp⟩ := a
      have hsp : sp = none := by simpa [Addr.add] using World.cell?_spot h0
      subst hsp
      have ea : ∀ k, (⟨b, o, none⟩ : Addr).add k = ⟨b, o + k, none⟩ := fun k => by unfold Addr.add; split <;> simp_all
      refine ⟨b, o, rfl, by have := World.block_lt_of_cell? _ _ h0; simpa [Addr.add] using this, fun j hj => ?_⟩
      rw [hlen] at hj
      have hj2 := hg j hj
      rw [ea, ea] at hj2
      rw [List.getElem_map, List.getElem_range]
      exact ⟨hj2.1, hj2.2.1⟩
    · intro f hf
      obtain ⟨i, hi', rfl⟩ := List.mem_map.1 hf
      exact (hg i (List.mem_range.1 hi')).2.2
end Go.Proofs.YtgnkmfjleecmfaaGreatDoor
namespace Go.Proofs.YtgnkmfjleecmfaaGreatDoor
open Go.RowKit
theorem bounds_u8 {k : Int} (h : (Lit.int .u8 k).wf = true) : 0 ≤ k ∧ k ≤ 255 := by
  have : IntKind.u8.min ≤ k ∧ k ≤ IntKind.u8.max := by simpa [Lit.wf] using h
  exact this
theorem env_ofW {W : World} {rest : List (String × DataW Unit)} (h : laidMet Tryz.prog (("math/bits.deBruijn32tab", Rows.laid_math_bits_deBruijn32tab) :: ("math/bits.deBruijn64tab", Rows.laid_math_bits_deBruijn64tab) :: ("internal/strconv.uint64pow10", Rows.laid_internal_strconv_uint64pow10) :: ("unicode/utf8.acceptRanges", Rows.laid_unicode_utf8_acceptRanges) :: rest) W)
    (hf : ("unicode/utf8.first", Rows.laid_unicode_utf8_first) ∈ rest) (hsh : W.ShapedOpen Tryz.prog) : EnvW W := by
  have ht : Go.Lib.TabIs Tryz.prog W "internal/strconv.uint64pow10" .u64 Go.Lib.pow10Tab :=
    Go.Lib.tabIs_of_head (n := 20) (t := 299) (e := 282) g_pow10 (by kernel_rfl) (by kernel_rfl) (by kernel_rfl) (by kernel_rfl) (by kernel_rfl) h.tail.tail
  have h3 : Go.Lib.VarReads Tryz.prog W "unicode/utf8.first" Go.Lib.firstData := by
    have := Go.Lib.laidMet.reads h (n := "unicode/utf8.first") (d := Rows.laid_unicode_utf8_first) (by simp [hf])
    rwa [show (Rows.laid_unicode_utf8_first : DataW Unit) = Go.Lib.firstData from Pinned.utf8First_eq] at this
  have h4 : Go.Lib.VarReads Tryz.prog W "unicode/utf8.acceptRanges" Go.Lib.acceptData := by
    have := Go.Lib.laidMet.reads h (n := "unicode/utf8.acceptRanges") (d := Rows.laid_unicode_utf8_acceptRanges) (by simp)
    rwa [accept_data] at this
  obtain ⟨m, hm⟩ := maxLen_cell hsh
  refine ⟨⟨m, hm⟩, lt_of_cell hm, utf8Tabs_of_readsT u8t u8x h3 h4, ht, ?_⟩
  rcases Nat.lt_or_ge 5 W.heap.size with hlt | hge
  · exact hlt
  · unfold Go.Lib.TabIs World.var? at ht
    rw [g_pow10] at ht
    simp [Array.getElem?_eq_none hge] at ht
theorem faultTells_go (k n : Int) (t s : ByteArray) (wk : (Lit.int .u8 k).wf = true) (wn : (Lit.int .i64 n).wf = true) (_ : t.size ≤ maxLen) (_ : s.size ≤ maxLen) (W : World) (hL : laidMetH Tryz.prog Rows.faultTellsRow.laid W) (hsh : W.ShapedOpen Tryz.prog) :
    Calls Tryz.prog 3 #[.agg #[.int .u8 k, .int .i64 n, .string t], .string s] W fun e W' => e = .returned (.bool true) ∧ Below W.heap.size W W' := by
  rw [MakeChecks.laidMetH_plain _ _ _ (by kernel_rfl)] at hL
  obtain ⟨b1, b2⟩ := bounds_u8 wk
  obtain ⟨b3, b4⟩ := bounds_i64 wn
  exact faultTells_walk k n t s W (env_ofW hL (by simp) hsh) (by omega) (by omega) (by omega)
end Go.Proofs.YtgnkmfjleecmfaaGreatDoor
