/- What Check of package asking, and of its reference, and the law's Own return. What Print of package asking returns. What first of package asking returns. What named of package asking returns. What whom and what of package asking return. What Parse of package asking returns. What Parse of the reference of asking returns. The small example of the laws of layer 25. -/
import Derived.Test.YtbdmmgmcbecolaaGreatDoorPr4
import Derived.Deep.RegionWith
import Derived.Deep.RegionHeld3
import Derived.Deep.AppendLies
import Derived.Deep.RegionLaw
import Derived.LoopN
import Derived.Laws.EntriesVeiled
import Derived.Laws.StructEq
set_option linter.unusedVariables false
set_option linter.unusedSimpArgs false
namespace Go.Proofs.YtbdmmgmcbecolaaGreatDoor
open Go.RowKit

/-- may a request be? -/
def aErr (p h : List UInt8) (a b : Int) : Nat := if pathB p = false ∨ hostB h = false then 2 else rErr a b
theorem box4 (w : World) (x y z u : Value) (t : TypeId) : (w.alloc (.cells #[x, y, z, u] t)).cell? ⟨w.heap.size, 0, none⟩ = some x ∧ (w.alloc (.cells #[x, y, z, u] t)).cell? ⟨w.heap.size, 1, none⟩ = some y ∧ (w.alloc (.cells #[x, y, z, u] t)).cell? ⟨w.heap.size, 2, none⟩ = some z ∧ (w.alloc (.cells #[x, y, z, u] t)).cell? ⟨w.heap.size, 3, none⟩ = some u := by
  have hh := heap_alloc_new w (.cells #[x, y, z, u] t)
  refine ⟨?_, ?_, ?_, ?_⟩ <;> (unfold World.cell?; rw [hh]; rfl)
theorem below_agg4 (w : World) (x y z u : Value) (t : TypeId) : Below w.heap.size w (w.alloc (.cells #[x, y, z, u] t)) := (Below.refl _ _).alloc (Nat.le_refl _) _
theorem box_four {w w1 : World} {x y z u : Value} {t : TypeId} (hb : Below (w.alloc (.cells #[x, y, z, u] t)).heap.size (w.alloc (.cells #[x, y, z, u] t)) w1) : w1.cell? ⟨w.heap.size, 0, none⟩ = some x ∧ w1.cell? ⟨w.heap.size, 1, none⟩ = some y ∧ w1.cell? ⟨w.heap.size, 2, none⟩ = some z ∧ w1.cell? ⟨w.heap.size, 3, none⟩ = some u := by
  obtain ⟨a, b, c, d⟩ := box4 w x y z u t
  exact ⟨(hb.cell (p := ⟨w.heap.size, 0, none⟩) (by simp)).trans a, (hb.cell (p := ⟨w.heap.size, 1, none⟩) (by simp)).trans b, (hb.cell (p := ⟨w.heap.size, 2, none⟩) (by simp)).trans c, (hb.cell (p := ⟨w.heap.size, 3, none⟩) (by simp)).trans d⟩
set_option maxRecDepth 100000 in
set_option maxHeartbeats 1000000 in
theorem asking_check (p h : ByteArray) (a b : Int) (w : World) :
    Calls Tryz.prog 45 #[.agg #[.string p, .string h, .int .i64 a, .int .i64 b]] w fun e w' => e = .returned (.int .i64 (aErr p.data.toList h.data.toList a b : Nat)) ∧ Below w.heap.size w w' := by
  have HP := Lib.hid (fun w => asking_path p w)
  have HH := Lib.hid (fun w => asking_host h w)
  have HC := Lib.hid (fun w => ranges_check a b w)
  cases hp : pathB p.data.toList with
  | false =>
    have HR : Hid (aErr p.data.toList h.data.toList a b = 2) := Lib.hid (if_pos (.inl hp))
    rw [hp] at HP
    clear hp
    go_enter Tryz.func45, Tryz.ntmps45
    go_wp2_with fail
    refine (HP.out _).mono ?_
    rintro e w1 ⟨rfl, hb1⟩
    go_wp2_with fail
    go_ret
    exact ⟨by rw [HR.out]; rfl, bstep (below_agg4 w _ _ _ _ _) hb1⟩
  | true =>
    rw [hp] at HP
    cases hh : hostB h.data.toList with
    | false =>
      have HR : Hid (aErr p.data.toList h.data.toList a b = 2) := Lib.hid (if_pos (.inr hh))
      rw [hh] at HH
      clear hp hh
      go_enter Tryz.func45, Tryz.ntmps45
      go_wp2_with fail
      refine (HP.out _).mono ?_
      rintro e w1 ⟨rfl, hb1⟩
      obtain ⟨c0, c1, c2, c3⟩ := box_four hb1
      have HB1 := Lib.hid (bstep (below_agg4 w _ _ _ _ _) hb1)
      clear hb1
      go_wp2_with fail
      refine (HH.out _).mono ?_
      rintro e w2 ⟨rfl, hb2⟩
      go_wp2_with fail
      go_ret
      exact ⟨by rw [HR.out]; rfl, bstep HB1.out hb2⟩
    | true =>
      have HR : Hid (aErr p.data.toList h.data.toList a b = rErr a b) := Lib.hid (if_neg (fun e => e.elim (fun e => by rw [hp] at e; exact absurd e (by decide)) (fun e => by rw [hh] at e; exact absurd e (by decide))))
      rw [hh] at HH
      clear hp hh
      go_enter Tryz.func45, Tryz.ntmps45
      go_wp2_with fail
      refine (HP.out _).mono ?_
      rintro e w1 ⟨rfl, hb1⟩
      obtain ⟨c0, c1, c2, c3⟩ := box_four hb1
      have HB1 := Lib.hid hb1
      clear hb1
      go_wp2_with fail
      refine (HH.out _).mono ?_
      rintro e w2 ⟨rfl, hb2⟩
      have HB2 := Lib.hid (bstep HB1.out hb2)
      obtain ⟨c0, c1, c2, c3⟩ := box_four HB2.out
      clear hb2
      go_wp2_with fail
      refine (HC.out _).mono ?_
      rintro e w3 ⟨rfl, hb3⟩
      go_wp2_with fail
      go_ret
      exact ⟨by rw [HR.out]; rfl, bstep (below_agg4 w _ _ _ _ _) (bstep HB2.out hb3)⟩
theorem load_req (w : World) (b : Nat) (t : TypeId) (x y z u : Value) (h : w.heap[b]? = some (.cells #[x, y, z, u] t (0, 0))) : (loadVar 91 ⟨b, 0, none⟩).run Tryz.prog w = .ok (.agg #[x, y, z, u]) w :=
  run_loadVar_row w b t 91 #[x, y, z, u] (0, 0) _ h Tryz.underlying91 rfl (by kernel_rfl)
theorem four_set {w : World} {b : Nat} {x y z u : Value} {t : TypeId} (h : w.heap[b]? = some (.cells #[x, y, z, u] t (0, 0))) (x' y' z' u' : Value) :
    ((((w.setCell ⟨b, 0, none⟩ x').setCell ⟨b, 1, none⟩ y').setCell ⟨b, 2, none⟩ z').setCell ⟨b, 3, none⟩ u').heap[b]? = some (.cells #[x', y', z', u'] t (0, 0)) := by
  simp [World.setCell, Array.getElem?_modify, h]
theorem four_below {B : Nat} {w0 w : World} (h : Below B w0 w) (b : Nat) (hB : B ≤ b) (x' y' z' u' : Value) : Below B w0 ((((w.setCell ⟨b, 0, none⟩ x').setCell ⟨b, 1, none⟩ y').setCell ⟨b, 2, none⟩ z').setCell ⟨b, 3, none⟩ u') :=
  (((h.setCell (p := ⟨b, 0, none⟩) hB _).setCell (p := ⟨b, 1, none⟩) hB _).setCell (p := ⟨b, 2, none⟩) hB _).setCell (p := ⟨b, 3, none⟩) hB _
end Go.Proofs.YtbdmmgmcbecolaaGreatDoor
namespace Go.Proofs.YtbdmmgmcbecolaaGreatDoor
open Go.RowKit

/-- a request's lines -/
def line1 (p : List UInt8) : List UInt8 := [71, 69, 84, 32] ++ p ++ [32, 72, 84, 84, 80, 47, 49, 46, 49]
def line2 (h : List UInt8) : List UInt8 := [72, 111, 115, 116, 58, 32] ++ h
def line3 (a b : Int) : List UInt8 := [82, 97, 110, 103, 101, 58, 32] ++ askL a b
def reqL (p h : List UInt8) (a b : Int) : List UInt8 := body [line1 p, line2 h, line3 a b] ++ [13, 10]
def lines4 (p h : List UInt8) (a b : Int) : List (List UInt8) := [line1 p, line2 h, line3 a b, []]
def aPrint (p h : List UInt8) (a b : Int) : List UInt8 := if aErr p h a b = 0 then reqL p h a b else []
theorem aErr_zero (p h : List UInt8) (a b : Int) (he : aErr p h a b = 0) : pathB p = true ∧ hostB h = true ∧ rErr a b = 0 := by
  unfold aErr at he
  split at he
  · exact absurd he (by decide)
  · rename_i hn
    refine ⟨?_, ?_, he⟩
    · cases e : pathB p with
      | false => exact absurd (.inl e) hn
      | true => rfl
    · cases e : hostB h with
      | false => exact absurd (.inr e) hn
      | true => rfl
theorem pathB_and (p : List UInt8) (h : pathB p = true) : p.length ≤ 64 ∧ (∀ c ∈ p, pathN c.toNat = true) ∧ p ≠ [] := by
  unfold pathB at h
  simp only [Bool.and_eq_true, decide_eq_true_eq, List.all_eq_true] at h
  refine ⟨h.1.2, h.2, ?_⟩
  intro e; rw [e] at h; exact absurd h.1.1 (by decide)
theorem hostB_and (p : List UInt8) (h : hostB p = true) : p.length ≤ 32 ∧ (∀ c ∈ p, hostN c.toNat = true) ∧ p ≠ [] := by
  unfold hostB at h
  simp only [Bool.and_eq_true, decide_eq_true_eq, List.all_eq_true, Bool.not_eq_true', List.isEmpty_eq_false_iff] at h
  exact ⟨h.1.2, h.2, h.1.1⟩
theorem pathN_plain (x : Nat) (h : pathN x = true) : plainB x = true ∧ x ≠ 32 := by
  unfold pathN at h
  simp only [Bool.and_eq_true, decide_eq_true_eq] at h
  exact ⟨plainB_of x (by omega) (by omega), by omega⟩
theorem hostN_plain (x : Nat) (h : hostN x = true) : plainB x = true ∧ x ≠ 32 := by
  unfold hostN letN digN at h
  simp only [Bool.or_eq_true, Bool.and_eq_true, decide_eq_true_eq, beq_iff_eq] at h
  exact ⟨plainB_of x (by omega) (by omega), by omega⟩
theorem put_of (l : List UInt8) (h : plainL l) (hl : l.length ≤ 256) : putErr l = 0 := by
  unfold putErr
  rw [if_neg (by rw [List.all_eq_true.2 h]; decide), if_neg (by omega)]
theorem digL_plain (n : Int) : plainL (digL n) := by
  intro c hc
  unfold digL at hc
  split at hc
  · simp at hc
  · have := List.all_eq_true.1 (decDigits_all n.toNat) c hc
    unfold digN at this
    simp only [Bool.and_eq_true, decide_eq_true_eq] at this
    exact plainB_of _ (by omega) (by omega)
theorem line1_put (p : List UInt8) (h : pathB p = true) : putErr (line1 p) = 0 := by
  obtain ⟨h1, h2, -⟩ := pathB_and p h
  refine put_of _ ?_ (by unfold line1; simp; omega)
  intro c hc
  unfold line1 at hc
  rw [List.mem_append, List.mem_append] at hc
  rcases hc with (hc | hc) | hc
  · exact (show ∀ d ∈ ([71, 69, 84, 32] : List UInt8), plainB d.toNat = true by decide) c hc
  · exact (pathN_plain _ (h2 c hc)).1
  · exact (show ∀ d ∈ ([32, 72, 84, 84, 80, 47, 49, 46, 49] : List UInt8), plainB d.toNat = true by decide) c hc
theorem line2_put (p : List UInt8) (h : hostB p = true) : putErr (line2 p) = 0 := by
  obtain ⟨h1, h2, -⟩ := hostB_and p h
  refine put_of _ ?_ (by unfold line2; simp; omega)
  intro c hc
  unfold line2 at hc
  rw [List.mem_append] at hc
  rcases hc with hc | hc
  · exact (show ∀ d ∈ ([72, 111, 115, 116, 58, 32] : List UInt8), plainB d.toNat = true by decide) c hc
  · exact (hostN_plain _ (h2 c hc)).1
theorem askL_len (a b : Int) (ha : a ≤ 9223372036854775807) (hb : b ≤ 9223372036854775807) : (askL a b).length ≤ 47 := by
  unfold askL
  split
  · rw [List.length_append]; have := textR_len a b ha hb; have e : asksL.length = 6 := rfl; omega
  · exact Nat.zero_le _
theorem askL_plain (a b : Int) : plainL (askL a b) := by
  unfold askL
  split
  · intro c hc
    unfold textR at hc
    rw [List.mem_append, List.mem_append, List.mem_cons] at hc
    rcases hc with hc | hc | hc | hc
    · exact (show ∀ d ∈ asksL, plainB d.toNat = true by decide) c hc
    · exact digL_plain a c hc
    · subst hc; decide
    · exact digL_plain b c hc
  · intro c hc; simp at hc
theorem line3_put (a b : Int) (ha : a ≤ 9223372036854775807) (hb : b ≤ 9223372036854775807) : putErr (line3 a b) = 0 := by
  refine put_of _ ?_ (by unfold line3; have := askL_len a b ha hb; simp; omega)
  intro c hc
  unfold line3 at hc
  rw [List.mem_append] at hc
  rcases hc with hc | hc
  · exact (show ∀ d ∈ ([82, 97, 110, 103, 101, 58, 32] : List UInt8), plainB d.toNat = true by decide) c hc
  · exact askL_plain a b c hc
/-- what laying a line that may be laid returns -/
theorem put_good (s : ByteArray) (w : World) (hs : s.size ≤ 256) (h : putErr s.data.toList = 0) :
    Calls Tryz.prog 61 #[.string s] w fun e w' => e = .returned (.tuple #[.string (s ++ ⟨#[13, 10]⟩), .int .i64 0]) ∧ w' = w := by
  have := lines_put s w (by omega)
  unfold putLine at this
  rw [if_pos h, h] at this
  exact this
theorem c_join3 (B : Nat) (x y z : ByteArray) (W : World) (hx : x.size ≤ 1000000) (hy : y.size ≤ 1000000) (hz : z.size ≤ 1000000) (h0 : W.cell? ⟨B, 0, none⟩ = some (.string x)) (h1 : W.cell? ⟨B, 1, none⟩ = some (.string y)) (h2 : W.cell? ⟨B, 2, none⟩ = some (.string z)) (hB : B < W.heap.size) :
    Calls Tryz.prog 60 #[.slice (some ⟨B, 0, none⟩) 3 3, .string ⟨#[32]⟩] W fun e w' => e = .returned (.string (bs (x.data.toList ++ 32 :: (y.data.toList ++ 32 :: z.data.toList)))) ∧ Below W.heap.size W w' := by
  have hj : Lib.join ([x, y, z].map (·.data.toList)) (ByteArray.mk #[32]).data.toList = x.data.toList ++ 32 :: (y.data.toList ++ 32 :: z.data.toList) := by
    simp [Lib.join]
  have := Tryz.strings_Join B 0 3 [x, y, z] ⟨#[32]⟩ W (fun j u hj => by
    match j, hj with
    | 0, hj => simp at hj; subst hj; exact h0
    | 1, hj => simp at hj; subst hj; exact h1
    | 2, hj => simp at hj; subst hj; exact h2) hB (by simp) (by simp) (by
      rw [hj]; simp only [List.length_append, List.length_cons, size_len]; omega)
  rw [hj] at this
  exact this
theorem c_join3n (x y z : ByteArray) (W : World) (hx : x.size ≤ 1000000) (hy : y.size ≤ 1000000) (hz : z.size ≤ 1000000) :
    Calls Tryz.prog 60 #[.slice (some ⟨W.heap.size, 0, none⟩) 3 3, .string ⟨#[32]⟩] (W.alloc (.cells #[.string x, .string y, .string z] 9)).drew fun e w' => e = .returned (.string (bs (x.data.toList ++ 32 :: (y.data.toList ++ 32 :: z.data.toList)))) ∧ Below (W.alloc (.cells #[.string x, .string y, .string z] 9)).drew.heap.size (W.alloc (.cells #[.string x, .string y, .string z] 9)).drew w' := by
  have hh : (W.alloc (.cells #[.string x, .string y, .string z] 9)).drew.heap[W.heap.size]? = some (.cells #[.string x, .string y, .string z] 9 (0, 0)) := heap_alloc_new W _
  refine c_join3 W.heap.size x y z _ hx hy hz ?_ ?_ ?_ (by simp) <;> (unfold World.cell?; rw [hh]; rfl)
set_option maxRecDepth 100000 in
set_option maxHeartbeats 4000000 in
theorem asking_print (p h : ByteArray) (a b : Int) (w : World) (hE : EnvF w) (ha0 : -9223372036854775808 ≤ a) (ha : a ≤ 9223372036854775807) (hb0 : -9223372036854775808 ≤ b) (hb : b ≤ 9223372036854775807) :
    Calls Tryz.prog 33 #[.agg #[.string p, .string h, .int .i64 a, .int .i64 b]] w fun e w' => e = .returned (.tuple #[.string (bs (aPrint p.data.toList h.data.toList a b)), .int .i64 (aErr p.data.toList h.data.toList a b : Nat)]) ∧ Below w.heap.size w w' := by
  have HC := Lib.hid (fun w => asking_check p h a b w)
  have HA := Lib.hid (fun w hE => ranges_ask a b w hE ha0 ha hb0 hb)
  have HE := Lib.hid (hE.below (below_agg4 w (.string p) (.string h) (.int .i64 a) (.int .i64 b) 91))
  clear hE
  by_cases he : aErr p.data.toList h.data.toList a b = 0
  · obtain ⟨z1, z2, hr⟩ := aErr_zero _ _ _ _ he
    have hp : p.size ≤ 64 := by have := (pathB_and _ z1).1; rwa [size_len] at this
    have hh : h.size ≤ 32 := by have := (hostB_and _ z2).1; rwa [size_len] at this
    have o1 := line1_put _ z1
    have o2 := line2_put _ z2
    have o3 := line3_put a b ha hb
    have HRQ : Hid (aPrint p.data.toList h.data.toList a b = reqL p.data.toList h.data.toList a b) := Lib.hid (if_pos he)
    rw [he] at HC ⊢
    rw [hr] at HA
    obtain ⟨Q, hQ⟩ : ∃ Q, bs (askL a b) = Q := ⟨_, rfl⟩
    rw [hQ] at HA
    have hQs : Q.size ≤ 47 := by rw [← hQ, bs_size]; exact askL_len a b ha hb
    have p1 := fun w => run_string_add_sum (P := Tryz.prog) w ⟨#[72, 111, 115, 116, 58, 32]⟩ h (by show 6 + _ ≤ _; omega)
    have p2 := fun w => run_string_add_sum (P := Tryz.prog) w ⟨#[82, 97, 110, 103, 101, 58, 32]⟩ Q (by show 7 + _ ≤ _; omega)
    obtain ⟨L1, hL1⟩ : ∃ L1, bs (line1 p.data.toList) = L1 := ⟨_, rfl⟩
    have e2 : (⟨#[72, 111, 115, 116, 58, 32]⟩ : ByteArray) ++ h = bs (line2 h.data.toList) := by
      rw [show (⟨#[72, 111, 115, 116, 58, 32]⟩ : ByteArray) = bs [72, 111, 115, 116, 58, 32] from rfl]
      conv => lhs; rw [← bs_self h]
      rw [bs_cat]; rfl
    have e3 : (⟨#[82, 97, 110, 103, 101, 58, 32]⟩ : ByteArray) ++ Q = bs (line3 a b) := by
      rw [show (⟨#[82, 97, 110, 103, 101, 58, 32]⟩ : ByteArray) = bs [82, 97, 110, 103, 101, 58, 32] from rfl, ← hQ, bs_cat]; rfl
    have s1 : L1.size ≤ 77 := by rw [← hL1, bs_size]; unfold line1; have := size_len p; simp only [List.length_append, List.length_cons, List.length_nil]; omega
    have HX : Hid (∀ (W : World) (B : Nat), (W.cell? ⟨B, 0, none⟩ = some (.string L1) ∧ W.cell? ⟨B, 1, none⟩ = some (.string (⟨#[72, 111, 115, 116, 58, 32]⟩ ++ h)) ∧ W.cell? ⟨B, 2, none⟩ = some (.string (⟨#[82, 97, 110, 103, 101, 58, 32]⟩ ++ Q)) ∧ W.cell? ⟨B, 3, none⟩ = some (.string ⟨#[]⟩)) → ∀ k, k < 4 → ∀ O, O = bs (body ((lines4 p.data.toList h.data.toList a b).take k)) →
        ∃ X, W.cell? ⟨B, k, none⟩ = some (.string X) ∧ X.size ≤ 100 ∧ (∀ w, Calls Tryz.prog 61 #[.string X] w fun e w' => e = .returned (.tuple #[.string (X ++ ⟨#[13, 10]⟩), .int .i64 0]) ∧ w' = w) ∧ O ++ (X ++ ⟨#[13, 10]⟩) = bs (body ((lines4 p.data.toList h.data.toList a b).take (k + 1)))) := Lib.hid (by
      intro W B hc k hk O hO
      obtain ⟨c0, c1, c2, c3⟩ := hc
      have hb : ∀ (O : ByteArray) (X : ByteArray) (A : List (List UInt8)) (x : List UInt8), O = bs (body A) → X = bs x → O ++ (X ++ ⟨#[13, 10]⟩) = bs (body (A ++ [x])) := by
        intro O X A x h1 h2
        rw [h1, h2, show (⟨#[13, 10]⟩ : ByteArray) = bs [13, 10] from rfl, bs_cat, bs_cat, body_append]
        rfl
      match k, hk with
      | 0, _ => exact ⟨L1, c0, by omega, fun w => put_good L1 w (by omega) (by rw [← hL1, bs_data]; exact o1), hb _ _ [] _ hO hL1.symm⟩
      | 1, _ => exact ⟨_, c1, by rw [ByteArray.size_append]; show 6 + _ ≤ _; omega, fun w => put_good _ w (by rw [ByteArray.size_append]; show 6 + _ ≤ _; omega) (by rw [e2, bs_data]; exact o2), hb _ _ [line1 p.data.toList] _ hO e2⟩
      | 2, _ => exact ⟨_, c2, by rw [ByteArray.size_append]; show 7 + _ ≤ _; omega, fun w => put_good _ w (by rw [ByteArray.size_append]; show 7 + _ ≤ _; omega) (by rw [e3, bs_data]; exact o3), hb _ _ [line1 p.data.toList, line2 h.data.toList] _ hO e3⟩
      | 3, _ => exact ⟨_, c3, by decide, fun w => put_good _ w (by decide) (by decide), hb _ _ [line1 p.data.toList, line2 h.data.toList, line3 a b] [] hO rfl⟩)
    clear e2 e3 o1 o2 o3 z1 z2
    have hl1 : (⟨#[71, 69, 84]⟩ : ByteArray).data.toList ++ 32 :: (p.data.toList ++ 32 :: (⟨#[72, 84, 84, 80, 47, 49, 46, 49]⟩ : ByteArray).data.toList) = line1 p.data.toList := by unfold line1; simp
    have hJ := fun W => c_join3n ⟨#[71, 69, 84]⟩ p ⟨#[72, 84, 84, 80, 47, 49, 46, 49]⟩ W (by decide) (by omega) (by decide)
    rw [hl1, hL1] at hJ
    have HJ := Lib.hid hJ
    clear hl1 hJ
    go_enter Tryz.func33, Tryz.ntmps33
    go_wp2_with fail
    refine (HC.out _).mono ?_
    rintro e w1 ⟨rfl, hb1⟩
    obtain ⟨c0, c1, c2, c3⟩ := box_four hb1
    have HB1 := Lib.hid hb1
    have HE1 := Lib.hid (HE.out.below hb1)
    clear hb1
    go_wp2_with fail
    refine (HA.out _ HE1.out).mono ?_
    rintro e w2 ⟨rfl, hb2⟩
    have HB2 := Lib.hid (bstep HB1.out hb2)
    have HE2 := Lib.hid (HE1.out.below hb2)
    obtain ⟨c0, c1, c2, c3⟩ := box_four HB2.out
    have hlt : w.heap.size < w2.heap.size := by have := HB2.out.size; simp at this; omega
    clear hb2
    go_wp2_with fail
    go_region_with (first
      | (go_at_call 60; go_loud (refine (HJ.out _).mono ?_; rintro e wx ⟨rfl, hbx⟩; obtain ⟨hcx, hfx⟩ := kcell hbx; have hsx := hbx.size)))
    all_goals
      have hbx' : Below w2.heap.size w2 wx := bstep (((Below.refl _ _).alloc (Nat.le_refl _) _).drew) hbx
      have HB3 := Lib.hid (bstep HB2.out (bstep hbx' ((Below.refl _ _).alloc (Nat.le_refl _) (.cells #[.string L1, .string (⟨#[72, 111, 115, 116, 58, 32]⟩ ++ h), .string (⟨#[82, 97, 110, 103, 101, 58, 32]⟩ ++ Q), .string ⟨#[]⟩] 9))))
      have HK := Lib.hid (box4 wx (.string L1) (.string (⟨#[72, 111, 115, 116, 58, 32]⟩ ++ h)) (.string (⟨#[82, 97, 110, 103, 101, 58, 32]⟩ ++ Q)) (.string ⟨#[]⟩) 9)
      clear hbx hbx' hcx hfx hsx c0 c1 c2 c3 hlt p1 p2
      generalize hN : wx.alloc (.cells #[.string L1, .string (⟨#[72, 111, 115, 116, 58, 32]⟩ ++ h), .string (⟨#[82, 97, 110, 103, 101, 58, 32]⟩ ++ Q), .string ⟨#[]⟩] 9) = wn at HB3 HK ⊢
      clear hN
      go_wp2_with fail
      go_simp
      go_loopg [7, 34] 4 (fun gk s7 s34 wy => ∃ (k : Nat) (O : ByteArray), s7 = .string O ∧ s34 = .int .i64 (k : Int) ∧ wy = wn ∧ k + gk = 4 ∧ O.size ≤ k * 200 ∧ Hid (O = bs (body ((lines4 p.data.toList h.data.toList a b).take k))))
      case atStart => exact ⟨0, ⟨#[]⟩, rfl, by simp, rfl, by omega, by decide, Lib.hid rfl⟩
      case round =>
        obtain ⟨k, O, rfl, rfl, rfl, hgk, hOs, HO⟩ := hrel
        by_cases hk : k < 4
        · obtain ⟨g', rfl⟩ : ∃ g', gk = g' + 1 := ⟨gk - 1, by omega⟩
          have tk : decide ((k : Int) < 4) = true := decide_eq_true (by omega)
          obtain ⟨X, hc, hXs, HP, HO2⟩ := HX.out wr wx.heap.size HK.out k hk O HO.out
          have padd := fun w => run_string_add_sum (P := Tryz.prog) w O (X ++ ⟨#[13, 10]⟩) (by rw [ByteArray.size_append]; show _ + (_ + 2) ≤ _; omega)
          have HPP := Lib.hid HP
          have HOO := Lib.hid HO2
          clear HP HO2
          go_wp2_with fail
          refine (HPP.out _).mono ?_
          rintro e w' ⟨rfl, rfl⟩
          go_wp2_with fail
          go_roundg g'
          case measure => omega
          case rel => exact ⟨k + 1, _, rfl, by simp, rfl, by omega, by rw [ByteArray.size_append, ByteArray.size_append]; show _ + (_ + 2) ≤ _; omega, Lib.hid HOO.out⟩
        · obtain rfl : k = 4 := by omega
          have HR : Hid (O = bs (reqL p.data.toList h.data.toList a b)) := Lib.hid (by rw [HO.out]; congr 1; unfold reqL lines4; simp [body])
          go_wp2_with fail
          go_ret2
          exact ⟨by rw [HRQ.out, ← HR.out]; rfl, bstep (below_agg4 w _ _ _ _ _) HB3.out⟩
  · have HR : Hid (aPrint p.data.toList h.data.toList a b = []) := Lib.hid (if_neg he)
    obtain ⟨Z, hZ⟩ : ∃ Z, aErr p.data.toList h.data.toList a b = Z := ⟨_, rfl⟩
    rw [hZ] at HC he ⊢
    have tz : ((Z : Int) != 0) = true := by rw [bne_iff_ne]; omega
    clear hZ
    go_enter Tryz.func33, Tryz.ntmps33
    go_wp2_with fail
    refine (HC.out _).mono ?_
    rintro e w1 ⟨rfl, hb1⟩
    go_wp2_with fail
    go_ret2
    exact ⟨by rw [HR.out]; rfl, bstep (below_agg4 w _ _ _ _ _) hb1⟩
end Go.Proofs.YtbdmmgmcbecolaaGreatDoor
namespace Go.Proofs.YtbdmmgmcbecolaaGreatDoor
open Go.RowKit

/-- the block of a request that is being taken -/
def RdB (w : World) (R : Nat) (l f p h a b : Value) : Prop := w.heap[R]? = some (.cells #[l, f, p, h, a, b] 259 (0, 0))
theorem RdB.below {w w' : World} {R : Nat} {l f p h a b : Value} (k : RdB w R l f p h a b) (hb : Below w.heap.size w w') : RdB w' R l f p h a b :=
  (hb.block R (Array.getElem?_eq_some_iff.1 k).1).trans k
theorem RdB.lt {w : World} {R : Nat} {l f p h a b : Value} (k : RdB w R l f p h a b) : R < w.heap.size := (Array.getElem?_eq_some_iff.1 k).1
theorem RdB.cells {w : World} {R : Nat} {l f p h a b : Value} (k : RdB w R l f p h a b) :
    w.cell? ⟨R, 0, none⟩ = some l ∧ w.cell? ⟨R, 1, none⟩ = some f ∧ w.cell? ⟨R, 2, none⟩ = some p ∧ w.cell? ⟨R, 3, none⟩ = some h ∧ w.cell? ⟨R, 4, none⟩ = some a ∧ w.cell? ⟨R, 5, none⟩ = some b := by
  unfold RdB at k
  refine ⟨?_, ?_, ?_, ?_, ?_, ?_⟩ <;> (unfold World.cell?; rw [k]; rfl)
theorem RdB.free {w : World} {R : Nat} {l f p h a b : Value} (k : RdB w R l f p h a b) :
    w.frozen? ⟨R, 0, none⟩ = false ∧ w.frozen? ⟨R, 1, none⟩ = false ∧ w.frozen? ⟨R, 2, none⟩ = false ∧ w.frozen? ⟨R, 3, none⟩ = false ∧ w.frozen? ⟨R, 4, none⟩ = false ∧ w.frozen? ⟨R, 5, none⟩ = false := by
  unfold RdB at k
  refine ⟨?_, ?_, ?_, ?_, ?_, ?_⟩ <;> (unfold World.frozen?; rw [k]; rfl)
theorem RdB.set1 {w : World} {R : Nat} {l f p h a b : Value} (k : RdB w R l f p h a b) (v : Value) : RdB (w.setCell ⟨R, 1, none⟩ v) R l v p h a b := by
  unfold RdB at k ⊢; simp [World.setCell, Array.getElem?_modify, k]
theorem RdB.set2 {w : World} {R : Nat} {l f p h a b : Value} (k : RdB w R l f p h a b) (v : Value) : RdB (w.setCell ⟨R, 2, none⟩ v) R l f v h a b := by
  unfold RdB at k ⊢; simp [World.setCell, Array.getElem?_modify, k]
theorem RdB.set3 {w : World} {R : Nat} {l f p h a b : Value} (k : RdB w R l f p h a b) (v : Value) : RdB (w.setCell ⟨R, 3, none⟩ v) R l f p v a b := by
  unfold RdB at k ⊢; simp [World.setCell, Array.getElem?_modify, k]
theorem RdB.set45 {w : World} {R : Nat} {l f p h a b : Value} (k : RdB w R l f p h a b) (u v : Value) : RdB ((w.setCell ⟨R, 4, none⟩ u).setCell ⟨R, 5, none⟩ v) R l f p h u v := by
  unfold RdB at k ⊢; simp [World.setCell, Array.getElem?_modify, k]
theorem set_size (w : World) (a : Addr) (v : Value) : (w.setCell a v).heap.size = w.heap.size := by simp
theorem GR.refl (R : Nat) (w : World) : w.grownBy w (some R) := ⟨rfl, rfl, rfl, Nat.le_refl _, fun _ _ _ => rfl⟩
theorem _root_.Go.World.grownBy.below {w w1 w2 : World} {r : Option Nat} (h : w.grownBy w1 r) (hb : Below w1.heap.size w1 w2) : w.grownBy w2 r :=
  ⟨hb.os.trans h.os, hb.tape.trans h.tape, hb.output.trans h.output, Nat.le_trans h.size hb.size, fun k hk hne => (hb.block k (Nat.lt_of_lt_of_le hk h.size)).trans (h.block k hk hne)⟩
theorem _root_.Go.World.grownBy.set {w w1 : World} {R : Nat} (h : w.grownBy w1 (some R)) (j : Nat) (v : Value) : w.grownBy (w1.setCell ⟨R, j, none⟩ v) (some R) := by
  have hk : Below R w1 (w1.setCell ⟨R, j, none⟩ v) := (Below.refl R w1).setCell (p := ⟨R, j, none⟩) (Nat.le_refl _) v
  refine ⟨hk.os.trans h.os, hk.tape.trans h.tape, hk.output.trans h.output, by rw [set_size]; exact h.size, fun k hk hne => ?_⟩
  refine Eq.trans ?_ (h.block k hk hne)
  have hkR : R ≠ k := fun e => hne (by rw [e])
  simp [World.setCell, Array.getElem?_modify, hkR]
theorem _root_.Go.World.grownBy.toBelow {w w' : World} {R : Nat} (h : w.grownBy w' (some R)) (hR : R ≤ w.heap.size) : Below R w w' :=
  (Below.refl R w).grown h hR (fun k hk => by have := Option.some.inj hk; omega)
/-- what is wrong with the first line's words -/
def firstW (ws : List (List UInt8)) : Nat := if ws.length ≠ 3 then 4 else if ws.getD 0 [] ≠ [71, 69, 84] then 14 else if ws.getD 2 [] ≠ [72, 84, 84, 80, 47, 49, 46, 49] then 13 else if pathB (ws.getD 1 []) = false then 2 else 0
def firstL (ls : List (List UInt8)) : Nat := if ls = [] then 4 else firstW (words (ls.getD 0 []))
def wordL (ls : List (List UInt8)) : List UInt8 := (words (ls.getD 0 [])).getD 1 []
theorem bs_lit (x l : List UInt8) : ((bs x).toList == l) = decide (x = l) := by
  rw [ByteArray.toList_eq, bs_data]
  by_cases h : x = l
  · subst h; simp
  · simp [h]
theorem words_len (l : List UInt8) : ∀ x ∈ words l, x.length ≤ l.length := by
  induction l with
  | nil => intro x hx; simp [words] at hx; subst hx; exact Nat.le_refl _
  | cons c t ih =>
    intro x hx
    unfold words at hx
    split at hx
    · rcases List.mem_cons.1 hx with rfl | hx
      · exact Nat.zero_le _
      · have := ih x hx; simp; omega
    · cases hw : words t with
      | nil => rw [hw] at hx; simp at hx; subst hx; simp
      | cons y ys =>
        rw [hw] at hx ih
        rcases List.mem_cons.1 hx with rfl | hx
        · have := ih y (List.mem_cons_self ..); simp; omega
        · have := ih x (List.mem_cons_of_mem _ hx); simp; omega
def FirstPost (R : Nat) (w : World) (lv fv p h a b : Value) (ls : List (List UInt8)) (e : Ending) (w' : World) : Prop := e = .returned (.int .i64 (firstL ls : Nat)) ∧ RdB w' R lv fv (if firstL ls = 0 then .string (bs (wordL ls)) else p) h a b ∧ w.grownBy w' (some R)
set_option maxRecDepth 100000 in
set_option maxHeartbeats 4000000 in
theorem ask_first (R : Nat) (w : World) (lv fv p h a b : Value) (ls : List (List UInt8)) (hR : RdB w R lv fv p h a b) (hl : HoldsS w lv ls) (hx : ∀ x ∈ ls, x.length ≤ 1000000) (hE : EnvF w) :
    Calls Tryz.prog 160 #[.pointer (some ⟨R, 0, none⟩)] w (FirstPost R w lv fv p h a b ls) := by
  obtain ⟨k0, -, -, -, -, -⟩ := hR.cells
  obtain ⟨-, -, f2, -, -, -⟩ := hR.free
  have hRl := hR.lt
  by_cases hn : ls = []
  · subst hn
    obtain ⟨av, c, rfl, hc, hh⟩ := hl
    have HR := Lib.hid hR
    clear hR hh hx hE
    go_enter Tryz.func160, Tryz.ntmps160
    go_wp2_with fail
    go_ret
    exact ⟨rfl, HR.out, GR.refl _ _⟩
  · obtain ⟨av, c, rfl, hc, hh⟩ := hl
    obtain ⟨B, o, rfl, hBl, hcell⟩ := hh hn
    have hpos : 0 < ls.length := List.length_pos_iff.2 hn
    have c0 := hcell 0 hpos
    rw [Nat.add_zero] at c0
    obtain ⟨x0, hx0⟩ : ∃ x0, ls[0] = x0 := ⟨_, rfl⟩
    have hxl : x0.length ≤ 1000000 := hx x0 (hx0 ▸ List.getElem_mem hpos)
    have hg : ls.getD 0 [] = x0 := by rw [List.getD_eq_getElem?_getD, List.getElem?_eq_getElem hpos, hx0]; rfl
    rw [hx0] at c0
    have HF : Hid (firstL ls = firstW (words x0) ∧ wordL ls = (words x0).getD 1 []) := Lib.hid ⟨by unfold firstL; rw [if_neg hn, hg], by unfold wordL; rw [hg]⟩
    obtain ⟨m, hm⟩ := hE.m
    have HW := Lib.hid (lines_words (bs x0) m w (by rw [bs_size]; omega) hm)
    have tl : ((ls.length : Int) == 0) = false := by rw [beq_eq_false_iff_ne]; omega
    have HRR := Lib.hid hR
    have hwl := words_len x0
    obtain ⟨ws, hws⟩ : ∃ ws, words x0 = ws := ⟨_, rfl⟩
    rw [bs_data, hws] at HW
    rw [hws] at HF hwl
    clear hcell hh hx hR hg hx0 hm hE
    go_enter Tryz.func160, Tryz.ntmps160
    go_wp2_with fail
    refine HW.out.mono ?_
    rintro e w1 ⟨v, rfl, hown, hb1⟩
    have HB1 := Lib.hid hb1
    have hS := HoldsS.of_own hown
    obtain ⟨av, cv, hv, hcv, hhv⟩ := hS
    subst hv
    have HR1 := Lib.hid (HRR.out.below hb1)
    obtain ⟨-, -, g2, -, -, -⟩ := HR1.out.free
    clear hown c0 k0 f2 hb1
    by_cases h3 : ws.length = 3
    · obtain ⟨B', o', rfl, hBl', hcell'⟩ := hhv (by intro e; rw [e] at h3; simp at h3)
      have d0 := hcell' 0 (by omega)
      have d1 := hcell' 1 (by omega)
      have d2 := hcell' 2 (by omega)
      rw [Nat.add_zero] at d0
      obtain ⟨y0, y1, y2, rfl⟩ : ∃ y0 y1 y2, ws = [y0, y1, y2] := by
        match ws, h3 with
        | [y0, y1, y2], _ => exact ⟨y0, y1, y2, rfl⟩
      change w1.cell? ⟨B', o', none⟩ = some (.string (bs y0)) at d0
      change w1.cell? ⟨B', o' + 1, none⟩ = some (.string (bs y1)) at d1
      change w1.cell? ⟨B', o' + 2, none⟩ = some (.string (bs y2)) at d2
      have HP := Lib.hid (fun w => asking_path (bs y1) w)
      rw [bs_data] at HP
      have e0 := bs_lit y0 [71, 69, 84]
      have e2 := bs_lit y2 [72, 84, 84, 80, 47, 49, 46, 49]
      clear hcell' hhv h3 hwl
      by_cases q0 : y0 = [71, 69, 84]
      · rw [decide_eq_true q0] at e0
        by_cases q2 : y2 = [72, 84, 84, 80, 47, 49, 46, 49]
        · rw [decide_eq_true q2] at e2
          cases hp : pathB y1 with
          | false =>
            rw [hp] at HP
            have HFF : Hid (firstL ls = 2) := Lib.hid (by rw [HF.out.1]; unfold firstW; simp [q0, q2, hp])
            clear hp q0 q2
            go_wp2_with fail
            refine (HP.out _).mono ?_
            rintro e w2 ⟨rfl, hb2⟩
            go_wp2_with fail
            go_ret
            exact ⟨by rw [HFF.out]; rfl, by rw [HFF.out]; exact HR1.out.below hb2, ((GR.refl R w).below HB1.out).below hb2⟩
          | true =>
            rw [hp] at HP
            have HFF : Hid (firstL ls = 0 ∧ wordL ls = y1) := Lib.hid ⟨by rw [HF.out.1]; unfold firstW; simp [q0, q2, hp], HF.out.2⟩
            clear hp q0 q2
            go_wp2_with fail
            refine (HP.out _).mono ?_
            rintro e w2 ⟨rfl, hb2⟩
            obtain ⟨-, -, g2', -, -, -⟩ := (HR1.out.below hb2).free
            obtain ⟨-, -, k2', -, -, -⟩ := (HR1.out.below hb2).cells
            have d1' := (hb2.cell (p := ⟨B', o' + 1, none⟩) hBl').trans d1
            have HB2 := Lib.hid hb2
            clear hb2 d0 d2 d1 g2
            go_wp2_with fail
            go_ret
            refine ⟨by rw [HFF.out.1]; rfl, ?_, ?_⟩
            · rw [HFF.out.1, HFF.out.2]; exact (HR1.out.below HB2.out).set2 _
            · exact (((GR.refl R w).below HB1.out).below HB2.out).set 2 _
        · rw [decide_eq_false q2] at e2
          have HFF : Hid (firstL ls = 13) := Lib.hid (by rw [HF.out.1]; unfold firstW; simp [q0, q2])
          clear q0 q2
          go_wp2_with fail
          go_ret
          exact ⟨by rw [HFF.out]; rfl, by rw [HFF.out]; exact HR1.out, (GR.refl R w).below HB1.out⟩
      · rw [decide_eq_false q0] at e0
        have HFF : Hid (firstL ls = 14) := Lib.hid (by rw [HF.out.1]; unfold firstW; simp [q0])
        clear q0
        go_wp2_with fail
        go_ret
        exact ⟨by rw [HFF.out]; rfl, by rw [HFF.out]; exact HR1.out, (GR.refl R w).below HB1.out⟩
    · have HFF : Hid (firstL ls = 4) := Lib.hid (by rw [HF.out.1]; unfold firstW; rw [if_pos h3])
      have t3 : ((ws.length : Int) != 3) = true := by rw [bne_iff_ne]; omega
      clear hhv h3
      go_wp2_with fail
      go_ret
      exact ⟨by rw [HFF.out]; rfl, by rw [HFF.out]; exact HR1.out, (GR.refl R w).below HB1.out⟩
end Go.Proofs.YtbdmmgmcbecolaaGreatDoor
namespace Go.Proofs.YtbdmmgmcbecolaaGreatDoor
open Go.RowKit

/-- the library's variables, as a world held them whose blocks all lie below R -/
def Anchor (R : Nat) (w : World) : Prop := ∃ wa, EnvF wa ∧ wa.heap.size = R ∧ Below R wa w
theorem Anchor.env {R : Nat} {w : World} (h : Anchor R w) : EnvF w := by
  obtain ⟨wa, h1, rfl, h3⟩ := h
  exact h1.below h3
theorem Anchor.step {R : Nat} {w w' : World} (h : Anchor R w) (hb : Below R w w') : Anchor R w' := by
  obtain ⟨wa, h1, h2, h3⟩ := h
  exact ⟨wa, h1, h2, h3.trans hb⟩
/-- the slice v reads as the texts xs, and lies below R -/
def HoldsLt (w : World) (R : Nat) (v : Value) (xs : List (List UInt8)) : Prop :=
  ∃ a c, v = .slice a xs.length c ∧ xs.length ≤ c ∧ (xs ≠ [] → ∃ b o, a = some ⟨b, o, none⟩ ∧ b < R ∧ ∀ j (hj : j < xs.length), w.cell? ⟨b, o + j, none⟩ = some (.string (bs xs[j])))
theorem HoldsLt.holds {w : World} {R : Nat} {v : Value} {xs : List (List UInt8)} (h : HoldsLt w R v xs) (hR : R ≤ w.heap.size) : HoldsS w v xs := by
  obtain ⟨a, c, h1, h2, h3⟩ := h
  exact ⟨a, c, h1, h2, fun hn => let ⟨b, o, e1, e2, e3⟩ := h3 hn; ⟨b, o, e1, Nat.lt_of_lt_of_le e2 hR, e3⟩⟩
theorem HoldsLt.step {w w' : World} {R : Nat} {v : Value} {xs : List (List UInt8)} (h : HoldsLt w R v xs) (hb : Below R w w') : HoldsLt w' R v xs := by
  obtain ⟨a, c, h1, h2, h3⟩ := h
  exact ⟨a, c, h1, h2, fun hn => let ⟨b, o, e1, e2, e3⟩ := h3 hn; ⟨b, o, e1, e2, fun j hj => (hb.cell (p := ⟨b, o + j, none⟩) e2).trans (e3 j hj)⟩⟩
theorem HoldsLt.of {w : World} {v : Value} {xs : List (List UInt8)} (h : HoldsS w v xs) : HoldsLt w w.heap.size v xs := h
/-- the first error of some lines that are to be fields; the fields -/
def fldE : List (List UInt8) → Nat
  | [] => 0
  | l :: t => if parseE l ≠ 0 then parseE l else fldE t
def fldL (ls : List (List UInt8)) : List (List UInt8 × List UInt8) := ls.map fun l => (parseN l, parseV l)
theorem fldE_skip (xs : List (List UInt8)) : ∀ k, (∀ j (hj : j < xs.length), j < k → parseE xs[j] = 0) → fldE xs = fldE (xs.drop k) := by
  induction xs with
  | nil => intro k _; simp
  | cons x t ih =>
    intro k h
    cases k with
    | zero => rfl
    | succ k =>
      have h0 := h 0 (by simp) (by omega)
      show (if parseE x ≠ 0 then parseE x else fldE t) = fldE (t.drop k)
      rw [if_neg (fun hh => hh h0)]
      exact ih k (fun j hj hk => h (j + 1) (by simp; omega) (by omega))
theorem fldE_at (xs : List (List UInt8)) (k : Nat) (hk : k < xs.length) (h : ∀ j (hj : j < xs.length), j < k → parseE xs[j] = 0) (hb : parseE xs[k] ≠ 0) : fldE xs = parseE xs[k] := by
  rw [fldE_skip xs k h, List.drop_eq_getElem_cons hk]
  exact if_pos hb
theorem fldE_all (xs : List (List UInt8)) (h : ∀ j (hj : j < xs.length), parseE xs[j] = 0) : fldE xs = 0 := by
  rw [fldE_skip xs xs.length (fun j hj _ => h j hj), List.drop_length]; rfl
theorem fldL_snoc (xs : List (List UInt8)) (k : Nat) (hk : k < xs.length) : fldL (xs.take (k + 1)) = fldL (xs.take k) ++ [(parseN xs[k], parseV xs[k])] := by
  unfold fldL; rw [List.take_succ_eq_append_getElem hk, List.map_append]; rfl
/-- append of one field at a step of a region that draws -/
theorem step_appF {ops : Array Oper} {o : Oper} {a : Act} {K : Act → World → Prop} {Q : Exit → Act → World → Prop} {E : Prop} (W : World) (hgd : o.guard = none) (s x : Operand)
    (ho : o.op = .call { callee := .builtin .append, args := #[s, x], argTypes := #[111, 111] })
    (base : Nat) (v : Value) (fs : List (List UInt8 × List UInt8)) (hs : a.eval s = v) (hown : W.ownsRow base 161 2 v fs.length (fcells fs))
    (B : Nat) (f : List UInt8 × List UInt8) (hB : W.heap[B]? = some (.cells #[.string (bs f.1), .string (bs f.2)] 161 (0, 0))) (hx : a.eval x = .slice (some ⟨B, 0, none⟩) 1 1) (hn : fs.length < 2147483648) (hbase : base ≤ W.heap.size)
    (h : ∀ g cap w', w'.ownsRow base 161 2 (.slice (some ⟨g, 0, none⟩) (fs.length + 1) cap) (fs ++ [f]).length (fcells (fs ++ [f])) → W.grownBy w' v.ownBlock → K (a.put o.dst (.slice (some ⟨g, 0, none⟩) (fs.length + 1) cap)) w') :
    if Region.wanted o (yielded ops a.tmps) = true then Oper.wp Tryz.prog o a W K Q else E := by
  obtain ⟨i0, hi, hz0, hz1, hz2⟩ := info_parts info_field
  refine step_append_lies W hgd s x 111 ho base 161 i0 _ 2 32 Tryz.underlying111 hi hz0 hz1 hz2 rfl (by decide) v fs.length (fcells fs) hs hown ⟨B, 0, none⟩ 1 1 [.string (bs f.1), .string (bs f.2)] hx rfl (World.news_of_block hB) (by simp [Value.oneCell']) (by decide) (by unfold maxLen; omega) (by omega) hbase _ rfl ?_
  intro g cap w' h1 h2 _ _
  refine h g cap w' ?_ h2
  rw [List.length_append, fcells_append]; exact h1
theorem grow_block {w w' : World} {v : Value} {base R : Nat} {e : TypeId} {size n : Nat} {xs : List Value} (hg : w.grownBy w' v.ownBlock) (hown : w.ownsRow base e size v n xs) (hR : R < base) (hRw : R < w.heap.size) : w'.heap[R]? = w.heap[R]? :=
  hg.block R hRw (fun h => by have := (hown.lt R h.symm).1; omega)
/-- behind the append: the block as it was, all below it, too -/
def AfterApp (R : Nat) (W w' : World) (l v p h a b : Value) : Prop := RdB w' R l v p h a b ∧ W.grownBy w' (some R)
theorem step_appR {ops : Array Oper} {o : Oper} {a : Act} {K : Act → World → Prop} {Q : Exit → Act → World → Prop} {E : Prop} {R base : Nat} (w0 : World) (hw0 : w0.heap.size = base) (hR0 : R < base) {l v p h x y : Value} {W2 : World} {fs : List (List UInt8 × List UInt8)} (W : World) (hgd : o.guard = none) (s z : Operand)
    (ho : o.op = .call { callee := .builtin .append, args := #[s, z], argTypes := #[111, 111] })
    (hR2 : RdB W2 R l v p h x y) (hown : W2.ownsRow base 161 2 v fs.length (fcells fs)) (hg0 : w0.grownBy W2 (some R)) (hs : a.eval s = v) (hn : fs.length < 2147483648) (hbW : Below W2.heap.size W2 W)
    (B : Nat) (f : List UInt8 × List UInt8) (hB : W.heap[B]? = some (.cells #[.string (bs f.1), .string (bs f.2)] 161 (0, 0))) (hx : a.eval z = .slice (some ⟨B, 0, none⟩) 1 1)
    (hK : ∀ g cap w', w'.ownsRow base 161 2 (.slice (some ⟨g, 0, none⟩) (fs.length + 1) cap) (fs ++ [f]).length (fcells (fs ++ [f])) → w'.cell? ⟨R, 1, none⟩ = some v → w'.frozen? ⟨R, 1, none⟩ = false → AfterApp R w0 w' l v p h x y → K (a.put o.dst (.slice (some ⟨g, 0, none⟩) (fs.length + 1) cap)) w') :
    if Region.wanted o (yielded ops a.tmps) = true then Oper.wp Tryz.prog o a W K Q else E := by
  have hoW := own_keep hown hbW
  have hlt := hR2.lt
  have hsz := hbW.size
  have hs0 := hg0.size
  refine step_appF W hgd s z ho base v fs hs hoW B f hB hx hn (by omega) (fun g cap w' h1 h2 => ?_)
  have hR3 : RdB w' R l v p h x y := (grow_block h2 hoW hR0 (by omega)).trans (hR2.below hbW)
  have hg1 := hg0.below hbW
  have hb3 : w0.grownBy w' (some R) := ⟨h2.os.trans hg1.os, h2.tape.trans hg1.tape, h2.output.trans hg1.output, Nat.le_trans hg1.size h2.size, fun k hk hne =>
    (h2.block k (Nat.lt_of_lt_of_le hk hg1.size) (fun h => by have := (hoW.lt k h.symm).1; omega)).trans (hg1.block k hk hne)⟩
  exact hK g cap w' h1 hR3.cells.2.1 hR3.free.2.1 ⟨hR3, hb3⟩
theorem own_grown {w w' : World} {R B : Nat} {e : TypeId} {k : Nat} {v : Value} {n : Nat} {xs : List Value} (h : w.ownsRow B e k v n xs) (g : w.grownBy w' (some R)) (hR : R < B) : w'.ownsRow B e k v n xs := by
  refine ⟨h.1, ?_⟩
  rcases h.2 with h0 | ⟨b, cap, cur, e1, e2, e3, e4⟩
  · exact .inl h0
  · exact .inr ⟨b, cap, cur, e1, e2, (g.block b (Array.getElem?_eq_some_iff.1 e3).1 (fun e => by have := Option.some.inj e; omega)).trans e3, e4⟩
def NamedPost (R : Nat) (w : World) (lv p h a b : Value) (ls : List (List UInt8)) (e : Ending) (w' : World) : Prop :=
  e = .returned (.int .i64 (fldE ls.tail : Nat)) ∧ (∃ fv, RdB w' R lv fv p h a b ∧ (fldE ls.tail = 0 → w'.ownsRow w.heap.size 161 2 fv (fldL ls.tail).length (fcells (fldL ls.tail)))) ∧ w.grownBy w' (some R)
set_option maxRecDepth 100000 in
set_option maxHeartbeats 4000000 in
theorem ask_named (R : Nat) (w : World) (lv p h a b : Value) (ls : List (List UInt8)) (hR : RdB w R lv (.slice none 0 0) p h a b) (hl : HoldsLt w R lv ls) (hne : ls ≠ []) (hlen : ls.length ≤ 1000000) (hx : ∀ x ∈ ls, x.length ≤ 1000000) (hA : Anchor R w) :
    Calls Tryz.prog 161 #[.pointer (some ⟨R, 0, none⟩)] w (NamedPost R w lv p h a b ls) := by
  obtain ⟨k0, -, -, -, -, -⟩ := hR.cells
  have hRl := hR.lt
  obtain ⟨av, c, rfl, hc, hh⟩ := hl
  obtain ⟨B, o, rfl, hBl, hcell⟩ := hh hne
  obtain ⟨x0, ts, rfl⟩ : ∃ x ts, ls = x :: ts := by cases ls with
    | nil => exact absurd rfl hne
    | cons x ts => exact ⟨x, ts, rfl⟩
  have HC : Hid (∀ j (hj : j < ts.length), w.cell? ⟨B, o + 1 + j, none⟩ = some (.string (bs ts[j]))) := Lib.hid (fun j hj => by
    have := hcell (j + 1) (by simp; omega)
    rw [show o + 1 + j = o + (j + 1) by omega]; exact this)
  have HX : Hid (∀ x ∈ ts, x.length ≤ 1000000) := Lib.hid (fun x hxx => hx x (List.mem_cons_of_mem _ hxx))
  have HA := Lib.hid hA
  have HR := Lib.hid hR
  have hn1 : ((x0 :: ts).length : Nat) = ts.length + 1 := rfl
  rw [hn1] at hc hlen k0
  have HRL : Hid (RdB w R (.slice (some ⟨B, o, none⟩) (ts.length + 1) c) (.slice none 0 0) p h a b) := HR
  have HT : Hid ((x0 :: ts).tail = ts) := Lib.hid rfl
  rw [hn1]
  generalize (x0 :: ts) = LS at HT ⊢
  clear hcell hh hx hA hR hne hn1 HR
  have hts : ts.length ≤ 1000000 := by omega
  by_cases h1 : c = 1
  · have ht0 : ts = [] := List.length_eq_zero_iff.1 (by omega)
    subst ht0
    subst h1
    have HP : Hid (fldE LS.tail = 0 ∧ fldL LS.tail = []) := Lib.hid (by rw [HT.out]; exact ⟨rfl, rfl⟩)
    clear HT HC HX
    go_enter Tryz.func161, Tryz.ntmps161
    go_wp2_with fail
    refine wp_loop_rounds 1 ?_
    rw [rounds_succ]
    go_wp2_with fail
    go_ret
    exact ⟨by rw [HP.out.1]; rfl, ⟨_, HRL.out, fun _ => by rw [HP.out.2]; exact World.ownsRow_nil _ _ _ _⟩, GR.refl _ _⟩
  · have hc1 : 1 < c := by omega
    go_enter Tryz.func161, Tryz.ntmps161
    go_wp2_with fail
    go_loopg [13] ts.length (fun gk s13 wr => ∃ (k : Nat) (fv : Value), s13 = .int .i64 (k : Int) ∧ k + gk = ts.length ∧ RdB wr R (.slice (some ⟨B, o, none⟩) (ts.length + 1) c) fv p h a b ∧ wr.ownsRow w.heap.size 161 2 fv (fldL (ts.take k)).length (fcells (fldL (ts.take k))) ∧ w.grownBy wr (some R) ∧ Hid (∀ j (hj : j < ts.length), j < k → parseE ts[j] = 0))
    case atStart => exact ⟨0, _, by simp, by omega, HRL.out, by rw [List.take_zero]; exact World.ownsRow_nil _ _ _ _, GR.refl _ _, Lib.hid (fun j hj h => absurd h (Nat.not_lt_zero _))⟩
    case round =>
      obtain ⟨k, fv, rfl, hgk, hRr, hown, hgr, HK⟩ := hrel
      have HGR := Lib.hid hgr
      have hbr := hgr.toBelow (Nat.le_of_lt hRl)
      clear hgr
      have HO := Lib.hid hown
      have HRr := Lib.hid hRr
      clear hown hRr
      by_cases hk : k < ts.length
      · obtain ⟨g', rfl⟩ : ∃ g', gk = g' + 1 := ⟨gk - 1, by omega⟩
        have tk : decide ((k : Int) < (ts.length : Int)) = true := decide_eq_true (by omega)
        have c0 := (hbr.cell (p := ⟨B, o + 1 + k, none⟩) hBl).trans (HC.out k hk)
        obtain ⟨S, hS⟩ : ∃ S, bs ts[k] = S := ⟨_, rfl⟩
        have hSd : S.data.toList = ts[k] := by rw [← hS, bs_data]
        have hSs : S.size ≤ 1000000 := by rw [← hS, bs_size]; exact HX.out _ (List.getElem_mem hk)
        rw [hS] at c0
        have HP := Lib.hid (fun w hE => fields_parse S w hSs hE)
        rw [hSd] at HP
        have HE := Lib.hid (HA.out.step hbr).env
        have hkl : Hid ((fldL (ts.take k)).length < 2147483648) := Lib.hid (by unfold fldL; rw [List.length_map, List.length_take]; omega)
        clear hS hSd
        by_cases hz : parseE ts[k] = 0
        · rw [hz] at HP
          have HK2 : Hid (∀ j (hj : j < ts.length), j < k + 1 → parseE ts[j] = 0) := Lib.hid (fun j hj h => by
            by_cases e : j = k
            · subst e; exact hz
            · exact HK.out j hj (by omega))
          have hstep : Hid (fldL (ts.take (k + 1)) = fldL (ts.take k) ++ [(parseN ts[k], parseV ts[k])]) := Lib.hid (fldL_snoc ts k hk)
          clear hz HK
          go_wp2_with fail
          refine (HP.out _ HE.out).mono ?_
          rintro e w1 ⟨rfl, hb1⟩
          have HR1 := Lib.hid (HRr.out.below hb1)
          have HO1 := Lib.hid (own_keep HO.out hb1)
          have HG1 := Lib.hid (HGR.out.below hb1)
          have hR1l := HR1.out.lt
          clear hb1 hbr c0
          go_wp2_with fail
          have hR2 : RdB (w1.alloc (.cells #[.string (bs (parseN ts[k])), .string (bs (parseV ts[k]))] 161)) R (.slice (some ⟨B, o, none⟩) (ts.length + 1) c) fv p h a b := HR1.out.below ((Below.refl _ _).alloc (Nat.le_refl _) _)
          have hO2 := own_keep HO1.out ((Below.refl w1.heap.size w1).alloc (Nat.le_refl _) (.cells #[.string (bs (parseN ts[k])), .string (bs (parseV ts[k]))] 161))
          have hg2 := HG1.out.below ((Below.refl w1.heap.size w1).alloc (Nat.le_refl _) (.cells #[.string (bs (parseN ts[k])), .string (bs (parseV ts[k]))] 161))
          obtain ⟨j0, j1⟩ := box2 w1 (.string (bs (parseN ts[k]))) (.string (bs (parseV ts[k]))) 161
          have hj : w1.heap.size < (w1.alloc (.cells #[.string (bs (parseN ts[k])), .string (bs (parseV ts[k]))] 161)).heap.size := by simp
          generalize w1.alloc (.cells #[.string (bs (parseN ts[k])), .string (bs (parseV ts[k]))] 161) = W2 at hR2 hO2 hg2 j0 j1 hj ⊢
          have HR2 := Lib.hid hR2
          have HO2 := Lib.hid hO2
          have HG2 := Lib.hid hg2
          obtain ⟨-, k1, -, -, -, -⟩ := hR2.cells
          obtain ⟨-, f1, -, -, -, -⟩ := hR2.free
          have hRl2 := hR2.lt
          clear hR2 hO2 hg2 HR1 HO1 HG1
          go_region_law (refine step_appR w rfl hRl _ rfl _ _ rfl HR2.out HO2.out HG2.out rfl hkl.out ?_ W2.heap.size (parseN ts[k], parseV ts[k]) ?_ rfl ?_; exact ((Below.refl _ _).alloc (Nat.le_refl _) _).drew; exact heap_alloc_new W2 _; intro g cap w3 hown3 hc3 hf3 haf)
          all_goals
            go_wp2_with fail
            go_roundg g'
            case measure => omega
            case rel =>
              refine ⟨k + 1, _, by simp, by omega, haf.1.set1 _, ?_, haf.2.set 1 _, HK2⟩
              rw [hstep.out]; exact ownsRow_setCell_below hown3 (a := ⟨R, 1, none⟩) hRl _
        · have HF : Hid (fldE LS.tail = parseE ts[k] ∧ fldE LS.tail ≠ 0) := Lib.hid (by rw [HT.out, fldE_at ts k hk HK.out hz]; exact ⟨rfl, hz⟩)
          have tz : ((parseE ts[k] : Int) != 0) = true := by rw [bne_iff_ne]; omega
          clear hz HK
          go_wp2_with fail
          refine (HP.out _ HE.out).mono ?_
          rintro e w1 ⟨rfl, hb1⟩
          have HR1 := Lib.hid (HRr.out.below hb1)
          have HG1 := Lib.hid (HGR.out.below hb1)
          have hR1l := HR1.out.lt
          clear hb1 hbr c0
          go_wp2_with fail
          go_ret
          exact ⟨by rw [HF.out.1]; rfl, ⟨_, HR1.out.below ((Below.refl _ _).alloc (Nat.le_refl _) _), fun h => absurd h HF.out.2⟩, HG1.out.below ((Below.refl _ _).alloc (Nat.le_refl _) _)⟩
      · obtain rfl : k = ts.length := by omega
        have tk : decide ((ts.length : Int) < (ts.length : Int)) = false := decide_eq_false (by omega)
        have HP : Hid (fldE LS.tail = 0 ∧ fldL LS.tail = fldL (ts.take ts.length)) := Lib.hid (by rw [HT.out, List.take_length]; exact ⟨fldE_all ts (fun j hj => HK.out j hj hj), rfl⟩)
        clear HT HK
        go_wp2_with fail
        go_ret
        exact ⟨by rw [HP.out.1]; rfl, ⟨_, HRr.out, fun _ => by rw [HP.out.2]; exact HO.out⟩, HGR.out⟩
end Go.Proofs.YtbdmmgmcbecolaaGreatDoor
namespace Go.Proofs.YtbdmmgmcbecolaaGreatDoor
open Go.RowKit

def hostK : List UInt8 := [104, 111, 115, 116]
def rangeK : List UInt8 := [114, 97, 110, 103, 101]
def whoE (fs : List (List UInt8 × List UInt8)) : Nat := if getE fs hostK ≠ 0 then getE fs hostK else if hostB (getS fs hostK) = false then 2 else 0
def whatE (fs : List (List UInt8 × List UInt8)) : Nat := if getE fs rangeK ≠ 0 then getE fs rangeK else askedE (getS fs rangeK)
def WhomPost (R : Nat) (w : World) (lv fv p a b : Value) (fs : List (List UInt8 × List UInt8)) (e : Ending) (w' : World) : Prop :=
  e = .returned (.int .i64 (whoE fs : Nat)) ∧ RdB w' R lv fv p (.string (bs (getS fs hostK))) a b ∧ w.grownBy w' (some R)
def WhatPost (R : Nat) (w : World) (lv fv p h : Value) (fs : List (List UInt8 × List UInt8)) (e : Ending) (w' : World) : Prop :=
  e = .returned (.int .i64 (whatE fs : Nat)) ∧ (∃ a b, RdB w' R lv fv p h a b ∧ (whatE fs = 0 → a = .int .i64 (askedA (getS fs rangeK)) ∧ b = .int .i64 (askedB (getS fs rangeK)))) ∧ w.grownBy w' (some R)
theorem get_k (v : Value) (fs : List (List UInt8 × List UInt8)) (n : ByteArray) (k : List UInt8) (hk : n.data.toList = k) (w : World) (hv : HoldsF w v fs) (hlen : fs.length ≤ 1000000) :
    Calls Tryz.prog 47 #[v, .string n] w fun e w' => e = .returned (.tuple #[.string (bs (getS fs k)), .int .i64 (getE fs k)]) ∧ Below w.heap.size w w' := by
  subst hk; exact fields_get v fs n w hv hlen
set_option maxRecDepth 100000 in
set_option maxHeartbeats 2000000 in
theorem ask_whom (R : Nat) (w : World) (lv fv p a b : Value) (h0 : ByteArray) (fs : List (List UInt8 × List UInt8)) (hR : RdB w R lv fv p (.string h0) a b) (hf : HoldsF w fv fs) (hlen : fs.length ≤ 1000000) :
    Calls Tryz.prog 162 #[.pointer (some ⟨R, 0, none⟩)] w (WhomPost R w lv fv p a b fs) := by
  obtain ⟨-, k1, -, -, -, -⟩ := hR.cells
  have HG := Lib.hid (get_k fv fs ⟨#[104, 111, 115, 116]⟩ hostK rfl w hf hlen)
  obtain ⟨H, hH⟩ : ∃ H, bs (getS fs hostK) = H := ⟨_, rfl⟩
  have hHd : H.data.toList = getS fs hostK := by rw [← hH, bs_data]
  have HH := Lib.hid (fun w => asking_host H w)
  rw [hHd] at HH
  rw [hH] at HG
  have HHH := Lib.hid hH
  have HR := Lib.hid hR
  have hRl := hR.lt
  clear hR hf hH hHd
  by_cases hg : getE fs hostK = 0
  · rw [hg] at HG
    cases hb : hostB (getS fs hostK) with
    | false =>
      rw [hb] at HH
      have HE : Hid (whoE fs = 2) := Lib.hid (by unfold whoE; rw [if_neg (fun h => h hg), if_pos hb])
      clear hg hb
      go_enter Tryz.func162, Tryz.ntmps162
      go_wp2_with fail
      refine HG.out.mono ?_
      rintro e w1 ⟨rfl, hb1⟩
      have HR1 := Lib.hid (HR.out.below hb1)
      obtain ⟨-, -, -, k3, -, -⟩ := HR1.out.cells
      obtain ⟨-, -, -, f3, -, -⟩ := HR1.out.free
      have HB1 := Lib.hid hb1
      clear hb1 k1
      go_wp2_with fail
      have HR2 := Lib.hid (HR1.out.set3 (.string H))
      have HB2 := Lib.hid (((GR.refl R w).below HB1.out).set 3 (.string H))
      generalize w1.setCell ⟨R, 3, none⟩ (.string H) = w2 at HR2 HB2 ⊢
      refine (HH.out _).mono ?_
      rintro e w3 ⟨rfl, hb3⟩
      go_wp2_with fail
      go_ret
      exact ⟨by rw [HE.out]; rfl, by rw [HHH.out]; exact HR2.out.below hb3, HB2.out.below hb3⟩
    | true =>
      rw [hb] at HH
      have HE : Hid (whoE fs = 0) := Lib.hid (by unfold whoE; rw [if_neg (fun h => h hg), if_neg (by rw [hb]; decide)])
      clear hg hb
      go_enter Tryz.func162, Tryz.ntmps162
      go_wp2_with fail
      refine HG.out.mono ?_
      rintro e w1 ⟨rfl, hb1⟩
      have HR1 := Lib.hid (HR.out.below hb1)
      obtain ⟨-, -, -, k3, -, -⟩ := HR1.out.cells
      obtain ⟨-, -, -, f3, -, -⟩ := HR1.out.free
      have HB1 := Lib.hid hb1
      clear hb1 k1
      go_wp2_with fail
      have HR2 := Lib.hid (HR1.out.set3 (.string H))
      have HB2 := Lib.hid (((GR.refl R w).below HB1.out).set 3 (.string H))
      generalize w1.setCell ⟨R, 3, none⟩ (.string H) = w2 at HR2 HB2 ⊢
      refine (HH.out _).mono ?_
      rintro e w3 ⟨rfl, hb3⟩
      go_wp2_with fail
      go_ret
      exact ⟨by rw [HE.out]; rfl, by rw [HHH.out]; exact HR2.out.below hb3, HB2.out.below hb3⟩
  · have HE : Hid (whoE fs = getE fs hostK) := Lib.hid (by unfold whoE; rw [if_pos hg])
    have tz : ((getE fs hostK : Int) != 0) = true := by rw [bne_iff_ne]; omega
    generalize getE fs hostK = Z at HG HE tz
    clear hg
    go_enter Tryz.func162, Tryz.ntmps162
    go_wp2_with fail
    refine HG.out.mono ?_
    rintro e w1 ⟨rfl, hb1⟩
    have HR1 := Lib.hid (HR.out.below hb1)
    obtain ⟨-, -, -, k3, -, -⟩ := HR1.out.cells
    obtain ⟨-, -, -, f3, -, -⟩ := HR1.out.free
    have HB1 := Lib.hid hb1
    clear hb1 k1
    go_wp2_with fail
    go_ret
    exact ⟨by rw [HE.out]; rfl, by rw [HHH.out]; exact HR1.out.set3 _, ((GR.refl R w).below HB1.out).set 3 _⟩
set_option maxRecDepth 100000 in
set_option maxHeartbeats 2000000 in
theorem ask_what (R : Nat) (w : World) (lv fv p h : Value) (a0 b0 : Int) (fs : List (List UInt8 × List UInt8)) (hR : RdB w R lv fv p h (.int .i64 a0) (.int .i64 b0)) (hf : HoldsF w fv fs) (hlen : fs.length ≤ 1000000) (hs : (getS fs rangeK).length ≤ 1000000) (hA : Anchor R w) :
    Calls Tryz.prog 163 #[.pointer (some ⟨R, 0, none⟩)] w (WhatPost R w lv fv p h fs) := by
  obtain ⟨-, k1, -, -, -, -⟩ := hR.cells
  have HG := Lib.hid (get_k fv fs ⟨#[114, 97, 110, 103, 101]⟩ rangeK rfl w hf hlen)
  obtain ⟨H, hH⟩ : ∃ H, bs (getS fs rangeK) = H := ⟨_, rfl⟩
  have hHd : H.data.toList = getS fs rangeK := by rw [← hH, bs_data]
  have HH := Lib.hid (fun w hE => ranges_asked H w (by rw [← hH, bs_size]; exact hs) hE)
  rw [hHd] at HH
  rw [hH] at HG
  have HR := Lib.hid hR
  have HE := Lib.hid hA.env
  have hRl := hR.lt
  clear hR hf hH hHd hs hA
  by_cases hg : getE fs rangeK = 0
  · rw [hg] at HG
    have HW : Hid (whatE fs = askedE (getS fs rangeK)) := Lib.hid (by unfold whatE; rw [if_neg (fun h => h hg)])
    clear hg
    go_enter Tryz.func163, Tryz.ntmps163
    go_wp2_with fail
    refine HG.out.mono ?_
    rintro e w1 ⟨rfl, hb1⟩
    have HR1 := Lib.hid (HR.out.below hb1)
    have HB1 := Lib.hid hb1
    have HE1 := Lib.hid (HE.out.below hb1)
    clear hb1 k1
    go_wp2_with fail
    refine (HH.out _ HE1.out).mono ?_
    rintro e w2 ⟨rfl, hb2⟩
    have HR2 := Lib.hid (HR1.out.below hb2)
    obtain ⟨-, -, -, -, k4, k5⟩ := HR2.out.cells
    obtain ⟨-, -, -, -, f4, f5⟩ := HR2.out.free
    have HB2 := Lib.hid (bstep HB1.out hb2)
    clear hb2
    go_wp2_with fail
    go_ret
    exact ⟨by rw [HW.out]; rfl, ⟨_, _, HR2.out.set45 _ _, fun _ => ⟨rfl, rfl⟩⟩, (((GR.refl R w).below HB2.out).set 4 _).set 5 _⟩
  · have HW : Hid (whatE fs = getE fs rangeK ∧ whatE fs ≠ 0) := Lib.hid (by unfold whatE; rw [if_pos hg]; exact ⟨rfl, hg⟩)
    have tz : ((getE fs rangeK : Int) != 0) = true := by rw [bne_iff_ne]; omega
    generalize getE fs rangeK = Z at HG HW tz
    clear hg
    go_enter Tryz.func163, Tryz.ntmps163
    go_wp2_with fail
    refine HG.out.mono ?_
    rintro e w1 ⟨rfl, hb1⟩
    have HR1 := Lib.hid (HR.out.below hb1)
    have HB1 := Lib.hid hb1
    clear hb1 k1
    go_wp2_with fail
    go_ret
    exact ⟨by rw [HW.out.1]; rfl, ⟨_, _, HR1.out, fun h => absurd h HW.out.2⟩, (GR.refl R w).below HB1.out⟩
end Go.Proofs.YtbdmmgmcbecolaaGreatDoor
namespace Go.Proofs.YtbdmmgmcbecolaaGreatDoor
open Go.RowKit

theorem takeLine_len (s : ByteArray) (a : Int) : (takeLine s a).data.toList.length ≤ 256 := by
  unfold takeLine
  split
  · rename_i h
    have := (scan_n (s.data.toList.drop a.toNat) 0 (by omega)).2.2.1
    rw [size_len, ByteArray.size_extract]
    unfold scanAt; omega
  · exact Nat.zero_le _
theorem headR_bound (s : ByteArray) : ∀ (f : Nat) (a : Int) (xs : List (List UInt8)), (∀ x ∈ xs, x.length ≤ 256) → xs.length ≤ 17 → (∀ x ∈ (headR f s a xs).1, x.length ≤ 256) ∧ (headR f s a xs).1.length ≤ 17 := by
  intro f
  induction f with
  | zero => intro a xs _ _; exact ⟨fun x h => by simp [headR] at h, by simp [headR]⟩
  | succ f ih =>
    intro a xs h1 h2
    unfold headR
    split
    · exact ⟨fun x h => by simp at h, by simp⟩
    · split
      · exact ⟨h1, h2⟩
      · split
        · exact ⟨fun x h => by simp at h, by simp⟩
        · rename_i h17
          refine ih _ _ (fun x hx => ?_) (by rw [List.length_append, List.length_singleton]; omega)
          rw [List.mem_append, List.mem_singleton] at hx
          rcases hx with hx | rfl
          · exact h1 x hx
          · exact takeLine_len s a
theorem headOf_bound (s : ByteArray) : (∀ x ∈ (headOf s).1, x.length ≤ 256) ∧ (headOf s).1.length ≤ 17 := headR_bound s 18 0 [] (fun x h => by simp at h) (by decide)
theorem parseV_len (l : List UInt8) : (parseV l).length ≤ l.length := by
  unfold parseV
  split
  · unfold parseVal
    have := trimS_le (l.drop ((ahead l).length + 1))
    rw [List.length_drop] at this; omega
  · exact Nat.zero_le _
theorem getS_mem (fs : List (List UInt8 × List UInt8)) (k : List UInt8) : getS fs k = [] ∨ ∃ f ∈ fs, getS fs k = f.2 := by
  unfold getS
  split
  · rename_i v h
    right
    have hm : v ∈ hits fs k := by rw [h]; exact List.mem_singleton.2 rfl
    unfold hits at hm
    obtain ⟨f, hf, rfl⟩ := List.mem_map.1 hm
    exact ⟨f, (List.mem_filter.1 hf).1, rfl⟩
  · exact .inl rfl
theorem getS_len (ls : List (List UInt8)) (k : List UInt8) (h : ∀ x ∈ ls, x.length ≤ 256) : (getS (fldL ls) k).length ≤ 256 := by
  rcases getS_mem (fldL ls) k with e | ⟨f, hf, e⟩
  · rw [e]; exact Nat.zero_le _
  · rw [e]
    unfold fldL at hf
    obtain ⟨x, hx, rfl⟩ := List.mem_map.1 hf
    exact Nat.le_trans (parseV_len x) (h x hx)
/-- what is wrong with the lines of a request -/
def lnE (ls : List (List UInt8)) : Nat := if firstL ls ≠ 0 then firstL ls else if fldE ls.tail ≠ 0 then fldE ls.tail else if whoE (fldL ls.tail) ≠ 0 then whoE (fldL ls.tail) else whatE (fldL ls.tail)
def askE (s : ByteArray) : Nat := if (headOf s).2.2 ≠ 0 then (headOf s).2.2 else lnE (headOf s).1
def askPath (s : ByteArray) : List UInt8 := if askE s = 0 then wordL (headOf s).1 else []
def askHost (s : ByteArray) : List UInt8 := if askE s = 0 then getS (fldL (headOf s).1.tail) hostK else []
def askA (s : ByteArray) : Int := if askE s = 0 then askedA (getS (fldL (headOf s).1.tail) rangeK) else 0
def askB (s : ByteArray) : Int := if askE s = 0 then askedB (getS (fldL (headOf s).1.tail) rangeK) else 0
def askN (s : ByteArray) : Int := if askE s = 0 then (headOf s).2.1 else 0
def askV (s : ByteArray) : Value := .tuple #[.agg #[.string (bs (askPath s)), .string (bs (askHost s)), .int .i64 (askA s), .int .i64 (askB s)], .int .i64 (askN s), .int .i64 (askE s : Nat)]
theorem askV_bad (s : ByteArray) (e : Nat) (h : askE s = e) (h0 : e ≠ 0) : askV s = .tuple #[.agg #[.string ⟨#[]⟩, .string ⟨#[]⟩, .int .i64 0, .int .i64 0], .int .i64 0, .int .i64 (e : Nat)] := by
  have hn : askE s ≠ 0 := by rw [h]; exact h0
  unfold askV askPath askHost askA askB askN
  rw [if_neg hn, if_neg hn, if_neg hn, if_neg hn, if_neg hn, h]; rfl
/-- what stands while a request is taken -/
structure PSt (w : World) (R : Nat) (lv : Value) (ls : List (List UInt8)) (wx : World) : Prop where
  anc : Anchor R wx
  hold : HoldsLt wx R lv ls
  fs : wx.heap[R + 1]? = some (.cells #[.func (.func 160) #[] #[], .func (.func 161) #[] #[], .func (.func 162) #[] #[], .func (.func 163) #[] #[]] 262 (0, 0))
  res : wx.heap[w.heap.size]? = some (.cells #[.string ⟨#[]⟩, .string ⟨#[]⟩, .int .i64 0, .int .i64 0] 91 (0, 0))
  bel : Below w.heap.size w wx
  Rlt : w.heap.size < R
theorem PSt.lt {w wx : World} {R : Nat} {lv : Value} {ls : List (List UInt8)} (h : PSt w R lv ls wx) : R + 1 < wx.heap.size := (Array.getElem?_eq_some_iff.1 h.fs).1
theorem PSt.keep {w wx wy : World} {R : Nat} {lv : Value} {ls : List (List UInt8)} (h : PSt w R lv ls wx) (g : wx.grownBy wy (some R)) : PSt w R lv ls wy := by
  have hl := h.lt
  have hb := g.toBelow (by omega)
  have hr := h.Rlt
  exact ⟨h.anc.step hb, h.hold.step hb, (g.block (R + 1) hl (by simp)).trans h.fs, (g.block w.heap.size (by omega) (fun e => by have := Option.some.inj e; omega)).trans h.res, h.bel.trans (hb.mono (Nat.le_of_lt hr)), hr⟩
theorem PSt.alloc {w wx : World} {R : Nat} {lv : Value} {ls : List (List UInt8)} (h : PSt w R lv ls wx) (o : Obj) : PSt w R lv ls (wx.alloc o) :=
  h.keep ((GR.refl R wx).below ((Below.refl _ _).alloc (Nat.le_refl _) o))
theorem RdB.alloc {w : World} {R : Nat} {l f p h a b : Value} (k : RdB w R l f p h a b) (o : Obj) : RdB (w.alloc o) R l f p h a b := k.below ((Below.refl _ _).alloc (Nat.le_refl _) o)
theorem PSt.cells {w wx : World} {R : Nat} {lv : Value} {ls : List (List UInt8)} (h : PSt w R lv ls wx) :
    wx.cell? ⟨R + 1, 0, none⟩ = some (.func (.func 160) #[] #[]) ∧ wx.cell? ⟨R + 1, 1, none⟩ = some (.func (.func 161) #[] #[]) ∧ wx.cell? ⟨R + 1, 2, none⟩ = some (.func (.func 162) #[] #[]) ∧ wx.cell? ⟨R + 1, 3, none⟩ = some (.func (.func 163) #[] #[]) := by
  have k := h.fs
  refine ⟨?_, ?_, ?_, ?_⟩ <;> (unfold World.cell?; rw [k]; rfl)
theorem four_of {w : World} {b : Nat} {x y z u : Value} {t : TypeId} (k : w.heap[b]? = some (.cells #[x, y, z, u] t (0, 0))) :
    (w.cell? ⟨b, 0, none⟩ = some x ∧ w.cell? ⟨b, 1, none⟩ = some y ∧ w.cell? ⟨b, 2, none⟩ = some z ∧ w.cell? ⟨b, 3, none⟩ = some u) ∧ (w.frozen? ⟨b, 0, none⟩ = false ∧ w.frozen? ⟨b, 1, none⟩ = false ∧ w.frozen? ⟨b, 2, none⟩ = false ∧ w.frozen? ⟨b, 3, none⟩ = false) := by
  refine ⟨⟨?_, ?_, ?_, ?_⟩, ⟨?_, ?_, ?_, ?_⟩⟩ <;> first | (unfold World.cell?; rw [k]; rfl) | (unfold World.frozen?; rw [k]; rfl)
theorem PSt.start {w w1 : World} {lv : Value} {ls : List (List UInt8)} (hE : EnvF w1) (hS : HoldsLt w1 w1.heap.size lv ls) (hb : Below (w.alloc (.cells #[.string ⟨#[]⟩, .string ⟨#[]⟩, .int .i64 0, .int .i64 0] 91)).heap.size (w.alloc (.cells #[.string ⟨#[]⟩, .string ⟨#[]⟩, .int .i64 0, .int .i64 0] 91)) w1) (o : Obj) :
    PSt w w1.heap.size lv ls ((w1.alloc o).alloc (.cells #[.func (.func 160) #[] #[], .func (.func 161) #[] #[], .func (.func 162) #[] #[], .func (.func 163) #[] #[]] 262)) := by
  have hb2 : Below w1.heap.size w1 ((w1.alloc o).alloc (.cells #[.func (.func 160) #[] #[], .func (.func 161) #[] #[], .func (.func 162) #[] #[], .func (.func 163) #[] #[]] 262)) := ((Below.refl _ _).alloc (Nat.le_refl _) o).alloc (by simp) _
  have hsz : w.heap.size < w1.heap.size := by have := hb.size; simp at this; omega
  refine ⟨⟨w1, hE, rfl, hb2⟩, hS.step hb2, heap_alloc2_new w1 o _, ?_, (below_agg4 w _ _ _ _ _).trans ((hb.mono (by simp)).trans (hb2.mono (Nat.le_of_lt hsz))), hsz⟩
  exact (hb2.block w.heap.size hsz).trans ((hb.block w.heap.size (by simp)).trans (heap_alloc_new w _))
theorem askV_good (s : ByteArray) (ls : List (List UInt8)) (n : Int) (h : headOf s = (ls, n, 0)) (hl : lnE ls = 0) :
    askV s = .tuple #[.agg #[.string (bs (wordL ls)), .string (bs (getS (fldL ls.tail) hostK)), .int .i64 (askedA (getS (fldL ls.tail) rangeK)), .int .i64 (askedB (getS (fldL ls.tail) rangeK))], .int .i64 n, .int .i64 0] := by
  have h0 : askE s = 0 := by unfold askE; rw [h]; exact hl
  unfold askV askPath askHost askA askB askN
  rw [if_pos h0, if_pos h0, if_pos h0, if_pos h0, if_pos h0, h0, h]; rfl
theorem head_good (s : ByteArray) (w : World) (hs : s.size ≤ 9223372036854775807) : Calls Tryz.prog 73 #[.string s] w (HeadPost s w) := lines_head s w hs
set_option maxRecDepth 100000 in
set_option maxHeartbeats 4000000 in
theorem asking_parse (s : ByteArray) (w : World) (hs : s.size ≤ 1000000) (hE : EnvF w) :
    Calls Tryz.prog 125 #[.string s] w fun e w' => e = .returned (askV s) ∧ Below w.heap.size w w' := by
  have HH := Lib.hid (head_good s (w.alloc (.cells #[.string ⟨#[]⟩, .string ⟨#[]⟩, .int .i64 0, .int .i64 0] 91)) (by omega))
  obtain ⟨V, hV⟩ : ∃ V, askV s = V := ⟨_, rfl⟩
  rw [hV]
  have HV := Lib.hid hV
  have HE := Lib.hid (hE.below (below_agg4 w (.string ⟨#[]⟩) (.string ⟨#[]⟩) (.int .i64 0) (.int .i64 0) 91))
  have hbd := headOf_bound s
  unfold HeadPost at HH
  obtain ⟨⟨ls, n, e⟩, hh⟩ : ∃ T, headOf s = T := ⟨_, rfl⟩
  rw [hh] at HH hbd
  have HHd := Lib.hid hh
  change (∀ x ∈ ls, x.length ≤ 256) ∧ ls.length ≤ 17 at hbd
  change Hid (Calls _ _ _ _ fun r w' => ∃ v, r = .returned (.tuple #[v, .int .i64 n, .int .i64 (e : Nat)]) ∧ w'.ownsRow _ 9 1 v ls.length (strs ls) ∧ _) at HH
  have HBD := Lib.hid hbd
  clear hE hV hbd hh
  by_cases he : e = 0
  · subst he
    have HL : Hid (askE s = lnE ls) := Lib.hid (by unfold askE; rw [HHd.out]; rfl)
    go_enter Tryz.func125, Tryz.ntmps125
    go_wp2_with fail
    refine HH.out.mono ?_
    rintro e w1 ⟨v, rfl, hown, hb1⟩
    obtain ⟨av, cv, rfl⟩ := slice_of_own hown
    have HB1 := Lib.hid hb1
    have HE1 := Lib.hid (HE.out.below hb1)
    have HS := Lib.hid (HoldsLt.of (HoldsS.of_own hown))
    clear hb1 hown
    go_wp2_with fail
    have hP1 := PSt.start HE1.out HS.out HB1.out (.cells #[.slice av ls.length cv, .slice none 0 0, .string ⟨#[]⟩, .string ⟨#[]⟩, .int .i64 0, .int .i64 0] 259)
    have hR1 : RdB ((w1.alloc (.cells #[.slice av ls.length cv, .slice none 0 0, .string ⟨#[]⟩, .string ⟨#[]⟩, .int .i64 0, .int .i64 0] 259)).alloc (.cells #[.func (.func 160) #[] #[], .func (.func 161) #[] #[], .func (.func 162) #[] #[], .func (.func 163) #[] #[]] 262)) w1.heap.size (.slice av ls.length cv) (.slice none 0 0) (.string ⟨#[]⟩) (.string ⟨#[]⟩) (.int .i64 0) (.int .i64 0) := RdB.alloc (heap_alloc_new w1 _) _
    generalize (w1.alloc (.cells #[.slice av ls.length cv, .slice none 0 0, .string ⟨#[]⟩, .string ⟨#[]⟩, .int .i64 0, .int .i64 0] 259)).alloc (.cells #[.func (.func 160) #[] #[], .func (.func 161) #[] #[], .func (.func 162) #[] #[], .func (.func 163) #[] #[]] 262) = W1 at hP1 hR1 ⊢
    have HP1 := Lib.hid hP1
    have HR1 := Lib.hid hR1
    obtain ⟨q0, -, -, -⟩ := hP1.cells
    generalize hR : w1.heap.size = R at HP1 HR1 q0 ⊢
    have HS' := Lib.hid HS.out
    clear hP1 hR1 HS HB1 HE1 hR HS' HE HH
    refine wp_loop_rounds 5 ?_
    rw [rounds_succ]
    go_wp2_with fail
    refine (ask_first R _ _ _ _ _ _ _ ls (HR1.out.alloc _) ((HP1.out.alloc _).hold.holds (by have := (HP1.out.alloc (.cells #[.func (.func 160) #[] #[]] 262)).lt; omega)) (fun x hx => by have := HBD.out.1 x hx; omega) (HP1.out.alloc _).anc.env).mono ?_
    rintro e w2 ⟨rfl, hr2, hg2⟩
    have HP2 := Lib.hid ((HP1.out.alloc _).keep hg2)
    obtain ⟨-, q1, -, -⟩ := HP2.out.cells
    have HR2 := Lib.hid hr2
    clear hr2 hg2 q0
    by_cases h1 : firstL ls = 0
    case neg =>
      have HVB := Lib.hid (askV_bad s (firstL ls) (by rw [HL.out]; unfold lnE; rw [if_pos h1]) h1)
      have tz : ((firstL ls : Int) != 0) = true := by rw [bne_iff_ne]; omega
      obtain ⟨⟨d0, d1, d2, d3⟩, ⟨g0, g1, g2, g3⟩⟩ := four_of HP2.out.res
      clear h1 q1
      go_wp2_with fail
      refine ret_cell3 (A := ⟨w.heap.size, 0, none⟩) rfl (load_req _ _ _ _ _ _ _ (four_set HP2.out.res _ _ _ _)) rfl rfl rfl rfl ?_
      exact ⟨by rw [← HV.out, HVB.out]; rfl, four_below HP2.out.bel _ (Nat.le_refl _) _ _ _ _⟩
    have hne : ls ≠ [] := by intro e; rw [e] at h1; exact absurd h1 (by decide)
    have HR2' : Hid (RdB w2 R (.slice av ls.length cv) (.slice none 0 0) (.string (bs (wordL ls))) (.string ⟨#[]⟩) (.int .i64 0) (.int .i64 0)) := Lib.hid (by have := HR2.out; rw [if_pos h1] at this; exact this)
    have H1 := Lib.hid h1
    rw [h1]
    have HN := Lib.hid hne
    clear h1 HR2 hne
    go_wp2_with fail
    rw [rounds_succ]
    go_wp2_with fail
    refine (ask_named R _ _ _ _ _ _ ls (HR2'.out.alloc _) (HP2.out.alloc _).hold HN.out (by have := HBD.out.2; omega) (fun x hx => by have := HBD.out.1 x hx; omega) (HP2.out.alloc _).anc).mono ?_
    rintro e w3 ⟨rfl, ⟨fv, hr3, hf3⟩, hg3⟩
    have HP3 := Lib.hid ((HP2.out.alloc _).keep hg3)
    obtain ⟨-, -, q2, -⟩ := HP3.out.cells
    have HR3 := Lib.hid hr3
    have HF3 := Lib.hid hf3
    clear hr3 hg3 q1 hf3
    by_cases h2 : fldE ls.tail = 0
    case neg =>
      have HVB := Lib.hid (askV_bad s (fldE ls.tail) (by rw [HL.out]; unfold lnE; rw [if_neg (fun h => h H1.out), if_pos h2]) h2)
      have tz : ((fldE ls.tail : Int) != 0) = true := by rw [bne_iff_ne]; omega
      obtain ⟨⟨d0, d1, d2, d3⟩, ⟨g0, g1, g2, g3⟩⟩ := four_of HP3.out.res
      clear h2 q2
      go_wp2_with fail
      refine ret_cell3 (A := ⟨w.heap.size, 0, none⟩) rfl (load_req _ _ _ _ _ _ _ (four_set HP3.out.res _ _ _ _)) rfl rfl rfl rfl ?_
      exact ⟨by rw [← HV.out, HVB.out]; rfl, four_below HP3.out.bel _ (Nat.le_refl _) _ _ _ _⟩
    have HFO := Lib.hid (HF3.out h2)
    have hRb : Hid (R < (w2.alloc (.cells #[.func (.func 161) #[] #[]] 262)).heap.size) := Lib.hid (by have := (HP2.out.alloc (.cells #[.func (.func 161) #[] #[]] 262)).lt; omega)
    have H2 := Lib.hid h2
    rw [h2]
    obtain ⟨fs, hfs⟩ : ∃ fs, fldL ls.tail = fs := ⟨_, rfl⟩
    rw [hfs] at HFO
    have HF : Hid (HoldsF w3 fv fs) := Lib.hid (HoldsF.of_own HFO.out)
    have hfl : fs.length ≤ 17 := by rw [← hfs]; unfold fldL; rw [List.length_map, List.length_tail]; have := HBD.out.2; omega
    have hgl : (getS fs rangeK).length ≤ 256 := by rw [← hfs]; exact getS_len ls.tail rangeK (fun x hx => HBD.out.1 x (List.mem_of_mem_tail hx))
    have HFS := Lib.hid hfs
    have HGL := Lib.hid (And.intro hfl hgl)
    clear h2 HF3 hfs hfl hgl
    go_wp2_with fail
    rw [rounds_succ]
    go_wp2_with fail
    refine (ask_whom R _ _ fv _ _ _ _ fs (HR3.out.alloc _) (HF.out.below ((Below.refl _ _).alloc (Nat.le_refl _) _)) (by have := HGL.out.1; omega)).mono ?_
    rintro e w4 ⟨rfl, hr4, hg4⟩
    have HP4 := Lib.hid ((HP3.out.alloc _).keep hg4)
    obtain ⟨-, -, -, q3⟩ := HP4.out.cells
    have HR4 := Lib.hid hr4
    have HG4 := Lib.hid hg4
    clear hr4 hg4 q2
    by_cases h3 : whoE fs = 0
    case neg =>
      have HVB := Lib.hid (askV_bad s (whoE fs) (by rw [HL.out]; unfold lnE; rw [if_neg (fun h => h H1.out), if_neg (fun h => h H2.out), HFS.out, if_pos h3]) h3)
      have tz : ((whoE fs : Int) != 0) = true := by rw [bne_iff_ne]; omega
      obtain ⟨⟨d0, d1, d2, d3⟩, ⟨g0, g1, g2, g3⟩⟩ := four_of HP4.out.res
      clear h3 q3
      go_wp2_with fail
      refine ret_cell3 (A := ⟨w.heap.size, 0, none⟩) rfl (load_req _ _ _ _ _ _ _ (four_set HP4.out.res _ _ _ _)) rfl rfl rfl rfl ?_
      exact ⟨by rw [← HV.out, HVB.out]; rfl, four_below HP4.out.bel _ (Nat.le_refl _) _ _ _ _⟩
    have H3 := Lib.hid h3
    rw [h3]
    clear h3
    go_wp2_with fail
    rw [rounds_succ]
    go_wp2_with fail
    have HF4 : Hid (HoldsF w4 fv fs) := Lib.hid (HoldsF.of_own (own_grown (own_keep HFO.out ((Below.refl _ _).alloc (Nat.le_refl _) _)) HG4.out hRb.out))
    refine (ask_what R _ _ fv _ _ _ _ fs (HR4.out.alloc _) (HF4.out.below ((Below.refl _ _).alloc (Nat.le_refl _) _)) (by have := HGL.out.1; omega) (by have := HGL.out.2; omega) (HP4.out.alloc _).anc).mono ?_
    rintro e w5 ⟨rfl, ⟨a5, b5, hr5, ha5⟩, hg5⟩
    have HP5 := Lib.hid ((HP4.out.alloc _).keep hg5)
    have HR5 := Lib.hid hr5
    have HA5 := Lib.hid ha5
    clear hr5 hg5 q3 ha5
    by_cases h4 : whatE fs = 0
    case neg =>
      have HVB := Lib.hid (askV_bad s (whatE fs) (by rw [HL.out]; unfold lnE; rw [if_neg (fun h => h H1.out), if_neg (fun h => h H2.out), HFS.out, if_neg (fun h => h H3.out)]) h4)
      have tz : ((whatE fs : Int) != 0) = true := by rw [bne_iff_ne]; omega
      obtain ⟨⟨d0, d1, d2, d3⟩, ⟨g0, g1, g2, g3⟩⟩ := four_of HP5.out.res
      clear h4
      go_wp2_with fail
      refine ret_cell3 (A := ⟨w.heap.size, 0, none⟩) rfl (load_req _ _ _ _ _ _ _ (four_set HP5.out.res _ _ _ _)) rfl rfl rfl rfl ?_
      exact ⟨by rw [← HV.out, HVB.out]; rfl, four_below HP5.out.bel _ (Nat.le_refl _) _ _ _ _⟩
    obtain ⟨rfl, rfl⟩ := HA5.out h4
    have HVG := Lib.hid (askV_good s ls n HHd.out (by unfold lnE; rw [if_neg (fun h => h H1.out), if_neg (fun h => h H2.out), HFS.out, if_neg (fun h => h H3.out)]; exact h4))
    rw [h4]
    obtain ⟨-, -, r2, r3, r4, r5⟩ := HR5.out.cells
    obtain ⟨⟨d0, d1, d2, d3⟩, ⟨g0, g1, g2, g3⟩⟩ := four_of HP5.out.res
    clear h4 HA5
    go_wp2_with fail
    rw [rounds_succ]
    go_wp2_with fail
    refine ret_cell3 (A := ⟨w.heap.size, 0, none⟩) rfl (load_req _ _ _ _ _ _ _ (four_set HP5.out.res _ _ _ _)) rfl rfl rfl rfl ?_
    exact ⟨by rw [← HV.out, HVG.out, HFS.out]; rfl, four_below HP5.out.bel _ (Nat.le_refl _) _ _ _ _⟩
  · have HVB := Lib.hid (askV_bad s e (by unfold askE; rw [HHd.out]; exact if_pos he) he)
    have tz : ((e : Int) != 0) = true := by rw [bne_iff_ne]; omega
    clear he
    go_enter Tryz.func125, Tryz.ntmps125
    go_wp2_with fail
    refine HH.out.mono ?_
    rintro e w1 ⟨v, rfl, -, hb1⟩
    have HB1 := Lib.hid hb1
    have HK := Lib.hid ((hb1.block w.heap.size (by simp)).trans (heap_alloc_new w _))
    obtain ⟨⟨d0, d1, d2, d3⟩, ⟨g0, g1, g2, g3⟩⟩ := four_of HK.out
    clear hb1
    go_wp2_with fail
    refine ret_cell3 (A := ⟨w.heap.size, 0, none⟩) rfl (load_req _ _ _ _ _ _ _ (four_set HK.out _ _ _ _)) rfl rfl rfl rfl ?_
    exact ⟨by rw [← HV.out, HVB.out]; rfl, four_below (bstep (below_agg4 w _ _ _ _ _) HB1.out) _ (Nat.le_refl _) _ _ _ _⟩
end Go.Proofs.YtbdmmgmcbecolaaGreatDoor
namespace Go.Proofs.YtbdmmgmcbecolaaGreatDoor
open Go.RowKit

/-- the tail of a slice of texts -/
theorem HoldsS.tail {w : World} {b o c : Nat} {x : List UInt8} {xs : List (List UInt8)} (h : HoldsS w (.slice (some ⟨b, o, none⟩) (x :: xs).length c) (x :: xs)) (hc : 1 < c) : HoldsS w (.slice (some ⟨b, o + 1, none⟩) xs.length (c - 1)) xs := by
  obtain ⟨a, c', hv, hcc, hh⟩ := h
  injection hv with h1 h2 h3
  subst h1 h3
  obtain ⟨b', o', hbo, hbl, hcell⟩ := hh (by simp)
  injection hbo with hbo
  injection hbo with h4 h5
  subst h4 h5
  refine ⟨_, _, rfl, by simp at hcc; omega, fun _ => ⟨b, o + 1, rfl, hbl, fun j hj => ?_⟩⟩
  have := hcell (j + 1) (by simp; omega)
  rw [show o + 1 + j = o + (j + 1) by omega]; exact this
end Go.Proofs.YtbdmmgmcbecolaaGreatDoor
namespace Go.Proofs.YtbdmmgmcbecolaaGreatDoor
open Go.RowKit

def Four (w : World) (b : Nat) (x y z u : Value) : Prop := b < w.heap.size ∧ w.cell? ⟨b, 0, none⟩ = some x ∧ w.cell? ⟨b, 1, none⟩ = some y ∧ w.cell? ⟨b, 2, none⟩ = some z ∧ w.cell? ⟨b, 3, none⟩ = some u
theorem Four.below {w w' : World} {b : Nat} {x y z u : Value} (h : Four w b x y z u) (hb : Below w.heap.size w w') : Four w' b x y z u :=
  ⟨Nat.lt_of_lt_of_le h.1 hb.size, (hb.cell (p := ⟨b, 0, none⟩) h.1).trans h.2.1, (hb.cell (p := ⟨b, 1, none⟩) h.1).trans h.2.2.1, (hb.cell (p := ⟨b, 2, none⟩) h.1).trans h.2.2.2.1, (hb.cell (p := ⟨b, 3, none⟩) h.1).trans h.2.2.2.2⟩
theorem Four.alloc {w : World} {b : Nat} {x y z u : Value} (h : Four w b x y z u) (o : Obj) : Four (w.alloc o) b x y z u := h.below ((Below.refl _ _).alloc (Nat.le_refl _) o)
theorem Four.new (w : World) (x y z u : Value) (t : TypeId) : Four (w.alloc (.cells #[x, y, z, u] t)) w.heap.size x y z u := ⟨by simp, box4 w x y z u t⟩
end Go.Proofs.YtbdmmgmcbecolaaGreatDoor
