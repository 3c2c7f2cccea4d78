/- The small example of the laws of layer 25. The law function AskingTells. A request as printed is taken for itself; cut anywhere it is too short; what is taken may be printed (no program in sight). Plain words on replies: what one is printed as, and what is taken of bytes (no program in sight). DERIVED: THE SHELF's CONTRACTS AT THIS DUMP, IN PLAIN WORDS (tools/lay-plain.mjs out of 'YtgnkmfjleecmfaaGreatDoorSlLaysG.lean', which tools/lay-shelf.mjs wrote): THE SAME DECLARATIONS UNDER THE SAME NAMES: 'import', 'namespace', 'open', 'def', 'theorem' AND NOTHING ELSE: no command of the shelf's: FOR A HAND-IN. Each laying: the table of numbers ('.._ren') and one theorem, a field a fact of the dump's own or the kernel's comparison; each contract: ONE APPLICATION. slices.Equal and slices.Clone at the fields of a reply. copy of elements of more cells than one. The field that tells a body's length: reply.named; slices.IndexFunc and slices.DeleteFunc by it. -/
import Derived.Test.YtgnkmfjleecmfaaGreatDoorPf6
import Derived.Laws.StructEq
import Derived.Shelf.SlicesQ.Equal
import Derived.Shelf.SlicesE.Clone
import Derived.Shelf.SlicesQ.IndexFunc
import Derived.Ground.SlgqProg
import Derived.Ground.SlgnProg
import Derived.Ground.SlgfProg
import Derived.Test.YtgnkmfjleecmfaaGreatDoorProg
import Derived.Laws.IdiomCopy
import Derived.Laws.CopyOwn
import Derived.Shelf.Spec.SlicesInsert
set_option linter.unusedVariables false
namespace Go.Proofs.YtgnkmfjleecmfaaGreatDoor
open Go.RowKit

theorem eq_range_in (d : Nat) (x y : Int) (w : World) : (Op.equalIn (d + 2) 105 (.agg #[.int .i64 x, .int .i64 y]) (.agg #[.int .i64 x, .int .i64 y])).run Tryz.prog w = .ok true w := by
  have u4 := Tryz.underlying3
  have hS : Tryz.prog.underlying 105 = some (.struct (Tryz.prog.fieldsOf 105)) := by kernel_rfl
  have hp : Tryz.prog.stoodInHeld 105 = false := by kernel_rfl
  rw [run_equalIn_agg w (d + 1) 105 _ _ hS hp]
  simp only [Program.fieldsOf, Tryz.underlying105]
  go_simp
theorem eq_req_in (d : Nat) (a b : ByteArray) (x y : Int) (w : World) : (Op.equalIn (d + 3) 107 (.agg #[.string a, .string b, .int .i64 x, .int .i64 y]) (.agg #[.string a, .string b, .int .i64 x, .int .i64 y])).run Tryz.prog w = .ok true w := by
  have u3 := Tryz.underlying9
  have hS : Tryz.prog.underlying 107 = some (.struct (Tryz.prog.fieldsOf 107)) := by kernel_rfl
  have hp : Tryz.prog.stoodInHeld 107 = false := by kernel_rfl
  have hi := Tryz.sizeOf105
  have ha := Tryz.isAgg105
  have hin := eq_range_in d x y
  rw [run_equalIn_agg w (d + 2) 107 _ _ hS hp]
  simp only [Program.fieldsOf, Tryz.underlying107]
  go_simp
theorem eq_req (a b : ByteArray) (x y : Int) (w : World) : (binOp .eql 107 (.agg #[.string a, .string b, .int .i64 x, .int .i64 y]) (.agg #[.string a, .string b, .int .i64 x, .int .i64 y])).run Tryz.prog w = .ok (.bool true) w := by
  rw [run_eql_struct, show (10000 : Nat) = 9997 + 3 from rfl, eq_req_in]; rfl
theorem guard_req (op : BinOp) (x y : Operand) (xs ys : Array Value) (w : World) : (eqGuard op 107 x y (.agg xs) (.agg ys)).run Tryz.prog w = .ok () w :=
  run_eqGuard_agg w op 107 x y xs ys (by kernel_rfl)
theorem aparse_at (s P H : ByteArray) (a b n : Int) (e : Nat) (h : askPath s = P.data.toList ∧ askHost s = H.data.toList ∧ askA s = a ∧ askB s = b ∧ askN s = n ∧ askE s = e) (w : World) (hs : s.size ≤ 1000000) (hE : EnvF w) :
    Calls Tryz.prog 52 #[.string s] w fun r w' => r = .returned (.tuple #[.agg #[.string P, .string H, .int .i64 a, .int .i64 b], .int .i64 n, .int .i64 (e : Nat)]) ∧ Below w.heap.size w w' := by
  have := asking_parse s w hs hE
  unfold askV at this
  obtain ⟨h1, h2, h3, h4, h5, h6⟩ := h
  rw [h1, h2, h3, h4, h5, h6, bs_self, bs_self] at this
  exact this
theorem acheck_at (p h : ByteArray) (a b : Int) (e : Nat) (hh : aErr p.data.toList h.data.toList a b = e) (w : World) :
    Calls Tryz.prog 76 #[.agg #[.string p, .string h, .int .i64 a, .int .i64 b]] w fun r w' => r = .returned (.int .i64 (e : Nat)) ∧ Below w.heap.size w w' := by
  have := asking_check p h a b w
  rw [hh] at this
  exact this
theorem dig0 : digL 0 = [48] := by
  unfold digL; rw [if_neg (by decide)]; exact Go.Lib.decDigits_one (by decide)
theorem dig9 : digL 9 = [57] := by
  unfold digL; rw [if_neg (by decide)]; exact Go.Lib.decDigits_one (by decide)
theorem ask09 : askL 0 9 = [98, 121, 116, 101, 115, 61, 48, 45, 57] := by
  unfold askL textR; rw [dig0, dig9]; rfl
theorem qw1 : aPrint (ByteArray.mk #[47, 97]).data.toList (ByteArray.mk #[104]).data.toList 0 9 = (ByteArray.mk #[71, 69, 84, 32, 47, 97, 32, 72, 84, 84, 80, 47, 49, 46, 49, 13, 10, 72, 111, 115, 116, 58, 32, 104, 13, 10, 82, 97, 110, 103, 101, 58, 32, 98, 121, 116, 101, 115, 61, 48, 45, 57, 13, 10, 13, 10]).data.toList ∧ aErr (ByteArray.mk #[47, 97]).data.toList (ByteArray.mk #[104]).data.toList 0 9 = 0 := by
  have h : aErr (ByteArray.mk #[47, 97]).data.toList (ByteArray.mk #[104]).data.toList 0 9 = 0 := by decide +kernel
  refine ⟨?_, h⟩
  unfold aPrint
  rw [if_pos h]
  unfold reqL line3
  rw [ask09]
  decide +kernel
theorem qw2 : askPath ((ByteArray.mk #[71, 69, 84, 32, 47, 97, 32, 72, 84, 84, 80, 47, 49, 46, 49, 13, 10, 72, 111, 115, 116, 58, 32, 104, 13, 10, 82, 97, 110, 103, 101, 58, 32, 98, 121, 116, 101, 115, 61, 48, 45, 57, 13, 10, 13, 10]) ++ ⟨#[120]⟩) = (ByteArray.mk #[47, 97]).data.toList ∧ askHost ((ByteArray.mk #[71, 69, 84, 32, 47, 97, 32, 72, 84, 84, 80, 47, 49, 46, 49, 13, 10, 72, 111, 115, 116, 58, 32, 104, 13, 10, 82, 97, 110, 103, 101, 58, 32, 98, 121, 116, 101, 115, 61, 48, 45, 57, 13, 10, 13, 10]) ++ ⟨#[120]⟩) = (ByteArray.mk #[104]).data.toList ∧ askA ((ByteArray.mk #[71, 69, 84, 32, 47, 97, 32, 72, 84, 84, 80, 47, 49, 46, 49, 13, 10, 72, 111, 115, 116, 58, 32, 104, 13, 10, 82, 97, 110, 103, 101, 58, 32, 98, 121, 116, 101, 115, 61, 48, 45, 57, 13, 10, 13, 10]) ++ ⟨#[120]⟩) = 0 ∧ askB ((ByteArray.mk #[71, 69, 84, 32, 47, 97, 32, 72, 84, 84, 80, 47, 49, 46, 49, 13, 10, 72, 111, 115, 116, 58, 32, 104, 13, 10, 82, 97, 110, 103, 101, 58, 32, 98, 121, 116, 101, 115, 61, 48, 45, 57, 13, 10, 13, 10]) ++ ⟨#[120]⟩) = 9 ∧ askN ((ByteArray.mk #[71, 69, 84, 32, 47, 97, 32, 72, 84, 84, 80, 47, 49, 46, 49, 13, 10, 72, 111, 115, 116, 58, 32, 104, 13, 10, 82, 97, 110, 103, 101, 58, 32, 98, 121, 116, 101, 115, 61, 48, 45, 57, 13, 10, 13, 10]) ++ ⟨#[120]⟩) = 46 ∧ askE ((ByteArray.mk #[71, 69, 84, 32, 47, 97, 32, 72, 84, 84, 80, 47, 49, 46, 49, 13, 10, 72, 111, 115, 116, 58, 32, 104, 13, 10, 82, 97, 110, 103, 101, 58, 32, 98, 121, 116, 101, 115, 61, 48, 45, 57, 13, 10, 13, 10]) ++ ⟨#[120]⟩) = 0 := by decide +kernel
theorem qw3 : askPath (ByteArray.mk #[80, 85, 84, 32, 47, 97, 32, 72, 84, 84, 80, 47, 49, 46, 49, 13, 10, 13, 10]) = (ByteArray.mk #[]).data.toList ∧ askHost (ByteArray.mk #[80, 85, 84, 32, 47, 97, 32, 72, 84, 84, 80, 47, 49, 46, 49, 13, 10, 13, 10]) = (ByteArray.mk #[]).data.toList ∧ askA (ByteArray.mk #[80, 85, 84, 32, 47, 97, 32, 72, 84, 84, 80, 47, 49, 46, 49, 13, 10, 13, 10]) = 0 ∧ askB (ByteArray.mk #[80, 85, 84, 32, 47, 97, 32, 72, 84, 84, 80, 47, 49, 46, 49, 13, 10, 13, 10]) = 0 ∧ askN (ByteArray.mk #[80, 85, 84, 32, 47, 97, 32, 72, 84, 84, 80, 47, 49, 46, 49, 13, 10, 13, 10]) = 0 ∧ askE (ByteArray.mk #[80, 85, 84, 32, 47, 97, 32, 72, 84, 84, 80, 47, 49, 46, 49, 13, 10, 13, 10]) = 14 := by decide +kernel
theorem qw4 : askPath (ByteArray.mk #[71, 69, 84, 32, 47, 97, 32, 72, 84, 84, 80, 47, 49, 46, 49, 13, 10, 13, 10]) = (ByteArray.mk #[]).data.toList ∧ askHost (ByteArray.mk #[71, 69, 84, 32, 47, 97, 32, 72, 84, 84, 80, 47, 49, 46, 49, 13, 10, 13, 10]) = (ByteArray.mk #[]).data.toList ∧ askA (ByteArray.mk #[71, 69, 84, 32, 47, 97, 32, 72, 84, 84, 80, 47, 49, 46, 49, 13, 10, 13, 10]) = 0 ∧ askB (ByteArray.mk #[71, 69, 84, 32, 47, 97, 32, 72, 84, 84, 80, 47, 49, 46, 49, 13, 10, 13, 10]) = 0 ∧ askN (ByteArray.mk #[71, 69, 84, 32, 47, 97, 32, 72, 84, 84, 80, 47, 49, 46, 49, 13, 10, 13, 10]) = 0 ∧ askE (ByteArray.mk #[71, 69, 84, 32, 47, 97, 32, 72, 84, 84, 80, 47, 49, 46, 49, 13, 10, 13, 10]) = 6 := by decide +kernel
theorem qw5 : aErr (ByteArray.mk #[97]).data.toList (ByteArray.mk #[104]).data.toList 0 0 = 2 := by decide +kernel
def Four (w : World) (b : Nat) (x y z u : Value) : Prop := b < w.heap.size ∧ w.cell? ⟨b, 0, none⟩ = some x ∧ w.cell? ⟨b, 1, none⟩ = some y ∧ w.cell? ⟨b, 2, none⟩ = some z ∧ w.cell? ⟨b, 3, none⟩ = some u
theorem Four.below {w w' : World} {b : Nat} {x y z u : Value} (h : Four w b x y z u) (hb : Below w.heap.size w w') : Four w' b x y z u :=
  ⟨Nat.lt_of_lt_of_le h.1 hb.size, (hb.cell (p := ⟨b, 0, none⟩) h.1).trans h.2.1, (hb.cell (p := ⟨b, 1, none⟩) h.1).trans h.2.2.1, (hb.cell (p := ⟨b, 2, none⟩) h.1).trans h.2.2.2.1, (hb.cell (p := ⟨b, 3, none⟩) h.1).trans h.2.2.2.2⟩
theorem Four.alloc {w : World} {b : Nat} {x y z u : Value} (h : Four w b x y z u) (o : Obj) : Four (w.alloc o) b x y z u := h.below ((Below.refl _ _).alloc (Nat.le_refl _) o)
theorem Four.new (w : World) (x y z u : Value) (t : TypeId) : Four (w.alloc (.cells #[x, y, z, u] t)) w.heap.size x y z u := ⟨by simp, box4 w x y z u t⟩
end Go.Proofs.YtgnkmfjleecmfaaGreatDoor
namespace Go.Proofs.YtgnkmfjleecmfaaGreatDoor
open Go.RowKit

theorem aparse_vals (s : ByteArray) : ∃ (P H : ByteArray) (a b n : Int) (e : Nat), askV s = .tuple #[.agg #[.string P, .string H, .int .i64 a, .int .i64 b], .int .i64 n, .int .i64 (e : Nat)] := ⟨_, _, _, _, _, _, rfl⟩
theorem cells_of {W : World} {b : Nat} {x y z u : Value} (h : Four W b x y z u) : (∀ p : BelowOf W, p.world.cell? ⟨b, 0, none⟩ = some x) ∧ (∀ p : BelowOf W, p.world.cell? ⟨b, 1, none⟩ = some y) ∧ (∀ p : BelowOf W, p.world.cell? ⟨b, 2, none⟩ = some z) ∧ (∀ p : BelowOf W, p.world.cell? ⟨b, 3, none⟩ = some u) :=
  ⟨fun p => cell_of p h.1 h.2.1, fun p => cell_of p h.1 h.2.2.1, fun p => cell_of p h.1 h.2.2.2.1, fun p => cell_of p h.1 h.2.2.2.2⟩
end Go.Proofs.YtgnkmfjleecmfaaGreatDoor
namespace Go.Proofs.YtgnkmfjleecmfaaGreatDoor
open Go.RowKit

/-- the end of a head lies behind its beginning, within the text -/
theorem take_next_bd (s : ByteArray) (a : Int) (h : takeErr s a = 0) (h0 : 0 ≤ a) : a + 2 ≤ takeNext s a ∧ takeNext s a ≤ (s.size : Int) := by
  have hin : ¬ (a < 0 ∨ (s.size : Int) < a) := by
    intro hh
    rw [takeErr_out s a hh] at h
    exact absurd h (by decide)
  obtain ⟨i, rfl⟩ : ∃ i : Nat, a = (i : Int) := ⟨a.toNat, by omega⟩
  have hi : i ≤ s.size := by omega
  have hz := h
  rw [takeErr_in s i hi] at hz
  unfold takeNext
  rw [if_pos h, Int.toNat_natCast]
  have := scan_zero (s.data.toList.drop i) 0 hz
  unfold scanAt
  have hl : (s.data.toList.drop i).length = s.size - i := by rw [List.length_drop, size_len]
  omega
theorem headR_bd (s : ByteArray) : ∀ (f : Nat) (a : Int) (xs : List (List UInt8)), 0 ≤ a → (headR f s a xs).2.2 = 0 → 0 < f → a + 2 ≤ (headR f s a xs).2.1 ∧ (headR f s a xs).2.1 ≤ (s.size : Int) := by
  intro f
  induction f with
  | zero => intro a xs _ _ hf; omega
  | succ f ih =>
    intro a xs h0 he _
    by_cases h : takeErr s a = 0
    · obtain ⟨b1, b2⟩ := take_next_bd s a h h0
      by_cases h2 : (takeLine s a).toList.isEmpty = true
      · rw [headR_end f s a xs h h2]
        exact ⟨b1, b2⟩
      · rw [Bool.not_eq_true] at h2
        by_cases h3 : xs.length = 17
        · rw [headR_many f s a xs h h2 h3] at he
          exact absurd he (by decide)
        · rw [headR_more f s a xs h h2 h3] at he ⊢
          rcases f with _ | f
          · simp [headR] at he
          · obtain ⟨c1, c2⟩ := ih (takeNext s a) _ (by omega) he (by omega)
            exact ⟨by omega, c2⟩
    · rw [headR_err f s a xs h] at he
      exact absurd he h
theorem headOf_bd (s : ByteArray) (h : (headOf s).2.2 = 0) : 0 < (headOf s).2.1 ∧ (headOf s).2.1 ≤ (s.size : Int) := by
  have := headR_bd s 18 0 [] (by omega) h (by omega)
  unfold headOf
  exact ⟨by omega, this.2⟩

theorem words_one (p : List UInt8) (h : ∀ c ∈ p, c ≠ 32) : words p = [p] := by
  induction p with
  | nil => rfl
  | cons c t ih =>
    rw [words, if_neg (h c (List.mem_cons_self ..)), ih fun c hc => h c (List.mem_cons_of_mem _ hc)]
theorem words_pre (p r : List UInt8) (h : ∀ c ∈ p, c ≠ 32) : words (p ++ 32 :: r) = p :: words r := by
  induction p with
  | nil => rw [List.nil_append, words, if_pos rfl]
  | cons c t ih =>
    rw [List.cons_append, words, if_neg (h c (List.mem_cons_self ..)), ih fun c hc => h c (List.mem_cons_of_mem _ hc)]
theorem path_no32 (p : List UInt8) (h : pathB p = true) : ∀ c ∈ p, c ≠ 32 := by
  intro c hc e
  subst e
  exact absurd ((pathB_and p h).2.1 32 hc) (by decide)
theorem line1_words (p : List UInt8) (h : pathB p = true) : words (line1 p) = [[71, 69, 84], p, [72, 84, 84, 80, 47, 49, 46, 49]] := by
  have e : line1 p = [71, 69, 84] ++ 32 :: (p ++ 32 :: [72, 84, 84, 80, 47, 49, 46, 49]) := by unfold line1; simp
  rw [e, words_pre _ _ (by decide), words_pre _ _ (path_no32 p h), words_one _ (by decide)]
theorem line2_print (h : List UInt8) (hh : hostB h = true) : line2 h = printL hostK h := by
  have hne := (hostB_and h hh).2.2
  unfold line2 printL tailV
  rw [if_neg (by cases h <;> simp_all), show titL true hostK = [72, 111, 115, 116] by decide]
  rfl
theorem host_gap (h : List UInt8) (hh : hostB h = true) : printOk hostK h = true := by
  obtain ⟨-, h2, h3⟩ := hostB_and h hh
  have hg : ∀ c ∈ h, gapB c = false := by
    intro c hc
    have := hostN_plain c.toNat (h2 c hc)
    have h9 : c ≠ 9 := by rintro rfl; exact absurd (h2 9 hc) (by decide)
    have h32 : c ≠ 32 := by rintro rfl; exact absurd (h2 32 hc) (by decide)
    rw [← gapL_contains]
    unfold gapL
    simp [h9, h32]
  have hgap : ∀ l : List UInt8, (∀ c ∈ l, gapB c = false) → headGap l = false := by
    intro l hl
    cases l with
    | nil => rfl
    | cons c t => exact hl c (List.mem_cons_self ..)
  unfold printOk
  rw [show nameL hostK = true by decide, Bool.true_and, Bool.and_eq_true]
  refine ⟨List.all_eq_true.2 fun c hc => (hostN_plain c.toNat (h2 c hc)).1, ?_⟩
  unfold noGap
  rw [hgap h hg, hgap h.reverse (fun c hc => hg c (List.mem_reverse.1 hc))]
  rfl
theorem rangeL_eq (a b : Int) (h : rErr a b = 0) : askL a b = asksL ++ (Go.Lib.decDigits a.toNat ++ 45 :: Go.Lib.decDigits b.toNat) := by
  obtain ⟨h1, h2, h3⟩ := rErr_ok a b h
  unfold askL textR digL
  rw [if_pos h, if_neg (by omega), if_neg (by omega)]
theorem line3_print (a b : Int) (h : rErr a b = 0) : line3 a b = printL rangeK (askL a b) := by
  unfold line3 printL tailV
  rw [rangeL_eq a b h, if_neg (by simp [asksL]), show titL true rangeK = [82, 97, 110, 103, 101] by decide]
  rfl
theorem dig_gap (n : Nat) (t : List UInt8) : headGap (Go.Lib.decDigits n ++ t).reverse = headGap (Go.Lib.decDigits n ++ t).reverse := rfl
theorem dig_no (n : Nat) : ∀ c ∈ Go.Lib.decDigits n, gapB c = false ∧ c ≠ 45 ∧ c ≠ 47 := by
  intro c hc
  have := digN_bd _ (List.all_eq_true.1 (decDigits_all n) c hc)
  have h9 : c ≠ 9 := by rintro rfl; exact absurd this (by decide)
  have h32 : c ≠ 32 := by rintro rfl; exact absurd this (by decide)
  refine ⟨?_, by rintro rfl; exact absurd this (by decide), by rintro rfl; exact absurd this (by decide)⟩
  rw [← gapL_contains]
  unfold gapL
  simp [h9, h32]
theorem dig_last (n : Nat) (x : List UInt8) : headGap (x ++ Go.Lib.decDigits n).reverse = false := by
  rw [List.reverse_append]
  cases e : (Go.Lib.decDigits n).reverse with
  | nil => exact absurd (List.reverse_eq_nil_iff.1 e) (decDigits_ne n)
  | cons c t => exact (dig_no n c (by rw [← List.mem_reverse, e]; exact List.mem_cons_self ..)).1
theorem range_gap (a b : Int) (h : rErr a b = 0) : printOk rangeK (askL a b) = true := by
  unfold printOk
  rw [show nameL rangeK = true by decide, Bool.true_and, Bool.and_eq_true]
  refine ⟨List.all_eq_true.2 fun c hc => askL_plain a b c hc, ?_⟩
  unfold noGap
  rw [rangeL_eq a b h]
  have e1 : headGap (asksL ++ (Go.Lib.decDigits a.toNat ++ 45 :: Go.Lib.decDigits b.toNat)) = false := by
    unfold asksL; rfl
  have e2 : asksL ++ (Go.Lib.decDigits a.toNat ++ 45 :: Go.Lib.decDigits b.toNat) = (asksL ++ (Go.Lib.decDigits a.toNat ++ [45])) ++ Go.Lib.decDigits b.toNat := by simp
  rw [e1, e2, dig_last]
  rfl
theorem upTo_of (c : UInt8) (x t : List UInt8) (h : ∀ d ∈ x, d ≠ c) : upTo c (x ++ c :: t) = x := by
  unfold upTo
  rw [List.takeWhile_append_of_pos (fun d hd => by simpa using h d hd), List.takeWhile_cons_of_neg (by simp)]
  simp
theorem hasB_of (c : UInt8) (x t : List UInt8) (h : ∀ d ∈ x, d ≠ c) : hasB c (x ++ c :: t) = true := by
  unfold hasB
  rw [upTo_of c x t h]
  simp
theorem behind_of (c : UInt8) (x t : List UInt8) (h : ∀ d ∈ x, d ≠ c) : behind c (x ++ c :: t) = t := by
  unfold behind
  rw [upTo_of c x t h, ← List.drop_drop, List.drop_left]
  rfl
theorem numE_dec (n : Nat) (h : n ≤ 9007199254740991) : numE (Go.Lib.decDigits n) = 0 ∧ numV (Go.Lib.decDigits n) = n := by
  have e : numE (Go.Lib.decDigits n) = 0 := by
    unfold numE
    rw [numBad_dec, if_neg (by decide), decV_decDigits, if_neg (by omega)]
  refine ⟨e, ?_⟩
  unfold numV
  rw [if_pos e, decV_decDigits]
theorem asked_ask (a b : Int) (h : rErr a b = 0) : askedE (askL a b) = 0 ∧ askedA (askL a b) = a ∧ askedB (askL a b) = b := by
  obtain ⟨h1, h2, h3⟩ := rErr_ok a b h
  have hd : (askL a b).drop 6 = Go.Lib.decDigits a.toNat ++ 45 :: Go.Lib.decDigits b.toNat := by rw [rangeL_eq a b h]; rfl
  have hno : ∀ d ∈ Go.Lib.decDigits a.toNat, d ≠ 45 := fun d hd => (dig_no _ d hd).2.1
  have hok : askedOk (askL a b) = true := by
    unfold askedOk
    rw [hd, hasB_of _ _ _ hno, rangeL_eq a b h, Bool.and_true]
    exact List.isPrefixOf_iff_prefix.2 (List.prefix_append _ _)
  have hF : askedF (askL a b) = a.toNat := by unfold askedF; rw [hd, upTo_of _ _ _ hno, (numE_dec _ (by omega)).2]
  have hT : askedT (askL a b) = b.toNat := by unfold askedT; rw [hd, behind_of _ _ _ hno, (numE_dec _ (by omega)).2]
  have he : askedE (askL a b) = 0 := by
    unfold askedE
    rw [if_neg (by rw [hok]; decide), hF, hT, hd, upTo_of _ _ _ hno, behind_of _ _ _ hno]
    unfold twoE
    rw [(numE_dec _ (by omega)).1, (numE_dec _ (by omega)).1, if_neg (by decide), Int.toNat_of_nonneg h1, Int.toNat_of_nonneg (by omega)]
    exact h
  refine ⟨he, ?_, ?_⟩
  · unfold askedA; rw [if_pos he, hF]; exact Int.toNat_of_nonneg h1
  · unfold askedB; rw [if_pos he, hT]; exact Int.toNat_of_nonneg (by omega)

theorem fields_req (h : List UInt8) (a b : Int) (hh : hostB h = true) (hr : rErr a b = 0) : fldE [line2 h, line3 a b] = 0 ∧ fldL [line2 h, line3 a b] = [(hostK, h), (rangeK, askL a b)] := by
  obtain ⟨x1, x2, x3⟩ := print_parse hostK h (host_gap h hh)
  obtain ⟨y1, y2, y3⟩ := print_parse rangeK (askL a b) (range_gap a b hr)
  rw [line2_print h hh, line3_print a b hr]
  refine ⟨?_, ?_⟩
  · unfold fldE fldE fldE
    rw [x3, y3]; rfl
  · unfold fldL
    simp [x1, x2, y1, y2]
theorem hits_req (x y : List UInt8) : getE [(hostK, x), (rangeK, y)] hostK = 0 ∧ getS [(hostK, x), (rangeK, y)] hostK = x ∧ getE [(hostK, x), (rangeK, y)] rangeK = 0 ∧ getS [(hostK, x), (rangeK, y)] rangeK = y := by
  have n1 : (rangeK == hostK) = false := by decide
  have n2 : (hostK == rangeK) = false := by decide
  have e1 : hits [(hostK, x), (rangeK, y)] hostK = [x] := by unfold hits; simp [List.filter, n1]
  have e2 : hits [(hostK, x), (rangeK, y)] rangeK = [y] := by unfold hits; simp [List.filter, n2]
  unfold getE getS
  rw [e1, e2]
  exact ⟨rfl, rfl, rfl, rfl⟩
theorem ln_req (p h : List UInt8) (a b : Int) (he : aErr p h a b = 0) : lnE [line1 p, line2 h, line3 a b] = 0 ∧ wordL [line1 p, line2 h, line3 a b] = p := by
  obtain ⟨hp, hh, hr⟩ := aErr_zero p h a b he
  obtain ⟨f1, f2⟩ := fields_req h a b hh hr
  obtain ⟨g1, g2, g3, g4⟩ := hits_req h (askL a b)
  obtain ⟨k1, k2, k3⟩ := asked_ask a b hr
  have hf : firstL [line1 p, line2 h, line3 a b] = 0 := by
    unfold firstL firstW
    rw [if_neg (by simp), show ([line1 p, line2 h, line3 a b] : List (List UInt8)).getD 0 [] = line1 p from rfl, line1_words p hp]
    simp [hp]
  refine ⟨?_, ?_⟩
  · unfold lnE
    rw [hf, List.tail_cons, f1, f2]
    unfold whoE whatE
    rw [g1, g2, g3, g4, hh, k1]
    rfl
  · unfold wordL
    rw [show ([line1 p, line2 h, line3 a b] : List (List UInt8)).getD 0 [] = line1 p from rfl, line1_words p hp]
    rfl
theorem lines_good (p h : List UInt8) (a b : Int) (he : aErr p h a b = 0) (ha : a ≤ 9223372036854775807) (hb : b ≤ 9223372036854775807) : ∀ x ∈ [line1 p, line2 h, line3 a b], goodLine x := by
  obtain ⟨hp, hh, hr⟩ := aErr_zero p h a b he
  intro x hx
  simp only [List.mem_cons, List.not_mem_nil, or_false] at hx
  rcases hx with rfl | rfl | rfl
  · have := putErr_good _ (line1_put p hp); exact ⟨by simp [line1], this.1, this.2⟩
  · have := putErr_good _ (line2_put h hh); exact ⟨by simp [line2], this.1, this.2⟩
  · have := putErr_good _ (line3_put a b ha hb); exact ⟨by simp [line3], this.1, this.2⟩
/-- what is taken of a printed request with anything behind it -/
theorem ask_req (p h : List UInt8) (a b : Int) (he : aErr p h a b = 0) (ha : a ≤ 9223372036854775807) (hb : b ≤ 9223372036854775807) (s : ByteArray) (rest : List UInt8) (hs : s.data.toList = reqL p h a b ++ rest) :
    askE s = 0 ∧ askPath s = p ∧ askHost s = h ∧ askA s = a ∧ askB s = b ∧ askN s = (reqL p h a b).length := by
  obtain ⟨hp, hh, hr⟩ := aErr_zero p h a b he
  have hd : headOf s = ([line1 p, line2 h, line3 a b], ((reqL p h a b).length : Int), 0) := by
    have := head_ok s rest [line1 p, line2 h, line3 a b] [] [] 18 (lines_good p h a b he ha hb) (by simp) (by simp) (by rw [hs]; unfold reqL; simp)
    unfold headOf
    rw [show (0 : Int) = ((([] : List UInt8).length : Nat) : Int) from rfl, this]
    unfold reqL
    simp
  obtain ⟨l1, l2⟩ := ln_req p h a b he
  obtain ⟨f1, f2⟩ := fields_req h a b hh hr
  obtain ⟨g1, g2, g3, g4⟩ := hits_req h (askL a b)
  obtain ⟨k1, k2, k3⟩ := asked_ask a b hr
  have e0 : askE s = 0 := by unfold askE; rw [hd]; simpa using l1
  refine ⟨e0, ?_, ?_, ?_, ?_, ?_⟩
  · unfold askPath; rw [if_pos e0, hd]; exact l2
  · unfold askHost; rw [if_pos e0, hd]; simp only [List.tail_cons]; rw [f2, g2]
  · unfold askA; rw [if_pos e0, hd]; simp only [List.tail_cons]; rw [f2, g4, k2]
  · unfold askB; rw [if_pos e0, hd]; simp only [List.tail_cons]; rw [f2, g4, k3]
  · unfold askN; rw [if_pos e0, hd]
theorem ask_cut (p h : List UInt8) (a b : Int) (he : aErr p h a b = 0) (ha : a ≤ 9223372036854775807) (hb : b ≤ 9223372036854775807) (s : ByteArray) (k : Nat) (hk : k < (reqL p h a b).length) (hs : s.data.toList = (reqL p h a b).take k) : askE s = 3 := by
  have := head_cut s [line1 p, line2 h, line3 a b] [] [] 18 k (lines_good p h a b he ha hb) (by simp) (by simp) (by unfold reqL at hk; simpa using hk) (by rw [hs]; unfold reqL; simp)
  unfold askE headOf
  rw [show (0 : Int) = ((([] : List UInt8).length : Nat) : Int) from rfl, this]
  rfl
/-- what is taken may be printed, and what is printed of it is taken for the same -/
theorem ask_again (s : ByteArray) (h0 : askE s = 0) : aErr (askPath s) (askHost s) (askA s) (askB s) = 0 ∧ 0 < askN s ∧ askN s ≤ (s.size : Int) ∧ 0 ≤ askA s ∧ askA s ≤ 9007199254740990 ∧ 0 ≤ askB s ∧ askB s ≤ 9007199254740990 := by
  have hh : (headOf s).2.2 = 0 := by
    by_cases h : (headOf s).2.2 = 0
    · exact h
    · unfold askE at h0; rw [if_pos h] at h0; exact h0
  have hl : lnE (headOf s).1 = 0 := by unfold askE at h0; rw [if_neg (by simp [hh])] at h0; exact h0
  have h1 : firstL (headOf s).1 = 0 := by
    by_cases h : firstL (headOf s).1 = 0
    · exact h
    · unfold lnE at hl; rw [if_pos h] at hl; exact hl
  unfold lnE at hl
  rw [if_neg (by simp [h1])] at hl
  have h2 : fldE (headOf s).1.tail = 0 := by
    by_cases h : fldE (headOf s).1.tail = 0
    · exact h
    · rw [if_pos h] at hl; exact hl
  rw [if_neg (by simp [h2])] at hl
  have h3 : whoE (fldL (headOf s).1.tail) = 0 := by
    by_cases h : whoE (fldL (headOf s).1.tail) = 0
    · exact h
    · rw [if_pos h] at hl; exact hl
  rw [if_neg (by simp [h3])] at hl
  have hp : pathB (wordL (headOf s).1) = true := by
    unfold firstL firstW at h1
    unfold wordL
    split at h1
    · exact absurd h1 (by decide)
    split at h1
    · exact absurd h1 (by decide)
    split at h1
    · exact absurd h1 (by decide)
    split at h1
    · exact absurd h1 (by decide)
    split at h1
    · exact absurd h1 (by decide)
    · rename_i hx
      simpa using hx
  have hH : hostB (getS (fldL (headOf s).1.tail) hostK) = true := by
    unfold whoE at h3
    split at h3
    · rename_i hx; exact absurd h3 hx
    split at h3
    · exact absurd h3 (by decide)
    · rename_i hx
      simpa using hx
  have hA : askedE (getS (fldL (headOf s).1.tail) rangeK) = 0 := by
    unfold whatE at hl
    split at hl
    · rename_i hx; exact absurd hl hx
    · exact hl
  have hr : rErr (askedF (getS (fldL (headOf s).1.tail) rangeK)) (askedT (getS (fldL (headOf s).1.tail) rangeK)) = 0 := by
    have hA' := hA
    unfold askedE at hA'
    split at hA'
    · exact absurd hA' (by decide)
    split at hA'
    · rename_i hx; exact absurd hA' hx
    · exact hA'
  obtain ⟨n1, n2⟩ := headOf_bd s hh
  obtain ⟨r1, r2, r3⟩ := rErr_ok _ _ hr
  unfold askPath askHost askA askB askN
  rw [if_pos h0, if_pos h0, if_pos h0, if_pos h0, if_pos h0]
  unfold askedA askedB
  rw [if_pos hA, if_pos hA]
  refine ⟨?_, n1, n2, r1, by omega, by omega, r3⟩
  unfold aErr
  rw [if_neg (by simp [hp, hH])]
  exact hr
theorem ask_bad (s : ByteArray) (h0 : askE s ≠ 0) : askPath s = [] ∧ askHost s = [] ∧ askA s = 0 ∧ askB s = 0 ∧ askN s = 0 := by
  unfold askPath askHost askA askB askN
  rw [if_neg h0, if_neg h0, if_neg h0, if_neg h0, if_neg h0]
  exact ⟨rfl, rfl, rfl, rfl, rfl⟩
end Go.Proofs.YtgnkmfjleecmfaaGreatDoor
namespace Go.Proofs.YtgnkmfjleecmfaaGreatDoor
open Go.RowKit

def clen : List UInt8 := [99, 111, 110, 116, 101, 110, 116, 45, 108, 101, 110, 103, 116, 104]
def ownE : List (List UInt8 × List UInt8) → Nat
  | [] => 0
  | f :: t => if f.1 = clen then 22 else if fieldE f.1 f.2 ≠ 0 then fieldE f.1 f.2 else ownE t
/-- what is wrong with a reply that is to be printed -/
def repE (c : Int) (fs : List (List UInt8 × List UInt8)) : Nat := if printErr c ≠ 0 then printErr c else if 15 < fs.length then 21 else ownE fs
def repLines (c : Int) (fs : List (List UInt8 × List UInt8)) (n : Nat) : List (List UInt8) := (printOf c).data.toList :: printL clen (digL n) :: fs.map (fun f => printL f.1 f.2)
def repL (c : Int) (fs : List (List UInt8 × List UInt8)) (b : List UInt8) : List UInt8 := body (repLines c fs b.length) ++ 13 :: 10 :: b
def repS (c : Int) (fs : List (List UInt8 × List UInt8)) (b : List UInt8) : List UInt8 := if repE c fs = 0 then repL c fs b else []
theorem ownE_at (xs : List (List UInt8 × List UInt8)) : ∀ k, (∀ j (hj : j < xs.length), j < k → xs[j].1 ≠ clen ∧ fieldE xs[j].1 xs[j].2 = 0) → ownE xs = ownE (xs.drop k) := by
  induction xs with
  | nil => intro k _; simp
  | cons x t ih =>
    intro k h
    cases k with
    | zero => rfl
    | succ k =>
      have h0 : x.1 ≠ clen ∧ fieldE x.1 x.2 = 0 := h 0 (by simp) (by omega)
      show (if x.1 = clen then 22 else if fieldE x.1 x.2 ≠ 0 then fieldE x.1 x.2 else ownE t) = ownE (t.drop k)
      rw [if_neg h0.1, if_neg (fun hh => hh h0.2)]
      exact ih k (fun j hj hk => h (j + 1) (by simp; omega) (by omega))
theorem ownE_zero (fs : List (List UInt8 × List UInt8)) (h : ownE fs = 0) : ∀ f ∈ fs, f.1 ≠ clen ∧ fieldE f.1 f.2 = 0 := by
  induction fs with
  | nil => intro f hf; simp at hf
  | cons x t ih =>
    unfold ownE at h
    split at h
    · exact absurd h (by decide)
    · rename_i h1
      split at h
      · rename_i h2; exact absurd h h2
      · rename_i h2
        intro f hf
        rcases List.mem_cons.1 hf with rfl | hf
        · exact ⟨h1, Decidable.not_not.1 h2⟩
        · exact ih h f hf
theorem ownE_five (fs : List (List UInt8 × List UInt8)) (h : ∀ f ∈ fs, f.1 ≠ clen ∧ printOk f.1 f.2 = true) : ownE fs = 0 ∨ ownE fs = 5 := by
  induction fs with
  | nil => exact .inl rfl
  | cons x t ih =>
    unfold ownE
    obtain ⟨h1, h2⟩ := h x (List.mem_cons_self ..)
    rw [if_neg h1]
    have h3 : fieldE x.1 x.2 = 0 ∨ fieldE x.1 x.2 = 5 := by
      unfold fieldE; rw [if_pos h2]; split
      · exact .inr rfl
      · exact .inl rfl
    rcases h3 with h3 | h3
    · rw [h3, if_neg (by decide)]; exact ih (fun f hf => h f (List.mem_cons_of_mem _ hf))
    · rw [h3, if_pos (by decide)]; exact .inr rfl
theorem repE_zero (c : Int) (fs : List (List UInt8 × List UInt8)) (h : repE c fs = 0) : 100 ≤ c ∧ c ≤ 599 ∧ fs.length ≤ 15 ∧ ∀ f ∈ fs, f.1 ≠ clen ∧ fieldE f.1 f.2 = 0 := by
  unfold repE at h
  split at h
  · rename_i hx; exact absurd h hx
  · rename_i hx
    split at h
    · exact absurd h (by decide)
    · have hc : classOf c ≠ 0 := fun e => hx (by unfold printErr; rw [if_pos e]; decide)
      rw [Ne, class_iff] at hc
      exact ⟨by omega, by omega, by omega, ownE_zero fs h⟩
theorem clen_named : nameL clen = true := by decide
theorem dig_gapless (n : Nat) : noGap (Go.Lib.decDigits n) = true := by
  have e1 : headGap (Go.Lib.decDigits n) = false := by
    cases e : Go.Lib.decDigits n with
    | nil => rfl
    | cons c t => exact (dig_no n c (by rw [e]; exact List.mem_cons_self ..)).1
  unfold noGap
  rw [e1]
  have := dig_last n []
  rw [List.nil_append] at this
  rw [this]; rfl
theorem digL_nat (n : Nat) : digL (n : Int) = Go.Lib.decDigits n := by unfold digL; rw [if_neg (by omega), Int.toNat_natCast]
theorem clen_ok (n : Nat) (hn : n ≤ 1000000) : fieldE clen (digL n) = 0 := by
  have hp : printOk clen (digL n) = true := by
    unfold printOk
    rw [clen_named, Bool.true_and, Bool.and_eq_true]
    refine ⟨List.all_eq_true.2 fun c hc => digL_plain n c hc, ?_⟩
    rw [digL_nat]; exact dig_gapless n
  unfold fieldE
  rw [if_pos hp, if_neg]
  have := decDigits_len n (by omega)
  unfold printL tailV
  rw [digL_nat]
  split
  · simp [titL_len, clen]
  · simp only [List.length_append, List.length_cons, titL_len]
    rw [show clen.length = 14 from rfl]; omega
theorem printL_ne (n v : List UInt8) : printL n v ≠ [] := by unfold printL; simp
theorem good_print (n v : List UInt8) (h : fieldE n v = 0) : goodLine (printL n v) := by
  have := putErr_good _ (print_put n v h)
  exact ⟨printL_ne n v, this.1, this.2⟩
theorem printOf_line (c : Int) (h1 : 100 ≤ c) (h2 : c ≤ 599) : printOf c = statusLine c := by
  unfold printOf; rw [if_neg (by rw [class_iff]; omega)]
theorem good_status (c : Int) (h1 : 100 ≤ c) (h2 : c ≤ 599) : goodLine (printOf c).data.toList ∧ statusOf (printOf c).data.toList = (c, 0) := by
  obtain ⟨n, rfl⟩ : ∃ n : Nat, c = n := ⟨c.toNat, by omega⟩
  rw [printOf_line _ h1 h2]
  have := putErr_good _ (status_print_put n (by omega) (by omega))
  refine ⟨⟨?_, this.1, this.2⟩, status_print_parse n (by omega) (by omega)⟩
  rw [statusLine_data n (by omega) (by omega)]; simp [versionL]
theorem good_lines (c : Int) (fs : List (List UInt8 × List UInt8)) (n : Nat) (h : repE c fs = 0) (hn : n ≤ 1000000) : (∀ x ∈ repLines c fs n, goodLine x) ∧ (repLines c fs n).length ≤ 17 := by
  obtain ⟨h1, h2, h3, h4⟩ := repE_zero c fs h
  refine ⟨?_, by unfold repLines; simp; omega⟩
  intro x hx
  unfold repLines at hx
  rcases List.mem_cons.1 hx with rfl | hx
  · exact (good_status c h1 h2).1
  rcases List.mem_cons.1 hx with rfl | hx
  · exact good_print _ _ (clen_ok n hn)
  · obtain ⟨f, hf, rfl⟩ := List.mem_map.1 hx
    exact good_print _ _ (h4 f hf).2
theorem fldE_cons (x : List UInt8) (t : List (List UInt8)) (h : parseE x = 0) : fldE (x :: t) = fldE t := if_neg (fun hh => hh h)
theorem fld_print (fs : List (List UInt8 × List UInt8)) (h : ∀ f ∈ fs, fieldE f.1 f.2 = 0) : fldE (fs.map (fun f => printL f.1 f.2)) = 0 ∧ fldL (fs.map (fun f => printL f.1 f.2)) = fs := by
  induction fs with
  | nil => exact ⟨rfl, rfl⟩
  | cons f t ih =>
    obtain ⟨x1, x2, x3⟩ := print_parse f.1 f.2 (fieldE_zero _ _ (h f (List.mem_cons_self ..))).1
    obtain ⟨i1, i2⟩ := ih (fun g hg => h g (List.mem_cons_of_mem _ hg))
    refine ⟨by rw [List.map_cons, fldE_cons _ _ x3, i1], ?_⟩
    unfold fldL at i2 ⊢
    rw [List.map_cons, List.map_cons, i2, x1, x2]
/-- what is wrong with a head's lines; its code, its body's length, its other fields -/
def hdE (ls : List (List UInt8)) : Nat := if ls = [] then 4 else if (statusOf (ls.getD 0 [])).2 ≠ 0 then (statusOf (ls.getD 0 [])).2 else if fldE ls.tail ≠ 0 then fldE ls.tail else if getE (fldL ls.tail) clen ≠ 0 then getE (fldL ls.tail) clen else numE (getS (fldL ls.tail) clen)
def hdC (ls : List (List UInt8)) : Int := (statusOf (ls.getD 0 [])).1
def hdN (ls : List (List UInt8)) : Nat := numV (getS (fldL ls.tail) clen)
def restF (fs : List (List UInt8 × List UInt8)) : List (List UInt8 × List UInt8) := fs.filter (fun f => f.1 != clen)
def takE (s : ByteArray) (most : Int) : Nat := if (headOf s).2.2 ≠ 0 then (headOf s).2.2 else if hdE (headOf s).1 ≠ 0 then hdE (headOf s).1 else if most < (hdN (headOf s).1 : Int) then 5 else if (s.size : Int) - (headOf s).2.1 < (hdN (headOf s).1 : Int) then 3 else 0
def takC (s : ByteArray) (most : Int) : Int := if takE s most = 0 then hdC (headOf s).1 else 0
def takF (s : ByteArray) (most : Int) : List (List UInt8 × List UInt8) := if takE s most = 0 then restF (fldL (headOf s).1.tail) else []
def takB (s : ByteArray) (most : Int) : List UInt8 := if takE s most = 0 then (s.data.toList.take ((headOf s).2.1.toNat + hdN (headOf s).1)).drop (headOf s).2.1.toNat else []
def takN (s : ByteArray) (most : Int) : Int := if takE s most = 0 then (headOf s).2.1 + (hdN (headOf s).1 : Int) else 0
theorem tak_bad (s : ByteArray) (most : Int) (h : takE s most ≠ 0) : takC s most = 0 ∧ takF s most = [] ∧ takB s most = [] ∧ takN s most = 0 := by
  unfold takC takF takB takN
  rw [if_neg h, if_neg h, if_neg h, if_neg h]
  exact ⟨rfl, rfl, rfl, rfl⟩
theorem rest_none (fs : List (List UInt8 × List UInt8)) (h : ∀ f ∈ fs, f.1 ≠ clen) : restF fs = fs ∧ hits fs clen = [] := by
  refine ⟨List.filter_eq_self.2 (fun f hf => bne_iff_ne.2 (h f hf)), ?_⟩
  unfold hits
  rw [List.filter_eq_nil_iff.2 (fun f hf => by simpa using h f hf)]; rfl
theorem hd_rep (c : Int) (fs : List (List UInt8 × List UInt8)) (n : Nat) (h : repE c fs = 0) (hn : n ≤ 1000000) :
    hdE (repLines c fs n) = 0 ∧ hdC (repLines c fs n) = c ∧ hdN (repLines c fs n) = n ∧ restF (fldL (repLines c fs n).tail) = fs := by
  obtain ⟨h1, h2, h3, h4⟩ := repE_zero c fs h
  have hs := (good_status c h1 h2).2
  obtain ⟨i1, i2⟩ := fld_print fs (fun f hf => (h4 f hf).2)
  obtain ⟨x1, x2, x3⟩ := print_parse clen (digL n) (fieldE_zero _ _ (clen_ok n hn)).1
  obtain ⟨r1, r2⟩ := rest_none fs (fun f hf => (h4 f hf).1)
  have hg : (repLines c fs n).getD 0 [] = (printOf c).data.toList := rfl
  have ht : (repLines c fs n).tail = printL clen (digL n) :: fs.map (fun f => printL f.1 f.2) := rfl
  have hF : fldL (repLines c fs n).tail = (clen, digL n) :: fs := by
    rw [ht]
    unfold fldL at i2 ⊢
    rw [List.map_cons, i2, x1, x2]
  have hE : fldE (repLines c fs n).tail = 0 := by rw [ht, fldE_cons _ _ x3, i1]
  have hh : hits ((clen, digL n) :: fs) clen = [digL n] := by
    unfold hits at r2 ⊢
    rw [List.filter_cons_of_pos (by simp), List.map_cons, r2]
  obtain ⟨n1, n2⟩ := numE_dec n (by omega)
  refine ⟨?_, ?_, ?_, ?_⟩
  · unfold hdE
    rw [if_neg (by unfold repLines; simp), hg, hs, if_neg (by simp), hE, if_neg (by simp), hF]
    unfold getE getS
    rw [hh]
    show (if (0 : Nat) ≠ 0 then 0 else numE (digL n)) = 0
    rw [if_neg (by simp), digL_nat, n1]
  · unfold hdC; rw [hg, hs]
  · unfold hdN; rw [hF]; unfold getS; rw [hh]
    show numV (digL n) = n
    rw [digL_nat, n2]
  · rw [hF]
    unfold restF at r1 ⊢
    rw [List.filter_cons_of_neg (by simp), r1]
theorem head_rep (c : Int) (fs : List (List UInt8 × List UInt8)) (b rest : List UInt8) (s : ByteArray) (h : repE c fs = 0) (hn : b.length ≤ 1000000) (hs : s.data.toList = body (repLines c fs b.length) ++ 13 :: 10 :: rest) :
    headOf s = (repLines c fs b.length, ((body (repLines c fs b.length)).length : Int) + 2, 0) := by
  obtain ⟨g1, g2⟩ := good_lines c fs b.length h hn
  have := head_ok s rest (repLines c fs b.length) [] [] 18 g1 (by simpa using g2) (by simp) (by simpa using hs)
  unfold headOf
  rw [show (0 : Int) = ((([] : List UInt8).length : Nat) : Int) from rfl, this]
  simp
/-- what is taken of a printed reply with anything behind it -/
theorem rep_take (c : Int) (fs : List (List UInt8 × List UInt8)) (b rest : List UInt8) (s : ByteArray) (most : Int) (h : repE c fs = 0) (hn : b.length ≤ 1000000) (hs : s.data.toList = repL c fs b ++ rest) (hm : (b.length : Int) ≤ most) :
    takE s most = 0 ∧ takC s most = c ∧ takF s most = fs ∧ takB s most = b ∧ takN s most = (repL c fs b).length := by
  have hd := head_rep c fs b (b ++ rest) s h hn (by rw [hs]; unfold repL; simp)
  obtain ⟨e1, e2, e3, e4⟩ := hd_rep c fs b.length h hn
  have hsz : s.size = (body (repLines c fs b.length)).length + 2 + b.length + rest.length := by
    rw [← size_len, hs]; unfold repL; simp only [List.length_append, List.length_cons]; omega
  have hE : takE s most = 0 := by
    unfold takE
    rw [hd]
    simp only [e1, e3]
    rw [if_neg (by simp), if_neg (by simp), if_neg (by omega), if_neg (by omega)]
  refine ⟨hE, ?_, ?_, ?_, ?_⟩
  · unfold takC; rw [if_pos hE, hd]; exact e2
  · unfold takF; rw [if_pos hE, hd]; exact e4
  · unfold takB; rw [if_pos hE, hd]
    simp only [e3]
    have ht : (((body (repLines c fs b.length)).length : Int) + 2).toNat = (body (repLines c fs b.length) ++ [13, 10]).length := by simp; omega
    rw [ht, hs]
    unfold repL
    have e5 : body (repLines c fs b.length) ++ 13 :: 10 :: b ++ rest = (body (repLines c fs b.length) ++ [13, 10]) ++ (b ++ rest) := by simp
    rw [e5, List.take_length_add_append, List.drop_left, List.take_left]
  · unfold takN; rw [if_pos hE, hd]
    simp only [e3]
    unfold repL
    simp only [List.length_append, List.length_cons]; omega
theorem rep_long (c : Int) (fs : List (List UInt8 × List UInt8)) (b rest : List UInt8) (s : ByteArray) (most : Int) (h : repE c fs = 0) (hn : b.length ≤ 1000000) (hs : s.data.toList = repL c fs b ++ rest) (hm : most < (b.length : Int)) : takE s most = 5 := by
  have hd := head_rep c fs b (b ++ rest) s h hn (by rw [hs]; unfold repL; simp)
  obtain ⟨e1, e2, e3, e4⟩ := hd_rep c fs b.length h hn
  unfold takE
  rw [hd]
  simp only [e1, e3]
  rw [if_neg (by simp), if_neg (by simp), if_pos hm]
theorem rep_cut (c : Int) (fs : List (List UInt8 × List UInt8)) (b : List UInt8) (s : ByteArray) (k : Nat) (h : repE c fs = 0) (hn : b.length ≤ 1000000) (hk : k < (repL c fs b).length) (hs : s.data.toList = (repL c fs b).take k) : takE s (b.length : Int) = 3 := by
  obtain ⟨g1, g2⟩ := good_lines c fs b.length h hn
  by_cases hb : k < (body (repLines c fs b.length)).length + 2
  · have hs2 : s.data.toList = (body (repLines c fs b.length) ++ [13, 10]).take k := by
      rw [hs]; unfold repL
      have e5 : body (repLines c fs b.length) ++ 13 :: 10 :: b = (body (repLines c fs b.length) ++ [13, 10]) ++ b := by simp
      rw [e5, List.take_append_of_le_length (by simp; omega)]
    have := head_cut s (repLines c fs b.length) [] [] 18 k g1 (by simpa using g2) (by simp) hb (by rw [hs2]; simp)
    have hd : headOf s = ([], 0, 3) := by
      unfold headOf
      rw [show (0 : Int) = ((([] : List UInt8).length : Nat) : Int) from rfl, this]
      rfl
    unfold takE
    rw [hd]
    rfl
  · have hl : (repL c fs b).length = (body (repLines c fs b.length)).length + 2 + b.length := by unfold repL; simp only [List.length_append, List.length_cons]; omega
    have hd := head_rep c fs b (b.take (k - ((body (repLines c fs b.length)).length + 2))) s h hn (by
      rw [hs]; unfold repL
      have e5 : ∀ x, body (repLines c fs b.length) ++ 13 :: 10 :: x = (body (repLines c fs b.length) ++ [13, 10]) ++ x := fun x => by simp
      rw [e5, e5, List.take_append, List.take_of_length_le (by simp; omega)]
      simp)
    obtain ⟨e1, e2, e3, e4⟩ := hd_rep c fs b.length h hn
    have hsz : s.size = k := by rw [← size_len, hs, List.length_take]; omega
    unfold takE
    rw [hd]
    simp only [e1, e3]
    rw [if_neg (by simp), if_neg (by simp), if_neg (by omega), if_pos (by omega)]
theorem tak_zero (s : ByteArray) (most : Int) (h : takE s most = 0) : (headOf s).2.2 = 0 ∧ hdE (headOf s).1 = 0 ∧ (hdN (headOf s).1 : Int) ≤ most ∧ (hdN (headOf s).1 : Int) ≤ (s.size : Int) - (headOf s).2.1 := by
  unfold takE at h
  split at h
  · rename_i hx; exact absurd h hx
  rename_i h1
  split at h
  · rename_i hx; exact absurd h hx
  rename_i h2
  split at h
  · exact absurd h (by decide)
  split at h
  · exact absurd h (by decide)
  exact ⟨Decidable.not_not.1 h1, Decidable.not_not.1 h2, by omega, by omega⟩
theorem hdE_zero (ls : List (List UInt8)) (h : hdE ls = 0) : ls ≠ [] ∧ (statusOf (ls.getD 0 [])).2 = 0 ∧ fldE ls.tail = 0 ∧ getE (fldL ls.tail) clen = 0 ∧ numE (getS (fldL ls.tail) clen) = 0 := by
  unfold hdE at h
  split at h
  · exact absurd h (by decide)
  rename_i h1
  split at h
  · rename_i hx; exact absurd h hx
  rename_i h2
  split at h
  · rename_i hx; exact absurd h hx
  rename_i h3
  split at h
  · rename_i hx; exact absurd h hx
  rename_i h4
  exact ⟨h1, Decidable.not_not.1 h2, Decidable.not_not.1 h3, Decidable.not_not.1 h4, h⟩
theorem fldE_none (ls : List (List UInt8)) (h : fldE ls = 0) : ∀ x ∈ ls, parseE x = 0 := by
  induction ls with
  | nil => intro x hx; simp at hx
  | cons y t ih =>
    unfold fldE at h
    split at h
    · rename_i hx; exact absurd h hx
    · rename_i hx
      intro x hm
      rcases List.mem_cons.1 hm with rfl | hm
      · exact Decidable.not_not.1 hx
      · exact ih h x hm
theorem split_one (fs : List (List UInt8 × List UInt8)) (h : getE fs clen = 0) : ∃ a x b, fs = a ++ x :: b ∧ x.1 = clen ∧ (∀ y ∈ a, y.1 ≠ clen) ∧ (∀ y ∈ b, y.1 ≠ clen) ∧ restF fs = a ++ b := by
  have hl : (fs.filter (fun f => f.1 == clen)).length = 1 := by
    unfold getE hits at h
    cases e : (fs.filter (fun f => f.1 == clen)) with
    | nil => rw [e] at h; exact absurd h (by decide)
    | cons x t =>
      cases t with
      | nil => rfl
      | cons y u => rw [e] at h; exact absurd h (by simp)
  clear h
  induction fs with
  | nil => simp at hl
  | cons f t ih =>
    by_cases hf : f.1 = clen
    · rw [List.filter_cons_of_pos (by simp [hf]), List.length_cons] at hl
      have hn : t.filter (fun f => f.1 == clen) = [] := List.length_eq_zero_iff.1 (by omega)
      have ht : ∀ y ∈ t, y.1 ≠ clen := fun y hy e => by
        have := List.filter_eq_nil_iff.1 hn y hy
        simp [e] at this
      refine ⟨[], f, t, rfl, hf, fun y hy => by simp at hy, ht, ?_⟩
      unfold restF
      rw [List.filter_cons_of_neg (by simp [hf])]
      exact (rest_none t ht).1
    · rw [List.filter_cons_of_neg (by simp [hf])] at hl
      obtain ⟨a, x, b, e1, e2, e3, e4, e5⟩ := ih hl
      refine ⟨f :: a, x, b, by rw [e1]; rfl, e2, ?_, e4, ?_⟩
      · intro y hy
        rcases List.mem_cons.1 hy with rfl | hy
        · exact hf
        · exact e3 y hy
      · unfold restF at e5 ⊢
        rw [List.filter_cons_of_pos (by simp [hf]), e5]; rfl
theorem get_one (fs : List (List UInt8 × List UInt8)) (h : getE fs clen = 0) : (restF fs).length + 1 = fs.length := by
  obtain ⟨a, x, b, e1, -, -, -, e2⟩ := split_one fs h
  rw [e2, e1]; simp; omega
theorem code_status (l : List UInt8) (h : (statusOf l).2 = 0) : 100 ≤ (statusOf l).1 ∧ (statusOf l).1 ≤ 599 := by
  have hc : ∀ r, (codeOf r).2 = 0 → classOf (codeOf r).1 ≠ 0 := by
    intro r hr
    match r with
    | [] => exact absurd hr (by decide)
    | [_] => exact absurd hr (by show ¬ (4 = 0); decide)
    | [_, _] => exact absurd hr (by show ¬ (4 = 0); decide)
    | a :: b :: c :: t =>
      rw [codeOf_cons] at hr ⊢
      split at hr
      · exact absurd hr (by decide)
      · rename_i h1
        rw [if_neg h1]
        split at hr
        · exact absurd hr (by decide)
        · rename_i h2
          rw [if_neg h2]
          split at hr
          · exact absurd hr (by decide)
          · rename_i h3
            rw [if_neg h3]; exact h3
  have key : classOf (statusOf l).1 ≠ 0 := by
    unfold statusOf at h ⊢
    split at h
    · exact absurd h (by decide)
    · rename_i h1
      rw [if_neg h1]
      split at h
      · exact absurd h (by decide)
      · rename_i h2
        rw [if_neg h2]
        exact hc _ h
  rw [Ne, class_iff] at key
  omega
/-- what is taken may be printed, unless a field is too long -/
theorem rep_again (s : ByteArray) (most : Int) (h : takE s most = 0) :
    (repE (takC s most) (takF s most) = 0 ∨ repE (takC s most) (takF s most) = 5) ∧ 0 < takN s most ∧ takN s most ≤ (s.size : Int) ∧ ((takB s most).length : Int) ≤ most ∧ ((takB s most).length : Int) ≤ takN s most ∧ ((s.data.toList.take (takN s most).toNat).drop ((takN s most).toNat - (takB s most).length)) = takB s most := by
  obtain ⟨h1, h2, h3, h4⟩ := tak_zero s most h
  obtain ⟨k1, k2, k3, k4, k5⟩ := hdE_zero _ h2
  obtain ⟨n1, n2⟩ := headOf_bd s h1
  obtain ⟨b1, b2⟩ := headOf_bound s
  have hC : takC s most = hdC (headOf s).1 := if_pos h
  have hF : takF s most = restF (fldL (headOf s).1.tail) := if_pos h
  have hN : takN s most = (headOf s).2.1 + (hdN (headOf s).1 : Int) := if_pos h
  have hB : takB s most = (s.data.toList.take ((headOf s).2.1.toNat + hdN (headOf s).1)).drop (headOf s).2.1.toNat := if_pos h
  have hbl : (takB s most).length = hdN (headOf s).1 := by
    rw [hB, List.length_drop, List.length_take, size_len]; omega
  have hle : (fldL (headOf s).1.tail).length ≤ 16 := by unfold fldL; rw [List.length_map, List.length_tail]; omega
  have hone := get_one _ k4
  have hcode := code_status _ k2
  refine ⟨?_, by rw [hN]; omega, by rw [hN]; omega, by rw [hbl]; omega, by rw [hbl, hN]; omega, ?_⟩
  · rw [hC, hF]
    unfold repE
    have hp : printErr (hdC (headOf s).1) = 0 := by
      unfold printErr hdC
      rw [if_neg]
      rw [class_iff]; omega
    rw [hp, if_neg (by simp), if_neg (by omega)]
    refine ownE_five _ (fun f hf => ?_)
    unfold restF at hf
    obtain ⟨hm, hc⟩ := List.mem_filter.1 hf
    refine ⟨bne_iff_ne.1 hc, ?_⟩
    unfold fldL at hm
    obtain ⟨x, hx, rfl⟩ := List.mem_map.1 hm
    exact parse_print x (fldE_none _ k3 x hx)
  · rw [hbl, hN]
    have e1 : ((headOf s).2.1 + (hdN (headOf s).1 : Int)).toNat = (headOf s).2.1.toNat + hdN (headOf s).1 := by omega
    rw [e1, Nat.add_sub_cancel, hB]
end Go.Proofs.YtgnkmfjleecmfaaGreatDoor
namespace Go.Proofs
open Go.Shelf
def layCloneF_ren : Go.Shelf.Ren := ⟨fun | 41 => 82 | n => n, fun | 22 => 61 | 23 => 149 | 4 => 4 | n => n, fun | n => n⟩
theorem layCloneF : Go.Proofs.SlLaysE0.n41 Tryz.prog layCloneF_ren := {
  mixed := by kernel_rfl
  f41 := ⟨Tryz.f82.name, by decide, Tryz.func82.trans (congrArg some (by kernel_rfl))⟩
  t4 := Tryz.underlying4
  a4 := Tryz.isAgg4
  z4 := Tryz.sizeOf4
  v4 := Tryz.zeroValue4
  t22 := Tryz.underlying61
  a22 := Tryz.isAgg61
  z22 := Tryz.sizeOf61
  v22 := Tryz.zeroValue61 }
def layIndexF_ren : Go.Shelf.Ren := ⟨fun | 6 => 135 | n => n, fun | 22 => 61 | 23 => 149 | 25 => 151 | 3 => 3 | 0 => 0 | 4 => 4 | n => n, fun | n => n⟩
theorem layIndexF : Go.Proofs.SlLaysH0.n6 Tryz.prog layIndexF_ren := {
  mixed := by kernel_rfl
  f6 := ⟨Tryz.f135.name, by decide, Tryz.func135.trans (congrArg some (by kernel_rfl))⟩
  t0 := Tryz.underlying0
  a0 := Tryz.isAgg0
  z0 := Tryz.sizeOf0
  v0 := Tryz.zeroValue0
  t3 := Tryz.underlying3
  a3 := Tryz.isAgg3
  z3 := Tryz.sizeOf3
  v3 := Tryz.zeroValue3
  t4 := Tryz.underlying4
  a4 := Tryz.isAgg4
  z4 := Tryz.sizeOf4
  v4 := Tryz.zeroValue4
  t22 := Tryz.underlying61
  a22 := Tryz.isAgg61
  z22 := Tryz.sizeOf61
  v22 := Tryz.zeroValue61
  t25 := Tryz.underlying151
  a25 := Tryz.isAgg151
  z25 := Tryz.sizeOf151
  v25 := Tryz.zeroValue151 }
end Go.Proofs
namespace Go.Proofs.YtgnkmfjleecmfaaGreatDoor
open Go.RowKit Go.Shelf Go.Lib
theorem bs_same (x y : List UInt8) : (bs x).toList = (bs y).toList ↔ x = y := by
  rw [ByteArray.toList_eq, ByteArray.toList_eq, bs_data, bs_data]
/-- a field's two cells -/
def encF (x : List UInt8 × List UInt8) : List Value := [.string (bs x.1), .string (bs x.2)]
theorem eq_field_in (d : Nat) (x y : List UInt8 × List UInt8) (w : World) : (Op.equalIn (d + 2) 149 (.agg (encF x).toArray) (.agg (encF y).toArray)).run Tryz.prog w = .ok (decide (x = y)) w := by
  have u3 := Tryz.underlying9
  have hS : Tryz.prog.underlying 149 = some (.struct (Tryz.prog.fieldsOf 149)) := by kernel_rfl
  have hp : Tryz.prog.stoodInHeld 149 = false := by kernel_rfl
  simp only [encF]
  rw [run_equalIn_agg w (d + 1) 149 _ _ hS hp]
  simp only [Program.fieldsOf, Tryz.underlying149]
  go_simp
  obtain ⟨x1, x2⟩ := x
  obtain ⟨y1, y2⟩ := y
  by_cases h1 : x1 = y1 <;> by_cases h2 : x2 = y2 <;> simp [h1, h2, bs_same]
theorem neqF : NeqAt Tryz.prog 149 (fun x => .agg (encF x).toArray) (fun x y => decide (x = y)) := by
  refine ⟨fun x y w => ?_, GuardAt.agg _ (by kernel_rfl)⟩
  rw [run_neq_struct, show (10000 : Nat) = 9998 + 2 from rfl, eq_field_in]; rfl
theorem allEq_dec (xs ys : List (List UInt8 × List UInt8)) : Lib.allEq (fun x y => decide (x = y)) xs ys = decide (xs = ys) := by
  induction xs generalizing ys with
  | nil => cases ys <;> simp [Lib.allEq]
  | cons x t ih =>
    cases ys with
    | nil => simp [Lib.allEq]
    | cons y u =>
      rw [Lib.allEq, ih u]
      by_cases h1 : x = y <;> by_cases h2 : t = u <;> simp [h1, h2]
theorem fcell {w : World} {b o : Nat} {fs : List (List UInt8 × List UInt8)} (h : ∀ j (hj : j < fs.length), w.cell? ⟨b, o + j * 2, none⟩ = some (.string (bs fs[j].1)) ∧ w.cell? ⟨b, o + j * 2 + 1, none⟩ = some (.string (bs fs[j].2))) :
    ∀ j, j < fs.length → ∀ i v, (encF fs[j]!)[i]? = some v → w.cell? ⟨b, o + j * 2 + i, none⟩ = some v := by
  intro j hj i v hv
  rw [getElem!_pos fs j hj] at hv
  obtain ⟨h1, h2⟩ := h j hj
  match i, hv with
  | 0, hv => simp only [encF, List.getElem?_cons_zero, Option.some.injEq] at hv; subst hv; exact h1
  | 1, hv => simp only [encF, List.getElem?_cons_succ, List.getElem?_cons_zero, Option.some.injEq] at hv; subst hv; exact h2
theorem info_fieldS : (Tryz.prog.info? 149).map (fun i => (i.zero, i.size, i.bytes)) = some (some (.agg #[.string ByteArray.empty, .string ByteArray.empty]), 2, 32) := by kernel_rfl
theorem fcells_one (fs : List (List UInt8 × List UInt8)) : ∀ u ∈ fcells fs, u.oneCell' = true := by
  induction fs with
  | nil => intro u hu; cases hu
  | cons f t ih =>
    intro u hu
    rcases List.mem_cons.1 hu with rfl | hu
    · rfl
    rcases List.mem_cons.1 hu with rfl | hu
    · rfl
    · exact ih u hu
theorem fcells_at {w : World} {b o : Nat} {fs : List (List UInt8 × List UInt8)} (h : ∀ j (hj : j < fs.length), w.cell? ⟨b, o + j * 2, none⟩ = some (.string (bs fs[j].1)) ∧ w.cell? ⟨b, o + j * 2 + 1, none⟩ = some (.string (bs fs[j].2))) :
    ∀ j u, (fcells fs)[j]? = some u → w.cell? ⟨b, o + j, none⟩ = some u := by
  intro j u hu
  have hj : j < fs.length * 2 := by rw [← fcells_length]; exact (List.getElem?_eq_some_iff.1 hu).1
  have hk : j / 2 < fs.length := by omega
  obtain ⟨g1, g2⟩ := fcells_get fs (j / 2) hk
  obtain ⟨h1, h2⟩ := h (j / 2) hk
  rcases Nat.mod_two_eq_zero_or_one j with e | e
  · have e2 : j / 2 * 2 = j := by omega
    rw [e2] at g1 h1
    rw [g1] at hu
    rw [← Option.some.inj hu]
    exact h1
  · have e2 : j / 2 * 2 + 1 = j := by omega
    have e3 : o + j / 2 * 2 + 1 = o + j := by omega
    rw [e2] at g2
    rw [e3] at h2
    rw [g2] at hu
    rw [← Option.some.inj hu]
    exact h2
/-- slices.Clone of fields that are there: the same fields in memory of the call's own -/
theorem clone_fields (v : Value) (fs : List (List UInt8 × List UInt8)) (w : World) (h : HoldsF w v fs) (hne : fs ≠ []) (hl : fs.length ≤ 1000000) :
    Calls Tryz.prog 82 #[v] w fun e w' => ∃ v', e = .returned v' ∧ w'.ownsRow w.heap.size 149 2 v' fs.length (fcells fs) ∧ Below w.heap.size w w' := by
  obtain ⟨a, c, rfl, h1, h2⟩ := h
  obtain ⟨b, o, rfl, hlt, hc⟩ := h2 hne
  have hi := info_fieldS
  cases e : Tryz.prog.info? 149 with
  | none => rw [e] at hi; cases hi
  | some i =>
    rw [e] at hi
    simp only [Option.map_some, Option.some.injEq, Prod.mk.injEq] at hi
    obtain ⟨i1, i2, i3⟩ := hi
    refine (AnyE.slices_Clone layCloneF i _ 2 32 e i1 i2 i3 rfl (by decide) Tryz.sizeOf149 b o fs.length c (fcells fs) w (fcells_length fs) (by unfold maxLen; omega) (by omega) (fcells_at hc) (fcells_one fs)).mono ?_
    rintro e w' ⟨v', rfl, h3, -, h4⟩
    exact ⟨v', rfl, h3, h4⟩
/-- slices.Clone of no field -/
theorem clone_empty (a : Option Addr) (c : Nat) (w : World) (ha : ∀ p, a = some p → ∃ b o, p = ⟨b, o, none⟩) :
    Calls Tryz.prog 82 #[.slice a 0 c] w fun e w' => ∃ v', e = .returned v' ∧ w'.ownsRow w.heap.size 149 2 v' 0 [] ∧ Below w.heap.size w w' := by
  cases a with
  | none =>
    refine (AnyE.slices_Clone_nil layCloneF 0 c w).mono ?_
    rintro e w' ⟨rfl, rfl⟩
    exact ⟨_, rfl, ⟨rfl, .inl ⟨rfl, rfl⟩⟩, Below.refl _ _⟩
  | some p =>
    obtain ⟨b, o, rfl⟩ := ha p rfl
    have hi := info_fieldS
    cases e : Tryz.prog.info? 149 with
    | none => rw [e] at hi; cases hi
    | some i =>
      rw [e] at hi
      simp only [Option.map_some, Option.some.injEq, Prod.mk.injEq] at hi
      obtain ⟨i1, i2, i3⟩ := hi
      refine (AnyE.slices_Clone layCloneF i _ 2 32 e i1 i2 i3 rfl (by decide) Tryz.sizeOf149 b o 0 c [] w rfl (Nat.zero_le _) (by omega) (fun j u hu => by simp at hu) (fun u hu => by cases hu)).mono ?_
      rintro e w' ⟨v', rfl, h3, -, h4⟩
      exact ⟨v', rfl, h3, h4⟩
end Go.Proofs.YtgnkmfjleecmfaaGreatDoor
namespace Go.Proofs.YtgnkmfjleecmfaaGreatDoor
open Go.RowKit
variable {P : Program}
theorem run_copy_wide (w : World) (dT sT ty elem : TypeId) (k m b o dLen dCap : Nat) (a : Addr) (sLen sCap : Nat) (cs : List Value)
    (hu : P.underlying dT = some (.slice elem)) (hs : (P.info? elem).map (·.size) = some k) (hm : Nat.min sLen dLen = m) (hn : m * k = cs.length)
    (hsrc : ∀ j v, cs[j]? = some v → w.cell? (a.add j) = some v) (hc : ∀ j, j < cs.length → (w.cell? ⟨b, o + j, none⟩).isSome = true) (hf : ∀ j, j < cs.length → w.frozen? ⟨b, o + j, none⟩ = false) (h1 : ∀ v ∈ cs, v.oneCell' = true) :
    (Builtin.copy_ #[dT, sT] ty #[.slice (some ⟨b, o, none⟩) dLen dCap, .slice (some a) sLen sCap]).run P w = .ok (goInt m) (w.setCells b o cs) := by
  have hl := run_loadCells_list (P := P) w a cs hsrc
  have hst := run_storeCells_cells (P := P) b o cs 0 w (by simpa using hc) (by simpa using hf) h1
  cases hq : P.info? elem with
  | none => simp [hq] at hs
  | some i =>
    have hi : i.size = k := by simpa [hq] using hs
    simp [Builtin.copy_, run_underlying hu, Builtin.lenOf, Builtin.firstCells, sizeOf, typeInfo, hq, hi, hm, hn, hl, hst]
theorem run_copy_row_wide (w : World) (dT sT ty elem : TypeId) (k m g o dLen dCap : Nat) (a : Addr) (sLen sCap : Nat) (cur : Array Value) (t : TypeId) (cs : List Value)
    (hu : P.underlying dT = some (.slice elem)) (hs : (P.info? elem).map (·.size) = some k) (hm : Nat.min sLen dLen = m) (hn : m * k = cs.length)
    (hg : w.heap[g]? = some (.cells cur t (0, 0)))
    (hsrc : ∀ j v, cs[j]? = some v → w.cell? (a.add j) = some v) (hfit : o + cs.length ≤ cur.size) (h1 : ∀ v ∈ cs, v.oneCell' = true) :
    (Builtin.copy_ #[dT, sT] ty #[.slice (some ⟨g, o, none⟩) dLen dCap, .slice (some a) sLen sCap]).run P w = .ok (goInt m) (w.setRow g (splice cur.toList o cs).toArray) := by
  have hl := run_loadCells_list (P := P) w a cs hsrc
  have hst := run_storeCells_at P g o t cs 0 cur w hg (by simpa using hfit) h1
  rw [List.append_assoc] at hst
  cases hq : P.info? elem with
  | none => simp [hq] at hs
  | some i =>
    have hi : i.size = k := by simpa [hq] using hs
    simp [Builtin.copy_, run_underlying hu, Builtin.lenOf, Builtin.firstCells, sizeOf, typeInfo, hq, hi, hm, hn, hl, hst, splice]
theorem wpList_copy_wide {w : World} {ops : Array Oper} {rest : List Oper} {o : Oper} {a : Act} {Q : Exit → Act → World → Prop} (hgd : o.guard = none) (d s : Operand) (dT sT : TypeId)
    (ho : o.op = .call { callee := .builtin .copy, args := #[d, s], argTypes := #[dT, sT] }) (elem : TypeId) (k : Nat) (hu : P.underlying dT = some (.slice elem)) (hsz : (P.info? elem).map (·.size) = some k)
    (g off dLen dCap : Nat) (ad : Addr) (sLen sCap : Nat) (hd : a.eval d = .slice (some ⟨g, off, none⟩) dLen dCap) (hs : a.eval s = .slice (some ad) sLen sCap)
    (cur : Array Value) (t : TypeId) (hg : w.heap[g]? = some (.cells cur t (0, 0))) (m : Nat) (cs : List Value) (hm : Nat.min sLen dLen = m) (hn : m * k = cs.length)
    (hsrc : ∀ j v, cs[j]? = some v → w.cell? (ad.add j) = some v) (hfit : off + cs.length ≤ cur.size) (h1 : ∀ v ∈ cs, v.oneCell' = true)
    (h : ∀ w', Hid (w' = w.setRow g (splice cur.toList off cs).toArray) → wpList P ops Q rest (a.put o.dst (goInt m)) w') : wpList P ops Q (o :: rest) a w := by
  refine wpList_plain hgd fun K hK => ?_
  have hrun := run_copy_row_wide (P := P) w dT sT o.type elem k m g off dLen dCap ad sLen sCap cur t cs hu hsz hm hn hg hsrc hfit h1
  unfold Oper.wp
  simp [execOp, ho, resolve, invoke, builtin, hd, hs, hrun, Result.andThen]
  exact hK _ _ (h _ rfl)
theorem step_copy_wide {ops : Array Oper} {o : Oper} {a : Act} {w : World} {K : Act → World → Prop} {Q : Exit → Act → World → Prop} {E : Prop} (hgd : o.guard = none) (d s : Operand) (dT sT : TypeId)
    (ho : o.op = .call { callee := .builtin .copy, args := #[d, s], argTypes := #[dT, sT] }) (elem : TypeId) (k : Nat) (hu : P.underlying dT = some (.slice elem)) (hsz : (P.info? elem).map (·.size) = some k)
    (g off dLen dCap : Nat) (ad : Addr) (sLen sCap : Nat) (hd : a.eval d = .slice (some ⟨g, off, none⟩) dLen dCap) (hs : a.eval s = .slice (some ad) sLen sCap)
    (cur : Array Value) (t : TypeId) (hg : w.heap[g]? = some (.cells cur t (0, 0))) (m : Nat) (cs : List Value) (hm : Nat.min sLen dLen = m) (hn : m * k = cs.length)
    (hsrc : ∀ j v, cs[j]? = some v → w.cell? (ad.add j) = some v) (hfit : off + cs.length ≤ cur.size) (h1 : ∀ v ∈ cs, v.oneCell' = true)
    (h : ∀ w', Hid (w' = w.setRow g (splice cur.toList off cs).toArray) → K (a.put o.dst (goInt m)) w') :
    if Region.wanted o (yielded ops a.tmps) = true then Oper.wp P o a w K Q else E := by
  have hw : Region.wanted o (yielded ops a.tmps) = true := by simp [Region.wanted, hgd]
  rw [if_pos hw]
  have hrun := run_copy_row_wide (P := P) w dT sT o.type elem k m g off dLen dCap ad sLen sCap cur t cs hu hsz hm hn hg hsrc hfit h1
  unfold Oper.wp
  simp [execOp, ho, resolve, invoke, builtin, hd, hs, hrun, Result.andThen]
  exact h _ rfl
end Go.Proofs.YtgnkmfjleecmfaaGreatDoor
namespace Go.Proofs.YtgnkmfjleecmfaaGreatDoor
open Go.RowKit Go.Shelf Go.Lib
set_option maxHeartbeats 1000000 in
theorem reply_named (p q : List UInt8) (w : World) : Calls Tryz.prog 84 #[.agg #[.string (bs p), .string (bs q)]] w fun e w' => e = .returned (.bool (decide (p = clen))) ∧ Below w.heap.size w w' := by
  obtain ⟨r, hr⟩ : ∃ r, decide (p = clen) = r := ⟨_, rfl⟩
  have e0 : ((bs p).toList == [99, 111, 110, 116, 101, 110, 116, 45, 108, 101, 110, 103, 116, 104]) = r := by rw [← hr]; exact bs_lit p clen
  rw [hr]
  clear hr
  go_enter Tryz.func84, Tryz.ntmps84
  go_wp2_with fail
  go_ret
  exact ⟨rfl, (Below.refl _ _).alloc (Nat.le_refl _) _⟩
theorem named_gives (w : World) : PredBelow Tryz.prog 84 #[] (fun x => .agg (encF x).toArray) (fun x => decide (x.1 = clen)) w := fun W x hb => by
  show Calls Tryz.prog 84 #[.agg #[.string (bs x.1), .string (bs x.2)]] W _
  refine (reply_named x.1 x.2 W).mono ?_
  rintro e w' ⟨rfl, h⟩
  exact ⟨rfl, bstep hb h⟩
theorem idx_hit (a b : List (List UInt8 × List UInt8)) (h : List UInt8 × List UInt8) (hh : h.1 = clen) (ha : ∀ x ∈ a, x.1 ≠ clen) : Lib.idxBy (fun _ y => decide (y.1 = clen)) (a ++ h :: b) (default : List UInt8 × List UInt8) = (a.length : Int) := by
  unfold Lib.idxBy
  rw [Lib.idxByFrom_hit _ _ _ a.length 0 (by simp)]
  · simp
  · rw [getElem!_pos _ _ (by simp)]; simp [hh]
  · intro j hj
    rw [getElem!_pos _ _ (by simp; omega), List.getElem_append_left hj]
    exact decide_eq_false (ha _ (List.getElem_mem hj))
theorem index_named (g n cap : Nat) (fs : List (List UInt8 × List UInt8)) (w : World) (hn : n = fs.length) (hl : fs.length ≤ 1000000) (hg : g < w.heap.size)
    (hc : ∀ j (hj : j < fs.length), w.cell? ⟨g, 0 + j * 2, none⟩ = some (.string (bs fs[j].1)) ∧ w.cell? ⟨g, 0 + j * 2 + 1, none⟩ = some (.string (bs fs[j].2))) :
    Calls Tryz.prog 135 #[.slice (some ⟨g, 0, none⟩) n cap, .func (.func 84) #[] #[]] w fun e w' => e = .returned (.int .i64 (Lib.idxBy (fun _ y => decide (y.1 = clen)) fs default)) ∧ Below w.heap.size w w' := by
  subst hn
  have eg : ∀ args w, (callFunc 84 args).run Tryz.prog w = .ok (.enter 84 args) w := enters_of Tryz.func84 (by kernel_rfl) rfl
  have := AnyQ.slices_IndexFunc layIndexF 2 Tryz.isAgg149 Tryz.sizeOf149 encF (fun _ => rfl) (fun x => decide (x.1 = clen)) 84 #[] eg g 0 fs.length cap fs w (named_gives w) (Nat.le_refl _) (by omega) hg (fcell hc)
  rw [List.take_length] at this
  exact this
theorem run_clear_row_wide {P : Program} (w : World) (t e ty : TypeId) (z : Value) (ht : P.underlying t = some (.slice e)) (hv : ∀ w, (zeroValue e).run P w = .ok z w) (g o c : Nat) (cur : Array Value) (te : TypeId) (hg : w.heap[g]? = some (.cells cur te (0, 0)))
    (hfit : o + z.cells.toList.length ≤ cur.size) (h1 : ∀ v ∈ z.cells.toList, v.oneCell' = true) :
    (Builtin.clear_ #[t] ty #[.slice (some ⟨g, o, none⟩) 1 c]).run P w = .ok (.tuple #[]) (w.setRow g (splice cur.toList o z.cells.toList).toArray) := by
  have hzc : (Builtin.zeroCells z.cells 1).toList = z.cells.toList := by
    apply List.ext_getElem
    · simp [Builtin.zeroCells]
    · intro i h1 h2
      have hi : i < z.cells.size := by simpa using h2
      simp [Builtin.zeroCells, Nat.mod_eq_of_lt hi, getElem!_pos z.cells i hi]
  have hst := run_storeCells_at P g o te z.cells.toList 0 cur w hg (by simpa using hfit) h1
  simp only [Nat.add_zero] at hst
  rw [List.append_assoc] at hst
  simp [Builtin.clear_, run_underlying ht, hv, hzc, hst, splice]
theorem fcells_set (L : List (List UInt8 × List UInt8)) (i : Nat) (f : List UInt8 × List UInt8) : fcells (L.set i f) = ((fcells L).set (i * 2) (.string (bs f.1))).set (i * 2 + 1) (.string (bs f.2)) := by
  induction L generalizing i with
  | nil => rfl
  | cons x t ih =>
    cases i with
    | zero => rfl
    | succ i =>
      show _ :: _ :: fcells (t.set i f) = _
      rw [ih, show (i + 1) * 2 = i * 2 + 1 + 1 by omega]
      rfl
theorem row_set2 {w : World} {g : Nat} {cur : Array Value} {t : TypeId} (h : w.heap[g]? = some (.cells cur t (0, 0))) (i j : Nat) (p q : Value) :
    ((w.setCell ⟨g, i, none⟩ p).setCell ⟨g, j, none⟩ q).heap[g]? = some (.cells ((cur.setIfInBounds i p).setIfInBounds j q) t (0, 0)) := by
  simp [World.setCell, Array.getElem?_modify, h]
theorem mid_set (a b : List (List UInt8 × List UInt8)) (x y : List UInt8 × List UInt8) (k i : Nat) (hk : k < b.length) (hy : b[k] = y) (hi : a.length + k = i) : (a ++ (b.take k ++ x :: b.drop k)).set i y = a ++ (b.take (k + 1) ++ y :: b.drop (k + 1)) := by
  subst hi hy
  rw [List.set_append_right _ _ (by omega), Nat.add_sub_cancel_left, List.set_append_right _ _ (by rw [List.length_take]; omega), List.length_take, Nat.min_eq_left (by omega), Nat.sub_self, List.set_cons_zero, List.take_succ_eq_append_getElem hk, List.append_assoc, List.drop_eq_getElem_cons hk]
  rfl
theorem mid_get (a b : List (List UInt8 × List UInt8)) (x : List UInt8 × List UInt8) (k : Nat) (hk : k < b.length) (h : a.length + 1 + k < (a ++ (b.take k ++ x :: b.drop k)).length) : (a ++ (b.take k ++ x :: b.drop k))[a.length + 1 + k] = b[k] := by
  apply Option.some.inj
  rw [← List.getElem?_eq_getElem h, List.getElem?_append_right (by omega), List.getElem?_append_right (by rw [List.length_take]; omega), List.length_take, Nat.min_eq_left (by omega), show a.length + 1 + k - a.length - k = 1 by omega, List.drop_eq_getElem_cons hk]
  rfl
/-- what a row of fields holds while one is being taken out -/
structure MidRow (wr : World) (g cap N : Nat) (L : List (List UInt8 × List UInt8)) : Prop where
  ex : ∃ cur, wr.heap[g]? = some (.cells cur 149 (0, 0)) ∧ cur.size = cap * 2 ∧ cur.toList.take (N * 2) = fcells L ∧ L.length = N ∧ N ≤ cap ∧ cap ≤ maxLen
theorem MidRow.below {w w' : World} {g cap N : Nat} {L : List (List UInt8 × List UInt8)} (h : MidRow w g cap N L) (hb : Below w.heap.size w w') : MidRow w' g cap N L := by
  obtain ⟨cur, h1, h2⟩ := h.ex
  exact ⟨cur, (hb.block g (Array.getElem?_eq_some_iff.1 h1).1).trans h1, h2⟩
theorem MidRow.lt {w : World} {g cap N : Nat} {L : List (List UInt8 × List UInt8)} (h : MidRow w g cap N L) : g < w.heap.size := by
  obtain ⟨cur, h1, h2⟩ := h.ex
  exact (Array.getElem?_eq_some_iff.1 h1).1
theorem MidRow.cells {w : World} {g cap N : Nat} {L : List (List UInt8 × List UInt8)} (h : MidRow w g cap N L) (j : Nat) (hj : j < N) (y : List UInt8 × List UInt8) (hy : L[j]? = some y) :
    w.cell? ⟨g, j * 2, none⟩ = some (.string (bs y.1)) ∧ w.cell? ⟨g, j * 2 + 1, none⟩ = some (.string (bs y.2)) ∧ w.frozen? ⟨g, j * 2, none⟩ = false ∧ w.frozen? ⟨g, j * 2 + 1, none⟩ = false := by
  obtain ⟨cur, h1, h2, h3, h4, h5, h6⟩ := h.ex
  have hjl : j < L.length := by omega
  obtain ⟨g1, g2⟩ := fcells_get L j hjl
  rw [List.getElem?_eq_getElem hjl] at hy
  obtain rfl := Option.some.inj hy
  have key : ∀ k u, k < N * 2 → (fcells L)[k]? = some u → w.cell? ⟨g, k, none⟩ = some u := by
    intro k u hk hu
    rw [cell_of_row w g k cur _ (0, 0) h1, ← Array.getElem?_toList]
    rw [← h3, List.getElem?_take, if_pos hk] at hu
    exact hu
  refine ⟨key _ _ (by omega) g1, key _ _ (by omega) g2, ?_, ?_⟩
  · unfold World.frozen?; rw [h1]; rfl
  · unfold World.frozen?; rw [h1]; rfl
theorem MidRow.set {w : World} {g cap N : Nat} {L : List (List UInt8 × List UInt8)} (h : MidRow w g cap N L) (i : Nat) (y : List UInt8 × List UInt8) :
    MidRow ((w.setCell ⟨g, i * 2, none⟩ (.string (bs y.1))).setCell ⟨g, i * 2 + 1, none⟩ (.string (bs y.2))) g cap N (L.set i y) := by
  obtain ⟨cur, h1, h2, h3, h4, h5, h6⟩ := h.ex
  refine ⟨_, row_set2 h1 _ _ _ _, by simp [h2], ?_, by rw [List.length_set, h4], h5, h6⟩
  rw [Array.toList_setIfInBounds, Array.toList_setIfInBounds, List.take_set, List.take_set, h3, fcells_set]
theorem MidRow.clear {w : World} {g cap i : Nat} {L : List (List UInt8 × List UInt8)} (h : MidRow w g cap (i + 1) L) (base : Nat) (hb : base ≤ g) :
    ∃ w', (∀ ty dc, (Builtin.clear_ #[61] ty #[.slice (some ⟨g, i * 2, none⟩) 1 dc]).run Tryz.prog w = .ok (.tuple #[]) w') ∧ w'.ownsRow base 149 2 (.slice (some ⟨g, 0, none⟩) i cap) i (fcells (L.take i)) ∧ w.grownBy w' (some g) := by
  obtain ⟨cur, h1, h2, h3, h4, h5, h6⟩ := h.ex
  have hz := Tryz.zeroValue149
  refine ⟨_, fun ty dc => run_clear_row_wide w 61 149 ty _ Tryz.underlying61 hz g (i * 2) dc cur 149 h1 (by show i * 2 + 2 ≤ _; omega) (by simp [Value.cells, Value.oneCell']), ?_, ?_⟩
  · refine ⟨by rw [fcells_length, List.length_take]; omega, .inr ⟨g, cap, _, rfl, hb, setRow_heap w g cur _ _ _ h1, by omega, ?_, ?_, ?_⟩⟩
    · exact h6
    · rw [List.size_toArray, length_splice _ _ _ (by show i * 2 + 2 ≤ _; rw [Array.length_toList]; omega), Array.length_toList, h2]
    · have e1 : fcells L = fcells (L.take i) ++ fcells (L.drop i) := by rw [← fcells_append, List.take_append_drop]
      have e2 : (fcells (L.take i)).length = i * 2 := by rw [fcells_length, List.length_take]; omega
      unfold splice
      rw [List.toList_toArray, List.take_left' (by rw [List.length_take, Array.length_toList]; omega)]
      have : cur.toList.take (i * 2) = (cur.toList.take ((i + 1) * 2)).take (i * 2) := by rw [List.take_take]; congr 1; omega
      rw [this, h3, e1, List.take_left' e2]
  · exact ⟨rfl, rfl, rfl, by simp [World.setRow], fun k hk hn => setRow_other w g k _ (fun e => hn (by rw [e]))⟩

theorem grown_trans {w w1 w2 : World} {r : Option Nat} (h : w.grownBy w1 r) (k : w1.grownBy w2 r) : w.grownBy w2 r :=
  ⟨k.os.trans h.os, k.tape.trans h.tape, k.output.trans h.output, Nat.le_trans h.size k.size, fun b hb hn => (k.block b (Nat.lt_of_lt_of_le hb h.size) hn).trans (h.block b hb hn)⟩
def DelPost (g base cap : Nat) (fs : List (List UInt8 × List UInt8)) (w : World) (e : Ending) (w' : World) : Prop :=
  e = .returned (.slice (some ⟨g, 0, none⟩) fs.length cap) ∧ w'.ownsRow base 149 2 (.slice (some ⟨g, 0, none⟩) fs.length cap) fs.length (fcells fs) ∧ w.grownBy w' (some g)
set_option maxRecDepth 100000 in
set_option maxHeartbeats 4000000 in
theorem delete_named (g base cap n : Nat) (a b : List (List UInt8 × List UInt8)) (h : List UInt8 × List UInt8) (w : World) (hn : n = (a ++ h :: b).length) (hh : h.1 = clen) (ha : ∀ x ∈ a, x.1 ≠ clen) (hb : ∀ x ∈ b, x.1 ≠ clen) (hl : n ≤ 1000000)
    (hown : w.ownsRow base 149 2 (.slice (some ⟨g, 0, none⟩) n cap) n (fcells (a ++ h :: b))) :
    Calls Tryz.prog 97 #[.slice (some ⟨g, 0, none⟩) n cap, .func (.func 84) #[] #[]] w (DelPost g base cap (a ++ b) w) := by
  obtain ⟨hM, hbase⟩ : MidRow w g cap n (a ++ h :: b) ∧ base ≤ g := by
    rcases hown.2 with ⟨h0, -⟩ | ⟨g', cap', cur, e1, h1, h2, h3, h4, h5, h6⟩
    · cases h0
    · cases e1
      exact ⟨⟨cur, h2, h5, h6, hn.symm, h3, h4⟩, h1⟩
  have hMg := hM.lt
  have HI := Lib.hid (index_named g n cap (a ++ h :: b) w hn (by omega) hMg (fun j hj => by
    obtain ⟨h1, h2, -, -⟩ := hM.cells j (by omega) _ (List.getElem?_eq_getElem hj)
    rw [Nat.zero_add]; exact ⟨h1, h2⟩))
  rw [idx_hit a b h hh ha] at HI
  obtain ⟨i, hi⟩ : ∃ i, a.length + b.length = i := ⟨_, rfl⟩
  have hni : n = i + 1 := by rw [hn]; simp; omega
  subst hni
  have hcap : i + 1 ≤ cap := by obtain ⟨cur, h1, h2, h3, h4, h5, h6⟩ := hM.ex; exact h5
  have hcap2 : cap ≤ 9223372036854775807 := by obtain ⟨cur, h1, h2, h3, h4, h5, h6⟩ := hM.ex; unfold maxLen at h6; exact h6
  have HM := Lib.hid hM
  have HB := Lib.hid hb
  have hal : a.length ≤ i := by omega
  have t1 : ((a.length : Int) == -1) = false := by rw [beq_eq_false_iff_ne]; omega
  obtain ⟨al, hAL⟩ : ∃ al, a.length = al := ⟨_, rfl⟩
  obtain ⟨bl, hBL⟩ : ∃ bl, b.length = bl := ⟨_, rfl⟩
  rw [hAL] at HI t1 hal
  have HAB := Lib.hid (And.intro hAL hBL)
  rw [hAL, hBL] at hi
  clear hown hM hn hb ha hAL hBL
  go_enter Tryz.func97, Tryz.ntmps97
  go_wp2_with fail
  refine HI.out.mono ?_
  rintro e w1 ⟨rfl, hb1⟩
  have HM1 := Lib.hid (HM.out.below hb1)
  have HG1 := Lib.hid ((GR.refl g w).below hb1)
  clear hb1 HI
  go_wp2_with fail
  go_loopg [5, 6, 7] bl (fun gk s5 s6 _ wr => ∃ (k : Nat) (x : List UInt8 × List UInt8), s5 = .int .i64 ((al + k : Nat) : Int) ∧ s6 = .int .i64 ((al + 1 + k : Nat) : Int) ∧ k + gk = bl ∧ Hid (MidRow wr g cap (i + 1) (a ++ (b.take k ++ x :: b.drop k))) ∧ Hid (w.grownBy wr (some g)))
  case atStart => exact ⟨0, h, by simp, by simp, by omega, HM1, HG1⟩
  case round =>
    obtain ⟨k, x, rfl, rfl, hgk, HR, HG⟩ := hrel
    obtain ⟨p, hp⟩ : ∃ p, al + k = p := ⟨_, rfl⟩
    obtain ⟨q, hq⟩ : ∃ q, al + 1 + k = q := ⟨_, rfl⟩
    have HQP : Hid (q = p + 1) := Lib.hid (by omega)
    have hrg := HR.out.lt
    rw [hp, hq]
    by_cases hk : k < bl
    · obtain ⟨g', rfl⟩ : ∃ g', gk = g' + 1 := ⟨gk - 1, by omega⟩
      have tk : decide ((q : Int) < (i : Int) + 1) = true := decide_eq_true (by have := HQP.out; omega)
      have hk2 : k < b.length := by rw [HAB.out.2]; exact hk
      obtain ⟨y, hy⟩ : ∃ y, b[k] = y := ⟨_, rfl⟩
      have HY : Hid ((a ++ (b.take k ++ x :: b.drop k))[q]? = some y) := Lib.hid (by
        have hlen : a.length + 1 + k < (a ++ (b.take k ++ x :: b.drop k)).length := by
          simp only [List.length_append, List.length_cons, List.length_take, List.length_drop]; omega
        have := mid_get a b x k hk2 hlen
        rw [← hq, ← HAB.out.1, List.getElem?_eq_getElem hlen, this, hy])
      have HS : Hid ((a ++ (b.take k ++ x :: b.drop k)).set p y = a ++ (b.take (k + 1) ++ y :: b.drop (k + 1))) := Lib.hid (mid_set a b x y k p hk2 hy (by rw [HAB.out.1]; exact hp))
      have hyc : decide (y.1 = clen) = false := decide_eq_false (by rw [← hy]; exact HB.out _ (List.getElem_mem hk2))
      obtain ⟨c0, c1, -, -⟩ := HR.out.cells q (by omega) y HY.out
      have HN := Lib.hid (fun w => reply_named y.1 y.2 w)
      rw [hyc] at HN
      clear hyc hy HY hk2
      go_wp2_with fail
      refine (HN.out _).mono ?_
      rintro e w2 ⟨rfl, hb2⟩
      have HR2 := Lib.hid ((HR.out.below ((Below.refl _ _).alloc (Nat.le_refl _) (.cells #[.string (bs y.1), .string (bs y.2)] 149))).below hb2)
      have HG2 := Lib.hid ((HG.out.below ((Below.refl _ _).alloc (Nat.le_refl _) (.cells #[.string (bs y.1), .string (bs y.2)] 149))).below hb2)
      obtain ⟨z, hz⟩ : ∃ z, (a ++ (b.take k ++ x :: b.drop k))[p]? = some z := ⟨_, List.getElem?_eq_getElem (by
        have := HAB.out
        simp only [List.length_append, List.length_cons, List.length_take, List.length_drop]; omega)⟩
      obtain ⟨d0, d1, f0, f1⟩ := HR2.out.cells p (by omega) z hz
      have hk0 : w2.heap[wr.heap.size]? = some (.cells #[.string (bs y.1), .string (bs y.2)] 149 (0, 0)) := (hb2.block wr.heap.size (by simp)).trans (heap_alloc_new wr _)
      have k0 : w2.cell? ⟨wr.heap.size, 0, none⟩ = some (.string (bs y.1)) := by unfold World.cell?; rw [hk0]; rfl
      have k1 : w2.cell? ⟨wr.heap.size, 1, none⟩ = some (.string (bs y.2)) := by unfold World.cell?; rw [hk0]; rfl
      clear hb2 c0 c1 hk0 hz
      go_wp2_with fail
      go_roundg g'
      case measure => omega
      case rel => exact ⟨k + 1, y, by go_num, by go_num, by omega, Lib.hid (by rw [← HS.out]; exact HR2.out.set p y), Lib.hid ((HG2.out.set _ _).set _ _)⟩
    · obtain rfl : k = bl := by omega
      have hpi : p = i := by omega
      subst hpi
      have tk : decide ((q : Int) < (p : Int) + 1) = false := decide_eq_false (by have := HQP.out; omega)
      obtain ⟨w2, hcl, hown, hg⟩ := HR.out.clear base hbase
      have HO := Lib.hid hown
      have HGG := Lib.hid hg
      have HT : Hid ((a ++ (b.take k ++ x :: b.drop k)).take p = a ++ b ∧ (a ++ b).length = p) := Lib.hid (by
        have := HAB.out
        have e1 : b.take k = b := List.take_of_length_le (by omega)
        rw [e1, ← List.append_assoc]
        exact ⟨List.take_left' (by rw [List.length_append]; omega), by rw [List.length_append]; omega⟩)
      clear hown hg
      go_wp2_with fail
      go_ret
      unfold DelPost
      rw [HT.out.2]
      have := HO.out
      rw [HT.out.1] at this
      exact ⟨rfl, this, grown_trans HG.out HGG.out⟩
end Go.Proofs.YtgnkmfjleecmfaaGreatDoor
