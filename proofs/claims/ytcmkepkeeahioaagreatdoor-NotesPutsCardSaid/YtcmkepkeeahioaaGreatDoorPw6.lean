/- What list of the reader does. What number of the reader does. What number of the reader does: the walk. What value of the reader does. (Printed by wip/gennvalue.py.) What Take of package notes returns. The small example of the laws on notes. An argument that is a node of the document, opened. -/
import Derived.Test.YtcmkepkeeahioaaGreatDoorPw5
import Derived.Shelf.Strings.SlTrimAscii
import Derived.Shelf.Strings.IndexAnyAll
import Derived.Lib.SmallJoins
import Derived.OpenShut
import Derived.WideShapes
import Derived.SliceStrings
import Derived.Deep.Slices
import Derived.Deep.Fields
import Derived.ChangeSame
import Derived.ChangeArms
set_option linter.unusedVariables false
set_option linter.unusedSimpArgs false
namespace Go.Proofs.YtcmkepkeeahioaaGreatDoor
open Go.RowKit
theorem lst_each (d : Nat) : ∀ (f n : Nat) (r : List UInt8) (acc : List JV), lstV f d n r acc = (if (eachG 93 (stepL d) f n r acc).2.2 = 0 then .lst (eachG 93 (stepL d) f n r acc).1 else .nul, (eachG 93 (stepL d) f n r acc).2) := by
  intro f
  induction f with
  | zero => intro n r acc; rw [lstV, eachG]; rfl
  | succ f ih =>
    intro n r acc
    rw [lstV, eachG]
    by_cases h64 : n = 64 ∧ r ≠ []
    · rw [if_pos h64, if_pos h64]; rfl
    rw [if_neg h64, if_neg h64]
    have hr := stepL_rest d f r acc
    by_cases he : (valV f (d + 1) r).2.2 = 0
    · have hs : stepL d f r acc = (acc ++ [(valV f (d + 1) r).1], (valV f (d + 1) r).2.1, 0) := by unfold stepL; rw [if_pos he]
      rw [if_neg (fun e => e he), hs]
      rw [if_neg (show ¬ ((0 : Nat) ≠ 0) by decide)]
      cases skipB (valV f (d + 1) r).2.1 with
      | nil => rfl
      | cons c t =>
        simp only []
        by_cases c1 : c = 93
        · rw [if_pos c1, if_pos c1]; rfl
        rw [if_neg c1, if_neg c1]
        by_cases c2 : c = 44
        · rw [if_pos c2, if_pos c2]; exact ih (n + 1) (skipB t) _
        · rw [if_neg c2, if_neg c2]; rfl
    · have hs : stepL d f r acc = (acc, (valV f (d + 1) r).2.1, (valV f (d + 1) r).2.2) := by unfold stepL; rw [if_neg he]
      rw [if_pos he, hs, if_pos he]
      show _ = (if (valV f (d + 1) r).2.2 = 0 then _ else _, _)
      rw [if_neg he]
theorem app4 (x a b c : Value) : (#[x] ++ #[a, b, c] : Array Value) = #[x, a, b, c] := by simp
/-- a list from its first sign on -/
def listQ (F d : Nat) (t : List UInt8) : Res := if 4 < d then (.nul, 91 :: t, 20) else if (skipB t).head? = some 93 then (.lst [], (skipB t).tail, 0) else lstV F d 0 (skipB t) []
theorem listQ_each (F d : Nat) (t : List UInt8) : listQ F d t = (if (eachQ 93 (stepL d) F d 91 t []).2.2 = 0 then .lst (eachQ 93 (stepL d) F d 91 t []).1 else .nul, (eachQ 93 (stepL d) F d 91 t []).2) := by
  unfold listQ eachQ
  by_cases h1 : 4 < d
  · rw [if_pos h1, if_pos h1]; rfl
  rw [if_neg h1, if_neg h1]
  by_cases h2 : (skipB t).head? = some 93
  · rw [if_pos h2, if_pos h2]; rfl
  rw [if_neg h2, if_neg h2]
  exact lst_each d F 0 (skipB t) []
/-- the boxes of list, laid -/
theorem LIL.new {w0 w : World} {b d : Nat} (hb0 : Below w0.heap.size w0 w) (hlo : w0.heap.size ≤ b) (hbw : b < w.heap.size) :
    LIL w0 b (w.heap.size + 1 + 1 + 1) w.heap.size (w.heap.size + 1) w.heap.size d ((((w.alloc (.cells #[.pointer (some ⟨b, 0, none⟩)] 70)).alloc (.cells #[.int .i64 (d : Int)] 3)).alloc (.cells #[] 20)).alloc (.cells #[.slice (some ⟨w.heap.size + 1 + 1, 0, none⟩) 0 0] 57)) [] (.slice (some ⟨w.heap.size + 1 + 1, 0, none⟩) 0 0) := by
  have e0 : (w.alloc (.cells #[.pointer (some ⟨b, 0, none⟩)] 70)).heap.size = w.heap.size + 1 := by simp
  have h0 := heap_alloc_new w (.cells #[.pointer (some ⟨b, 0, none⟩)] 70)
  generalize hW0 : w.alloc (.cells #[.pointer (some ⟨b, 0, none⟩)] 70) = W0 at e0 h0 ⊢
  have B0 : Below w.heap.size w W0 := by rw [← hW0]; exact (Below.refl _ _).alloc (Nat.le_refl _) _
  have e1 : (W0.alloc (.cells #[.int .i64 (d : Int)] 3)).heap.size = w.heap.size + 1 + 1 := by simp [e0]
  have h1 := heap_alloc_new W0 (.cells #[.int .i64 (d : Int)] 3)
  have B1 : Below W0.heap.size W0 (W0.alloc (.cells #[.int .i64 (d : Int)] 3)) := (Below.refl _ _).alloc (Nat.le_refl _) _
  generalize hW1 : W0.alloc (.cells #[.int .i64 (d : Int)] 3) = W1 at e1 h1 B1 ⊢
  have e2 : (W1.alloc (.cells #[] 20)).heap.size = w.heap.size + 1 + 1 + 1 := by simp [e1]
  have h2 := heap_alloc_new W1 (.cells #[] 20)
  have B2 : Below W1.heap.size W1 (W1.alloc (.cells #[] 20)) := (Below.refl _ _).alloc (Nat.le_refl _) _
  generalize hW2 : W1.alloc (.cells #[] 20) = W2 at e2 h2 B2 ⊢
  have h3 := heap_alloc_new W2 (.cells #[.slice (some ⟨w.heap.size + 1 + 1, 0, none⟩) 0 0] 57)
  have B3 : Below W2.heap.size W2 (W2.alloc (.cells #[.slice (some ⟨w.heap.size + 1 + 1, 0, none⟩) 0 0] 57)) := (Below.refl _ _).alloc (Nat.le_refl _) _
  have e3 : (W2.alloc (.cells #[.slice (some ⟨w.heap.size + 1 + 1, 0, none⟩) 0 0] 57)).heap.size = w.heap.size + 4 := by simp [e2]
  generalize W2.alloc (.cells #[.slice (some ⟨w.heap.size + 1 + 1, 0, none⟩) 0 0] 57) = W3 at h3 B3 e3 ⊢
  rw [e0] at h1
  rw [e1] at h2
  rw [e2] at h3
  have q0 : W3.heap[w.heap.size]? = _ := (B3.block _ (by omega)).trans ((B2.block _ (by omega)).trans ((B1.block _ (by omega)).trans h0))
  have q1 : W3.heap[w.heap.size + 1]? = _ := (B3.block _ (by omega)).trans ((B2.block _ (by omega)).trans h1)
  have q2 : W3.heap[w.heap.size + 1 + 1]? = _ := (B3.block _ (by omega)).trans h2
  refine ⟨h3, q0, q1, ⟨[], ⟨rfl, .inr ⟨w.heap.size + 1 + 1, 0, #[], rfl, by omega, q2, Nat.le_refl _, Nat.zero_le _, rfl, rfl⟩⟩, fun j hj => absurd hj (Nat.not_lt_zero _)⟩, ?_, hbw, by omega, by omega, by omega, hlo⟩
  exact bstep hb0 (bstep (bstep (bstep B0 B1) B2) B3)
set_option maxRecDepth 100000 in
set_option maxHeartbeats 4000000 in
theorem rd_list (w0 : World) (b d F : Nat) (s : ByteArray) (t : List UInt8) (w : World) (hd : d ≤ 100) (hs : s.size ≤ 1000000) (hF : F ≤ 1000000) (hlo : w0.heap.size ≤ b) (hb0 : Below w0.heap.size w0 w)
    (HV : ∀ f, f < F → ¬ 4 < d → ∀ r W, RL b s r 0 W → Below w0.heap.size w0 W → (valV f (d + 1) r).2.2 ≠ 99 → Calls Tryz.prog 30 #[.pointer (some ⟨b, 0, none⟩), .int .i64 ((d : Int) + 1)] W (VPost b s (valV f (d + 1) r) W))
    (h : RL b s (91 :: t) 0 w) (h99 : (listQ F d t).2.2 ≠ 99) :
    Calls Tryz.prog 50 #[.pointer (some ⟨b, 0, none⟩), .int .i64 (d : Int)] w (VPost b s (listQ F d t) w) := by
  have hbw := h.1.lt
  have hli := LIL.new (d := d) hb0 hlo hbw
  have hq := listQ_each F d t
  rw [hq] at h99 ⊢
  have heq : (eachQ 93 (stepL d) F d 91 t []).2.2 ≠ 99 := h99
  have hmf : ∀ (fn : Fn) (first cap : Array Value) (w : World), (Instr.makeFunc fn first cap).run Tryz.prog w = .ok (.func fn first cap) w := fun _ _ _ _ => rfl
  obtain ⟨W, hW⟩ : ∃ W, (((w.alloc (.cells #[.pointer (some ⟨b, 0, none⟩)] 70)).alloc (.cells #[.int .i64 (d : Int)] 3)).alloc (.cells #[] 20)).alloc (.cells #[.slice (some ⟨w.heap.size + 1 + 1, 0, none⟩) 0 0] 57) = W := ⟨_, rfl⟩
  have hWB : Below w.heap.size w W := by
    rw [← hW]
    refine Below.alloc (Below.alloc (Below.alloc (Below.alloc (Below.refl _ _) ?_ _) ?_ _) ?_ _) ?_ _ <;> simp <;> omega
  rw [hW] at hli
  have hJ0 : JL (w.heap.size + 1 + 1 + 1) W := ⟨_, hli.box⟩
  have hneb : w.heap.size + 1 + 1 + 1 ≠ b := by omega
  have eg : ∀ args w, (callFunc 70 args).run Tryz.prog w = .ok (.enter 70 args) w := enters_of Tryz.func70 (by kernel_rfl) rfl
  have hRL : RL b s (91 :: t) 0 W := ⟨h.1.below hWB, h.2⟩
  have hEach : Calls Tryz.prog 69 #[.pointer (some ⟨b, 0, none⟩), .int .i64 (d : Int), .int .u8 91, .int .u8 93, .func (.func 70) #[] #[.pointer (some ⟨w.heap.size + 1 + 1 + 1, 0, none⟩), .pointer (some ⟨w.heap.size, 0, none⟩), .pointer (some ⟨w.heap.size + 1, 0, none⟩)]] W (OnePost b w.heap.size s (JL (w.heap.size + 1 + 1 + 1)) (IL w0 b (w.heap.size + 1 + 1 + 1) w.heap.size (w.heap.size + 1) w.heap.size d) (eachQ 93 (stepL d) F d 91 t []) W) := by
    have hJ : ∀ W W', JL (w.heap.size + 1 + 1 + 1) W → Touch (fun i => i = b) W W' → JL (w.heap.size + 1 + 1 + 1) W' := fun W W' ⟨v, hv⟩ t => ⟨v, (t.block _ (Array.getElem?_eq_some_iff.1 hv).1 hneb).trans hv⟩
    have hI : ∀ W W' acc, IL w0 b (w.heap.size + 1 + 1 + 1) w.heap.size (w.heap.size + 1) w.heap.size d W acc → Touch (fun i => i = b) W W' → IL w0 b (w.heap.size + 1 + 1 + 1) w.heap.size (w.heap.size + 1) w.heap.size d W' acc := fun W W' acc ⟨v, hv⟩ t => ⟨v, hv.touch t⟩
    by_cases h4 : 4 < d
    · have e0 : eachQ 93 (stepL d) F d 91 t [] = eachQ 93 (stepL d) 0 d 91 t [] := by unfold eachQ; rw [if_pos h4, if_pos h4]
      rw [e0] at heq ⊢
      exact rd_each 93 91 (stepL d) _ _ eg b w.heap.size s 0 d (JL (w.heap.size + 1 + 1 + 1)) hJ _ hI (fun f r acc h => stepL_len d f r acc h) (fun f hf => absurd hf (Nat.not_lt_zero _)) t W hRL hJ0 ⟨_, hli⟩ hs (by omega) hd heq
    · have hone : ∀ f, f < F → ∀ (n : Nat) r acc W', acc.length = n → n ≤ F → RL b s r 0 W' → JL (w.heap.size + 1 + 1 + 1) W' → IL w0 b (w.heap.size + 1 + 1 + 1) w.heap.size (w.heap.size + 1) w.heap.size d W' acc → (stepL d f r acc).2.2 ≠ 99 →
          Calls Tryz.prog 70 (#[.int .i64 (n : Int)] ++ #[.pointer (some ⟨w.heap.size + 1 + 1 + 1, 0, none⟩), .pointer (some ⟨w.heap.size, 0, none⟩), .pointer (some ⟨w.heap.size + 1, 0, none⟩)]) W' (OnePost b w.heap.size s (JL (w.heap.size + 1 + 1 + 1)) (IL w0 b (w.heap.size + 1 + 1 + 1) w.heap.size (w.heap.size + 1) w.heap.size d) (stepL d f r acc) W') := by
        intro f hf n r acc W' hal hn hr hj hi h9
        have hv := rd_list1 w0 b (w.heap.size + 1 + 1 + 1) w.heap.size (w.heap.size + 1) w.heap.size d f n s r acc W' hd (by omega) (fun W2 hr2 hb2 => HV f hf h4 r W2 hr2 hb2 (by rw [stepL_rest] at h9; exact h9)) hr hi
        rw [app4]
        exact hv
      exact rd_each 93 91 (stepL d) _ _ eg b w.heap.size s F d (JL (w.heap.size + 1 + 1 + 1)) hJ _ hI (fun f r acc h => stepL_len d f r acc h) hone t W hRL hJ0 ⟨_, hli⟩ hs hF hd heq
  have HEACH := Lib.hid hEach
  have HWB := Lib.hid hWB
  obtain ⟨k0, k1, k2, k3⟩ := hli.cells
  generalize eachQ 93 (stepL d) F d 91 t [] = q at HEACH ⊢
  obtain ⟨R, hR⟩ : ∃ R : Res, (if q.2.2 = 0 then JV.lst q.1 else .nul, q.2) = R := ⟨_, rfl⟩
  rw [hR]
  have HR := Lib.hid hR
  clear hR
  have HBW := Lib.hid hbw
  clear hEach hWB hli hJ0 hRL heq h99 hq HV h hbw hlo hb0
  go_enter Tryz.func50, Tryz.ntmps50
  subst hW
  go_wp2_with fail
  refine HEACH.out.mono ?_
  rintro e w1 ⟨rfl, r1, ⟨f1, v, hv⟩, i1⟩
  have kv : w1.cell? ⟨w.heap.size + 1 + 1 + 1, 0, none⟩ = some v := by unfold World.cell?; rw [hv]; rfl
  have HI1 := Lib.hid i1
  have HF1 := Lib.hid f1
  have HR1 := Lib.hid r1
  have HV1 := Lib.hid hv
  clear i1 f1 r1 hv k0 k1 k2 k3
  go_wp2_with fail
  go_ret
  refine ⟨_, rfl, rfl, by rw [← HR.out]; exact HR1.out, ?_, fun h0 => ?_⟩
  · have h1 := HWB.out
    exact ⟨HF1.out.os.trans h1.os, HF1.out.tape.trans h1.tape, HF1.out.output.trans h1.output, Nat.le_trans h1.size HF1.out.size, fun i hi hn => (HF1.out.block i (Nat.lt_of_lt_of_le hi h1.size) (fun h => h.elim hn (fun h2 => by omega))).trans (h1.block i hi)⟩
  · have hq0 : q.2.2 = 0 := by rw [← HR.out] at h0; exact h0
    obtain ⟨v2, hv2⟩ := HI1.out hq0
    have e1 := hv2.box
    rw [HV1.out] at e1
    simp only [Option.some.injEq, Obj.cells.injEq, Array.mk.injEq, List.cons.injEq, and_true] at e1
    obtain rfl := e1
    have hbx := hv2.box
    have hbl := (Array.getElem?_eq_some_iff.1 hbx).1
    have : R.1 = .lst q.1 := by rw [← HR.out, if_pos hq0]
    rw [this]
    obtain ⟨xs, ho, hx⟩ := id hv2.own
    exact OwnL.value hv2.own (fun i hi => ⟨hi.1, hi.2.1⟩) (fun g hg => ho.lt g hg)
end Go.Proofs.YtcmkepkeeahioaaGreatDoor
namespace Go.Proofs.YtcmkepkeeahioaaGreatDoor
open Go.RowKit
theorem c_triml (s : ByteArray) (w : World) : Calls Tryz.prog 73 #[.string s, .string ⟨#[48, 49, 50, 51, 52, 53, 54, 55, 56, 57, 43, 45, 46, 101, 69]⟩] w fun e w' => e = .returned (.string (bs (s.data.toList.dropWhile numCh))) ∧ Below w.heap.size w w' := by
  have h := Any.strings_TrimLeft_laid Tryz.lays161 (by kernel_rfl) s ⟨#[48, 49, 50, 51, 52, 53, 54, 55, 56, 57, 43, 45, 46, 101, 69]⟩ w (by decide) (Go.Proofs.ascii_of_all (by decide))
  rw [show (⟨#[48, 49, 50, 51, 52, 53, 54, 55, 56, 57, 43, 45, 46, 101, 69]⟩ : ByteArray).data.toList = numSet from rfl, trim_num] at h
  exact h
theorem c_trim (s : ByteArray) (w : World) (hs : s.size ≤ 1000000) : Calls Tryz.prog 75 #[.string s, .string ⟨#[48, 49, 50, 51, 52, 53, 54, 55, 56, 57]⟩] w fun e w' => e = .returned (.string (bs (Go.Lib.trimS s.data.toList digSet))) ∧ Below w.heap.size w w' :=
  Any.strings_Trim_laid Tryz.lays160 (by kernel_rfl) s ⟨#[48, 49, 50, 51, 52, 53, 54, 55, 56, 57]⟩ w (by omega) (by decide) (Go.Proofs.ascii_of_all (by decide))
theorem c_signs (s : ByteArray) (w : World) (hs : s.size ≤ 1000000) (hd : s.data.toList.all digB = true) : Calls Tryz.prog 76 #[.string s, .string ⟨#[43, 45, 46, 101, 69]⟩] w fun e w' => e = .returned (.bool false) ∧ Below w.heap.size w w' := by
  have h := Tryz.strings_ContainsAny_laid s ⟨#[43, 45, 46, 101, 69]⟩ w (by omega) (by decide) (fun j b hb => by
    have := List.all_eq_true.1 hd b (List.mem_of_getElem? hb)
    have := (digB_iff b).1 this
    omega) (Go.Proofs.ascii_of_all (by decide))
  rw [show (⟨#[43, 45, 46, 101, 69]⟩ : ByteArray).data.toList = sgnSet from rfl, sgn_none _ hd] at h
  exact h
theorem c_cut (s : ByteArray) (w : World) : Calls Tryz.prog 74 #[.string s, .string ⟨#[45]⟩] w fun e w' => e = .returned (.tuple #[.string (bs (if s.data.toList.head? = some 45 then s.data.toList.tail else s.data.toList)), .bool (decide (s.data.toList.head? = some 45))]) ∧ w' = w := by
  have h := Tryz.strings_CutPrefix s ⟨#[45]⟩ w
  have e1 : Go.Lib.hasPrefix s.data.toList (⟨#[45]⟩ : ByteArray).data.toList = decide (s.data.toList.head? = some 45) := by
    unfold Go.Lib.hasPrefix
    cases s.data.toList with
    | nil => rfl
    | cons c t =>
      show ((45 : UInt8) == c && List.isPrefixOf [] t) = _
      rw [List.isPrefixOf, Bool.and_true, List.head?_cons]
      by_cases e : c = 45
      · subst e; rfl
      · rw [decide_eq_false (by simpa using e), beq_eq_false_iff_ne]; exact fun h => e h.symm
  have e2 : Go.Lib.trimPrefix s.data.toList (⟨#[45]⟩ : ByteArray).data.toList = if s.data.toList.head? = some 45 then s.data.toList.tail else s.data.toList := by
    unfold Go.Lib.trimPrefix
    rw [e1]
    by_cases e : s.data.toList.head? = some 45
    · rw [decide_eq_true e, if_pos rfl, if_pos e]
      cases s.data.toList with
      | nil => rfl
      | cons c t => rfl
    · rw [decide_eq_false e, if_neg (by decide), if_neg e]
  rw [e1, e2] at h
  exact h
theorem numT_parts (m : List UInt8) : numT m = numC (decide (m.head? = some 45)) (if m.head? = some 45 then m.tail else m) := by
  unfold numT
  by_cases e : m.head? = some 45
  · rw [if_pos e, if_pos e, decide_eq_true e]
  · rw [if_neg e, if_neg e, decide_eq_false e]
/-- how a number's signs are judged -/
theorem numC_cases (mi : Bool) (wl : List UInt8) : (wl = [] ∧ numC mi wl = (0, 4)) ∨ (wl ≠ [] ∧ wl.all digB = false ∧ numC mi wl = (0, 4)) ∨ (wl ≠ [] ∧ wl.all digB = true ∧ wl.head? = some 48 ∧ (1 < wl.length ∨ mi = true) ∧ numC mi wl = (0, 4)) ∨
    (wl ≠ [] ∧ wl.all digB = true ∧ ¬ (wl.head? = some 48 ∧ (1 < wl.length ∨ mi = true)) ∧ ((9007199254740991 < decW wl ∧ numC mi wl = (0, 11)) ∨ (decW wl ≤ 9007199254740991 ∧ numC mi wl = (if mi = true then -(decW wl : Int) else (decW wl : Int), 0)))) := by
  by_cases h1 : wl = []
  · exact .inl ⟨h1, by unfold numC; rw [if_pos (.inl h1)]⟩
  cases h2 : wl.all digB with
  | false => exact .inr (.inl ⟨h1, rfl, by unfold numC; rw [if_pos (.inr h2)]⟩)
  | true =>
    have h0 : ¬ (wl = [] ∨ wl.all digB = false) := fun h => h.elim h1 (fun h => by rw [h2] at h; cases h)
    by_cases h3 : wl.head? = some 48 ∧ (1 < wl.length ∨ mi = true)
    · exact .inr (.inr (.inl ⟨h1, rfl, h3.1, h3.2, by unfold numC; rw [if_neg h0, if_pos h3]⟩))
    · by_cases h4 : 9007199254740991 < decW wl
      · exact .inr (.inr (.inr ⟨h1, rfl, h3, .inl ⟨h4, by unfold numC; rw [if_neg h0, if_neg h3, if_pos h4]⟩⟩))
      · exact .inr (.inr (.inr ⟨h1, rfl, h3, .inr ⟨Nat.not_lt.1 h4, by unfold numC; rw [if_neg h0, if_neg h3, if_neg h4]⟩⟩))
end Go.Proofs.YtcmkepkeeahioaaGreatDoor
namespace Go.Proofs.YtcmkepkeeahioaaGreatDoor
open Go.RowKit
theorem head_at (s : ByteArray) (h : 0 < s.size) : ((s[0].toNat : Int) == 48) = decide (s.data.toList.head? = some 48) := by
  have e : s.data.toList.head? = some s[0] := by
    rw [List.head?_eq_getElem?, List.getElem?_eq_getElem (by rw [size_len]; omega)]; rfl
  rw [e]
  by_cases hc : s[0] = 48
  · rw [hc]; rfl
  · rw [decide_eq_false (by simpa using hc), beq_eq_false_iff_ne]
    intro h'; exact hc (UInt8.toNat_inj.1 (by show _ = 48; omega))
theorem empty_iff (l : List UInt8) : (bs l).toList.isEmpty = decide (l = []) := by
  rw [isEmpty_bs]; cases l <;> rfl
set_option maxRecDepth 100000 in
set_option maxHeartbeats 4000000 in
theorem rd_number (b : Nat) (s : ByteArray) (r : List UInt8) (w : World) (h : RL b s r 0 w) (hs : s.size ≤ 1000000) (hE : NEnv w) :
    Calls Tryz.prog 52 #[.pointer (some ⟨b, 0, none⟩)] w (VPost b s (numV r) w) := by
  obtain ⟨h1, hsuf⟩ := h
  obtain ⟨c0, c1, c2, f1, f2⟩ := h1.cells
  obtain ⟨n, hn⟩ : ∃ n, s.size - r.length = n := ⟨_, rfl⟩
  have hle := suf_le hsuf
  rw [hn] at c1 h1
  have hext := ext_rest hsuf
  rw [hn] at hext
  have hes : (s.extract n s.size).size = r.length := by rw [← size_len, hext]
  have hn1 : n ≤ s.size := by omega
  have hnr : n + r.length = s.size := by omega
  have g1 : decide ((0 : Int) ≤ (n : Int)) = true := decide_eq_true (by omega)
  have g2 : decide ((n : Int) ≤ (s.size : Int)) = true := decide_eq_true (by omega)
  obtain ⟨E, hEE⟩ : ∃ E, s.extract n s.size = E := ⟨_, rfl⟩
  rw [hEE] at hext hes
  have HE := Lib.hid hEE
  have HTL := Lib.hid (fun w => c_triml E w)
  rw [hext] at HTL
  obtain ⟨tw1, tw2, tw3⟩ := tw_len r
  obtain ⟨D, hD⟩ : ∃ D, bs (r.dropWhile numCh) = D := ⟨_, rfl⟩
  have hDs : D.size = (r.dropWhile numCh).length := by rw [← hD, bs_size]
  rw [hD] at HTL
  obtain ⟨k, hk⟩ : ∃ k, r.length - D.size = k := ⟨_, rfl⟩
  have tk : IntKind.i64.wrap ((E.size : Int) - (D.size : Int)) = (k : Int) := by rw [IntKind.wrap_i64]; omega
  have hkE : k ≤ E.size := by omega
  have tk2 : wrap64 ((E.size : Int) - (D.size : Int)) = (k : Int) := by unfold wrap64; omega
  obtain ⟨M, hM⟩ : ∃ M, E.extract 0 k = M := ⟨_, rfl⟩
  have hMl : M.data.toList = r.takeWhile numCh := by
    rw [← hM, extract_bs, bs_data, hext, List.drop_zero, tw1, ← hk, hDs]
  have HM := Lib.hid hM
  have HCP := Lib.hid (fun w => c_cut M w)
  obtain ⟨mi, hmi⟩ : ∃ mi, decide (M.data.toList.head? = some 45) = mi := ⟨_, rfl⟩
  obtain ⟨wl, hwl⟩ : ∃ wl, (if M.data.toList.head? = some 45 then M.data.toList.tail else M.data.toList) = wl := ⟨_, rfl⟩
  have hpt := numT_parts M.data.toList
  rw [hmi, hwl] at hpt HCP
  rw [hMl] at hpt
  have hwll : wl.length ≤ 1000000 := by
    rw [← hwl, hMl]
    have : (r.takeWhile numCh).length ≤ r.length := by omega
    split
    · rw [List.length_tail]; omega
    · omega
  obtain ⟨A, hA⟩ : ∃ A, numV r = A := ⟨_, rfl⟩
  rw [hA]
  unfold numV at hA
  rw [hpt] at hA
  obtain ⟨Wd, hWd⟩ : ∃ Wd, bs wl = Wd := ⟨_, rfl⟩
  rw [hWd] at HCP
  have hWs : Wd.size = wl.length := by rw [← hWd, bs_size]
  have hWl : Wd.data.toList = wl := by rw [← hWd, bs_data]
  have hWe := empty_iff wl
  rw [hWd] at hWe
  have HSF := Lib.hid hsuf
  have HN := Lib.hid hn
  have HRD := Lib.hid (fun W (hW : Below w.heap.size w W) => And.intro (h1.below hW) (Touch.of_below (S := fun g => g = b) hW))
  have HENV := Lib.hid (fun W (hW : Below w.heap.size w W) => hE.below hW)
  have HB0 := Lib.hid (fun m => nb_drewN (Below.refl w.heap.size w) m)
  have HTR := Lib.hid (fun w => c_trim Wd w (by omega))
  have HCS := Lib.hid (fun (hd : wl.all digB = true) w => c_signs Wd w (by omega) (by rw [hWl]; exact hd))
  have hTe : (bs (Go.Lib.trimS Wd.data.toList digSet)).toList.isEmpty = wl.all digB := by rw [isEmpty_bs, hWl]; exact trim_dig wl
  obtain ⟨TR, hTR⟩ : ∃ TR, bs (Go.Lib.trimS Wd.data.toList digSet) = TR := ⟨_, rfl⟩
  rw [hTR] at HTR hTe
  have hhead := fun h => head_at Wd h
  rw [hWl] at hhead
  have hat := fun h0 hd => atoi_decW wl h0 hd
  have hok := fun v (h : Go.Lib.atoiAll Wd.data.toList = .ok v) w => c_atoi_ok Wd (by omega) v h w
  have hrg := fun (h : Go.Lib.atoiAll Wd.data.toList = .range) w hE => c_atoi_range Wd (by omega) h w hE
  rw [hWl] at hok hrg
  have HDD : Hid (D.size ≤ r.length ∧ r.dropWhile numCh <:+ r ∧ s.size - (r.dropWhile numCh).length = n + k) := Lib.hid ⟨by omega, List.dropWhile_suffix _, by omega⟩
  have hnk : n + k ≤ s.size := by omega
  clear hext hEE hsuf h1 hn hE hM hMl hmi hwl hpt hWd hWl hTR tw1 tw2 tw3 hD hDs hk c2 f1 f2 hes hnr
  rcases numC_cases mi wl with ⟨q1, qA⟩ | ⟨q1, q2, qA⟩ | ⟨q1, q2, q3, q4, qA⟩ | ⟨q1, q2, q3, q5⟩
  · rw [qA, if_neg (by decide)] at hA
    have HA := Lib.hid hA
    rw [decide_eq_true q1] at hWe
    clear hA qA q1 hTe hhead hat hok hrg
    go_enter Tryz.func52, Tryz.ntmps52
    go_wp2_with fail
    go_quiet (fail)
    rw [HE.out]
    go_wp2_with fail
    refine (HTL.out _).mono ?_
    rintro e w1 ⟨rfl, hb1⟩
    have HB1 := Lib.hid (bstep (HB0.out _) hb1)
    clear hb1
    go_wp2_with fail
    rw [HM.out]
    go_wp2_with fail
    refine (HCP.out _).mono ?_
    rintro e w2 ⟨rfl, rfl⟩
    obtain ⟨d0, d1, d2, -, -⟩ := (HRD.out _ HB1.out).1.cells
    go_wp2_with fail
    refine (rd_fail b n n 4 s _ (HRD.out _ HB1.out).1).mono ?_
    rintro e w3 ⟨rfl, h2, t2⟩
    go_wp2_with fail
    go_ret
    exact ⟨.nilIface, rfl, rfl, by rw [← HA.out]; exact ⟨by rw [HN.out]; exact h2, HSF.out⟩, touch2 (HRD.out _ HB1.out).2 t2, by rw [← HA.out]; exact fun h => absurd h (by show ¬ (4 = 0); decide)⟩
  · rw [qA, if_neg (by decide)] at hA
    have HA := Lib.hid hA
    rw [decide_eq_false q1] at hWe
    rw [q2] at hTe
    clear hA qA q1 q2 hhead hat hok hrg
    go_enter Tryz.func52, Tryz.ntmps52
    go_wp2_with fail
    go_quiet (fail)
    rw [HE.out]
    go_wp2_with fail
    refine (HTL.out _).mono ?_
    rintro e w1 ⟨rfl, hb1⟩
    have HB1 := Lib.hid (bstep (HB0.out _) hb1)
    clear hb1
    go_wp2_with fail
    rw [HM.out]
    go_wp2_with fail
    refine (HCP.out _).mono ?_
    rintro e w2 ⟨rfl, rfl⟩
    go_wp2_with fail
    refine (HTR.out _).mono ?_
    rintro e w3 ⟨rfl, hb3⟩
    have HB3 := Lib.hid (bstep HB1.out hb3)
    clear hb3
    obtain ⟨d0, d1, d2, df1, df2⟩ := (HRD.out _ HB3.out).1.cells
    go_wp2_with fail
    refine (rd_fail b n n 4 s _ (HRD.out _ HB3.out).1).mono ?_
    rintro e w9 ⟨rfl, h2, t2⟩
    go_wp2_with fail
    go_ret
    exact ⟨.nilIface, rfl, rfl, by rw [← HA.out]; exact ⟨by rw [HN.out]; exact h2, HSF.out⟩, touch2 (HRD.out _ HB3.out).2 t2, by rw [← HA.out]; exact fun h => absurd h (by show ¬ (4 = 0); decide)⟩
  · have hpos : 0 < Wd.size := by rw [hWs]; exact List.length_pos_iff.2 q1
    rw [qA, if_neg (by decide)] at hA
    have HA := Lib.hid hA
    rw [decide_eq_false q1] at hWe
    rw [q2] at hTe
    have th := hhead hpos
    rw [decide_eq_true q3] at th
    by_cases q6 : 1 < Wd.size
    case' pos =>
      have t1 : decide ((Wd.size : Int) > 1) = true := decide_eq_true (by omega)
    case' neg =>
      have t1 : decide ((Wd.size : Int) > 1) = false := decide_eq_false (by omega)
      obtain rfl : mi = true := q4.elim (fun h => absurd (hWs ▸ h) q6) (fun h => h)
    all_goals
      clear hA qA q1 q3 q4 q6 hhead hat hok hrg hWs
      go_enter Tryz.func52, Tryz.ntmps52
      go_wp2_with fail
      go_quiet (fail)
      rw [HE.out]
      go_wp2_with fail
      refine (HTL.out _).mono ?_
      rintro e w1 ⟨rfl, hb1⟩
      have HB1 := Lib.hid (bstep (HB0.out _) hb1)
      clear hb1
      go_wp2_with fail
      rw [HM.out]
      go_wp2_with fail
      refine (HCP.out _).mono ?_
      rintro e w2 ⟨rfl, rfl⟩
      go_wp2_with fail
      refine (HTR.out _).mono ?_
      rintro e w3 ⟨rfl, hb3⟩
      have HB3 := Lib.hid (bstep HB1.out hb3)
      clear hb3
      go_wp2_with fail
      refine (HCS.out q2 _).mono ?_
      rintro e w4 ⟨rfl, hb4⟩
      have HB4 := Lib.hid (bstep HB3.out hb4)
      clear hb4
      obtain ⟨d0, d1, d2, df1, df2⟩ := (HRD.out _ HB4.out).1.cells
      go_wp2_with fail
      refine (rd_fail b n n 4 s _ (HRD.out _ HB4.out).1).mono ?_
      rintro e w9 ⟨rfl, h2, t2⟩
      go_wp2_with fail
      go_ret
      exact ⟨.nilIface, rfl, rfl, by rw [← HA.out]; exact ⟨by rw [HN.out]; exact h2, HSF.out⟩, touch2 (HRD.out _ HB4.out).2 t2, by rw [← HA.out]; exact fun h => absurd h (by show ¬ (4 = 0); decide)⟩
  · have hpos : 0 < Wd.size := by rw [hWs]; exact List.length_pos_iff.2 q1
    rw [decide_eq_false q1] at hWe
    rw [q2] at hTe
    have th := hhead hpos
    have hat2 := hat q1 q2
    have q7 : ((Wd[0].toNat : Int) == 48) = true → decide ((Wd.size : Int) > 1) = false ∧ mi = false := fun h => by
      rw [th] at h
      have h0 := of_decide_eq_true h
      refine ⟨decide_eq_false fun h1 => q3 ⟨h0, .inl (by omega)⟩, ?_⟩
      cases mi with
      | true => exact absurd ⟨h0, .inr rfl⟩ q3
      | false => rfl
    clear th hat hhead q3 q1
    by_cases hbig : decW wl < 9223372036854775808
    · rw [if_pos hbig] at hat2
      have HK := Lib.hid (fun w => hok _ hat2 w)
      obtain ⟨N, hN⟩ : ∃ N, decW wl = N := ⟨_, rfl⟩
      rw [hN] at HK q5
      rcases q5 with ⟨q5, qA⟩ | ⟨q5, qA⟩
      · rw [qA, if_neg (by decide)] at hA
        have HA := Lib.hid hA
        have tb : decide ((N : Int) > 9007199254740991) = true := decide_eq_true (by omega)
        clear hA qA q5 hN hat2 hbig hok hrg hWs
        cases t48 : ((Wd[0].toNat : Int) == 48) with
        | true =>
          obtain ⟨t1, rfl⟩ := q7 t48
          clear q7
          go_enter Tryz.func52, Tryz.ntmps52
          go_wp2_with fail
          go_quiet (fail)
          rw [HE.out]
          go_wp2_with fail
          refine (HTL.out _).mono ?_
          rintro e w1 ⟨rfl, hb1⟩
          have HB1 := Lib.hid (bstep (HB0.out _) hb1)
          clear hb1
          go_wp2_with fail
          rw [HM.out]
          go_wp2_with fail
          refine (HCP.out _).mono ?_
          rintro e w2 ⟨rfl, rfl⟩
          go_wp2_with fail
          refine (HTR.out _).mono ?_
          rintro e w3 ⟨rfl, hb3⟩
          have HB3 := Lib.hid (bstep HB1.out hb3)
          clear hb3
          go_wp2_with fail
          refine (HCS.out q2 _).mono ?_
          rintro e w4 ⟨rfl, hb4⟩
          have HB4 := Lib.hid (bstep HB3.out hb4)
          clear hb4
          go_wp2_with fail
          refine (HK.out _).mono ?_
          rintro e w5 ⟨rfl, hb5⟩
          have HB5 := Lib.hid (bstep HB4.out hb5)
          clear hb5
          obtain ⟨d0, d1, d2, df1, df2⟩ := (HRD.out _ HB5.out).1.cells
          go_wp2_with fail
          refine (rd_fail b n n 11 s _ (HRD.out _ HB5.out).1).mono ?_
          rintro e w9 ⟨rfl, h2, t2⟩
          go_wp2_with fail
          go_ret
          exact ⟨.nilIface, rfl, rfl, by rw [← HA.out]; exact ⟨by rw [HN.out]; exact h2, HSF.out⟩, touch2 (HRD.out _ HB5.out).2 t2, by rw [← HA.out]; exact fun h => absurd h (by show ¬ (11 = 0); decide)⟩
        | false =>
          clear q7
          go_enter Tryz.func52, Tryz.ntmps52
          go_wp2_with fail
          go_quiet (fail)
          rw [HE.out]
          go_wp2_with fail
          refine (HTL.out _).mono ?_
          rintro e w1 ⟨rfl, hb1⟩
          have HB1 := Lib.hid (bstep (HB0.out _) hb1)
          clear hb1
          go_wp2_with fail
          rw [HM.out]
          go_wp2_with fail
          refine (HCP.out _).mono ?_
          rintro e w2 ⟨rfl, rfl⟩
          go_wp2_with fail
          refine (HTR.out _).mono ?_
          rintro e w3 ⟨rfl, hb3⟩
          have HB3 := Lib.hid (bstep HB1.out hb3)
          clear hb3
          go_wp2_with fail
          refine (HCS.out q2 _).mono ?_
          rintro e w4 ⟨rfl, hb4⟩
          have HB4 := Lib.hid (bstep HB3.out hb4)
          clear hb4
          go_wp2_with fail
          refine (HK.out _).mono ?_
          rintro e w5 ⟨rfl, hb5⟩
          have HB5 := Lib.hid (bstep HB4.out hb5)
          clear hb5
          obtain ⟨d0, d1, d2, df1, df2⟩ := (HRD.out _ HB5.out).1.cells
          go_wp2_with fail
          refine (rd_fail b n n 11 s _ (HRD.out _ HB5.out).1).mono ?_
          rintro e w9 ⟨rfl, h2, t2⟩
          go_wp2_with fail
          go_ret
          exact ⟨.nilIface, rfl, rfl, by rw [← HA.out]; exact ⟨by rw [HN.out]; exact h2, HSF.out⟩, touch2 (HRD.out _ HB5.out).2 t2, by rw [← HA.out]; exact fun h => absurd h (by show ¬ (11 = 0); decide)⟩
      · rw [qA, if_pos rfl] at hA
        have tb : decide ((N : Int) > 9007199254740991) = false := decide_eq_false (by omega)
        have tn : IntKind.i64.wrap (-(N : Int)) = -(N : Int) := by rw [IntKind.wrap_i64]; omega
        have tnk : IntKind.i64.wrap ((n : Int) + (k : Int)) = (n : Int) + (k : Int) := by rw [IntKind.wrap_i64]; omega
        have HFIN : Hid (∀ w', Below w.heap.size w w' → ∃ x, x = .iface 3 (.int .i64 (if mi = true then -(N : Int) else (N : Int))) ∧ RL b s A.2.1 A.2.2 (w'.setCell ⟨b, 1, none⟩ (.int .i64 ((n : Int) + (k : Int)))) ∧ Touch (fun g => g = b) w (w'.setCell ⟨b, 1, none⟩ (.int .i64 ((n : Int) + (k : Int)))) ∧ (A.2.2 = 0 → AV (fun i => w.heap.size ≤ i ∧ i < (w'.setCell ⟨b, 1, none⟩ (.int .i64 ((n : Int) + (k : Int)))).heap.size) (w'.setCell ⟨b, 1, none⟩ (.int .i64 ((n : Int) + (k : Int)))) A.1 x)) := Lib.hid (fun w' hb => by
          obtain ⟨e1, e2⟩ := HRD.out w' hb
          refine ⟨_, rfl, ?_, touch2 e2 (touch_rd 1 _), ?_⟩
          · rw [← hA]
            refine ⟨?_, HDD.out.2.1.trans HSF.out⟩
            have := e1.setAt (n + k)
            rw [Int.natCast_add] at this
            show RD b s (s.size - (r.dropWhile numCh).length) 0 _
            rw [HDD.out.2.2]
            exact this
          · rw [← hA]
            intro _
            show AV _ _ (.num _) _
            rw [AV])
        clear hA qA q5 hN hat2 hbig hok hrg hWs
        cases t48 : ((Wd[0].toNat : Int) == 48) with
        | true =>
          obtain ⟨t1, rfl⟩ := q7 t48
          clear q7
          go_enter Tryz.func52, Tryz.ntmps52
          go_wp2_with fail
          go_quiet (fail)
          rw [HE.out]
          go_wp2_with fail
          refine (HTL.out _).mono ?_
          rintro e w1 ⟨rfl, hb1⟩
          have HB1 := Lib.hid (bstep (HB0.out _) hb1)
          clear hb1
          go_wp2_with fail
          rw [HM.out]
          go_wp2_with fail
          refine (HCP.out _).mono ?_
          rintro e w2 ⟨rfl, rfl⟩
          go_wp2_with fail
          refine (HTR.out _).mono ?_
          rintro e w3 ⟨rfl, hb3⟩
          have HB3 := Lib.hid (bstep HB1.out hb3)
          clear hb3
          go_wp2_with fail
          refine (HCS.out q2 _).mono ?_
          rintro e w4 ⟨rfl, hb4⟩
          have HB4 := Lib.hid (bstep HB3.out hb4)
          clear hb4
          go_wp2_with fail
          refine (HK.out _).mono ?_
          rintro e w5 ⟨rfl, hb5⟩
          have HB5 := Lib.hid (bstep HB4.out hb5)
          clear hb5
          obtain ⟨d0, d1, d2, df1, df2⟩ := (HRD.out _ HB5.out).1.cells
          go_wp2_with fail
          go_ret
          obtain ⟨x, hx, y1, y2, y3⟩ := HFIN.out _ HB5.out
          exact ⟨x, by rw [hx]; rfl, by rw [hx]; rfl, y1, y2, y3⟩
        | false =>
          clear q7
          cases mi
          all_goals
            go_enter Tryz.func52, Tryz.ntmps52
            go_wp2_with fail
            go_quiet (fail)
            rw [HE.out]
            go_wp2_with fail
            refine (HTL.out _).mono ?_
            rintro e w1 ⟨rfl, hb1⟩
            have HB1 := Lib.hid (bstep (HB0.out _) hb1)
            clear hb1
            go_wp2_with fail
            rw [HM.out]
            go_wp2_with fail
            refine (HCP.out _).mono ?_
            rintro e w2 ⟨rfl, rfl⟩
            go_wp2_with fail
            refine (HTR.out _).mono ?_
            rintro e w3 ⟨rfl, hb3⟩
            have HB3 := Lib.hid (bstep HB1.out hb3)
            clear hb3
            go_wp2_with fail
            refine (HCS.out q2 _).mono ?_
            rintro e w4 ⟨rfl, hb4⟩
            have HB4 := Lib.hid (bstep HB3.out hb4)
            clear hb4
            go_wp2_with fail
            refine (HK.out _).mono ?_
            rintro e w5 ⟨rfl, hb5⟩
            have HB5 := Lib.hid (bstep HB4.out hb5)
            clear hb5
            obtain ⟨d0, d1, d2, df1, df2⟩ := (HRD.out _ HB5.out).1.cells
            go_wp2_with fail
            go_ret
            obtain ⟨x, hx, y1, y2, y3⟩ := HFIN.out _ HB5.out
            exact ⟨x, by rw [hx]; rfl, by rw [hx]; rfl, y1, y2, y3⟩
    · rw [if_neg hbig] at hat2
      have HK := Lib.hid (fun w hE => hrg hat2 w hE)
      rcases q5 with ⟨q5, qA⟩ | ⟨q5, qA⟩
      · rw [qA, if_neg (by decide)] at hA
        have HA := Lib.hid hA
        clear hA qA q5 hat2 hbig hok hrg hWs
        cases t48 : ((Wd[0].toNat : Int) == 48) with
        | true =>
          obtain ⟨t1, rfl⟩ := q7 t48
          clear q7
          go_enter Tryz.func52, Tryz.ntmps52
          go_wp2_with fail
          go_quiet (fail)
          rw [HE.out]
          go_wp2_with fail
          refine (HTL.out _).mono ?_
          rintro e w1 ⟨rfl, hb1⟩
          have HB1 := Lib.hid (bstep (HB0.out _) hb1)
          clear hb1
          go_wp2_with fail
          rw [HM.out]
          go_wp2_with fail
          refine (HCP.out _).mono ?_
          rintro e w2 ⟨rfl, rfl⟩
          go_wp2_with fail
          refine (HTR.out _).mono ?_
          rintro e w3 ⟨rfl, hb3⟩
          have HB3 := Lib.hid (bstep HB1.out hb3)
          clear hb3
          go_wp2_with fail
          refine (HCS.out q2 _).mono ?_
          rintro e w4 ⟨rfl, hb4⟩
          have HB4 := Lib.hid (bstep HB3.out hb4)
          clear hb4
          go_wp2_with fail
          refine (HK.out _ (HENV.out _ HB4.out)).mono ?_
          rintro e w5 ⟨y1, y2, y3, rfl, hb5⟩
          have HB5 := Lib.hid (bstep HB4.out hb5)
          clear hb5
          obtain ⟨d0, d1, d2, df1, df2⟩ := (HRD.out _ HB5.out).1.cells
          go_wp2_with fail
          refine (rd_fail b n n 11 s _ (HRD.out _ HB5.out).1).mono ?_
          rintro e w9 ⟨rfl, h2, t2⟩
          go_wp2_with fail
          go_ret
          exact ⟨.nilIface, rfl, rfl, by rw [← HA.out]; exact ⟨by rw [HN.out]; exact h2, HSF.out⟩, touch2 (HRD.out _ HB5.out).2 t2, by rw [← HA.out]; exact fun h => absurd h (by show ¬ (11 = 0); decide)⟩
        | false =>
          clear q7
          go_enter Tryz.func52, Tryz.ntmps52
          go_wp2_with fail
          go_quiet (fail)
          rw [HE.out]
          go_wp2_with fail
          refine (HTL.out _).mono ?_
          rintro e w1 ⟨rfl, hb1⟩
          have HB1 := Lib.hid (bstep (HB0.out _) hb1)
          clear hb1
          go_wp2_with fail
          rw [HM.out]
          go_wp2_with fail
          refine (HCP.out _).mono ?_
          rintro e w2 ⟨rfl, rfl⟩
          go_wp2_with fail
          refine (HTR.out _).mono ?_
          rintro e w3 ⟨rfl, hb3⟩
          have HB3 := Lib.hid (bstep HB1.out hb3)
          clear hb3
          go_wp2_with fail
          refine (HCS.out q2 _).mono ?_
          rintro e w4 ⟨rfl, hb4⟩
          have HB4 := Lib.hid (bstep HB3.out hb4)
          clear hb4
          go_wp2_with fail
          refine (HK.out _ (HENV.out _ HB4.out)).mono ?_
          rintro e w5 ⟨y1, y2, y3, rfl, hb5⟩
          have HB5 := Lib.hid (bstep HB4.out hb5)
          clear hb5
          obtain ⟨d0, d1, d2, df1, df2⟩ := (HRD.out _ HB5.out).1.cells
          go_wp2_with fail
          refine (rd_fail b n n 11 s _ (HRD.out _ HB5.out).1).mono ?_
          rintro e w9 ⟨rfl, h2, t2⟩
          go_wp2_with fail
          go_ret
          exact ⟨.nilIface, rfl, rfl, by rw [← HA.out]; exact ⟨by rw [HN.out]; exact h2, HSF.out⟩, touch2 (HRD.out _ HB5.out).2 t2, by rw [← HA.out]; exact fun h => absurd h (by show ¬ (11 = 0); decide)⟩
      · omega
end Go.Proofs.YtcmkepkeeahioaaGreatDoor
namespace Go.Proofs.YtcmkepkeeahioaaGreatDoor
open Go.RowKit
theorem dig_idx (c : UInt8) : decide (Go.Lib.indexByte [48, 49, 50, 51, 52, 53, 54, 55, 56, 57] c ≥ 0) = digB c := by
  have := byte_dec (p := fun c => decide (Go.Lib.indexByte [48, 49, 50, 51, 52, 53, 54, 55, 56, 57] c ≥ 0) == digB c) (by decide +kernel) c
  exact eq_of_beq this
theorem c_digit (c : UInt8) (w : World) : Calls Tryz.prog 46 #[.string ⟨#[48, 49, 50, 51, 52, 53, 54, 55, 56, 57]⟩, .int .u8 (c.toNat : Int)] w fun e w' => e = .returned (.int .i64 (Go.Lib.indexByte [48, 49, 50, 51, 52, 53, 54, 55, 56, 57] c)) ∧ w' = w := by
  have h := Tryz.strings_IndexByte ⟨#[48, 49, 50, 51, 52, 53, 54, 55, 56, 57]⟩ (c.toNat : Int) w
  rw [Int.toNat_natCast, show c.toNat.toUInt8 = c by rw [Nat.toUInt8_eq, UInt8.ofNat_toNat]] at h
  exact h
theorem ne_int (c : UInt8) (k : Nat) (hk : k < 256) (h : c ≠ UInt8.ofNat k) : ((c.toNat : Int) == (k : Int)) = false := by
  rw [beq_eq_false_iff_ne]
  intro e
  apply h
  have : c.toNat = k := by omega
  rw [← this, UInt8.ofNat_toNat]
theorem VPost.drewN {b : Nat} {s : ByteArray} {p : Res} {w : World} {e : Ending} {w' : World} {m : Nat} (h : VPost b s p (w.drewN m) e w') : VPost b s p w e w' := by
  obtain ⟨x, h1, h2, h3, h4, h5⟩ := h
  exact ⟨x, h1, h2, h3, touch2 ((Touch.refl _ _).drewN m) h4, h5⟩
/-- a value by its first sign -/
theorem valV_cons (f d : Nat) (c : UInt8) (t : List UInt8) : valV (f + 1) d (c :: t) =
    if c = 110 then wordV (c :: t) [110, 117, 108, 108] .nul else if c = 102 then wordV (c :: t) [102, 97, 108, 115, 101] (.boo false) else if c = 116 then wordV (c :: t) [116, 114, 117, 101] (.boo true)
    else if c = 34 then (if (txtV (c :: t)).2.2 = 0 then (.txt (txtV (c :: t)).1, (txtV (c :: t)).2.1, 0) else (.nul, (txtV (c :: t)).2.1, (txtV (c :: t)).2.2))
    else if c = 91 then listQ f d t else if c = 123 then objQ f d t else if c = 45 ∨ digB c = true then numV (c :: t) else (.nul, c :: t, 4) := by
  rw [valV]
  by_cases c5 : c = 91
  · subst c5; unfold listQ; rfl
  by_cases c6 : c = 123
  · subst c6; unfold objQ; rfl
  simp only [if_neg c5, if_neg c6]
set_option maxRecDepth 100000 in
set_option maxHeartbeats 4000000 in
theorem rd_value (w0 : World) (hE : NEnv w0) (b : Nat) (s : ByteArray) (hlo : w0.heap.size ≤ b) (hs : s.size ≤ 1000000) : ∀ (F d : Nat) (r : List UInt8) (w : World), F ≤ 1000000 → d ≤ 10 → RL b s r 0 w → Below w0.heap.size w0 w → (valV F d r).2.2 ≠ 99 →
    Calls Tryz.prog 30 #[.pointer (some ⟨b, 0, none⟩), .int .i64 (d : Int)] w (VPost b s (valV F d r) w) := by
  intro F
  induction F using Nat.strongRecOn with
  | _ F ih =>
  intro d r w hF hd h hb0 h99
  cases F with
  | zero => exact absurd (by rw [valV]) h99
  | succ f =>
  have HH := Lib.hid h
  obtain ⟨c0, c1, c2, f1, f2⟩ := h.1.cells
  cases r with
  | nil =>
    have t1 : ((s.size : Int) == (s.size : Int)) = true := by rw [beq_iff_eq]
    have c1' : w.cell? ⟨b, 1, none⟩ = some (.int .i64 (s.size : Int)) := c1
    have HW := Lib.hid (fun m => rd_wrong b s [] (w.drewN m) (h.drewN m) hs)
    rw [valV]
    clear c1 h h99 ih
    go_enter Tryz.func30, Tryz.ntmps30
    go_wp2_with fail
    go_quiet (fail)
    go_wp2_with fail
    refine (HW.out _).mono ?_
    rintro e w2 ⟨rfl, h2, t2⟩
    go_wp2_with fail
    go_ret
    exact ⟨.nilIface, rfl, rfl, h2, touch2 ((Touch.refl _ _).drewN _) t2, fun h => absurd h (by decide)⟩
  | cons x t =>
    have HV : Hid (∀ f', f' < f → ¬ 4 < d → ∀ r W, RL b s r 0 W → Below w0.heap.size w0 W → (valV f' (d + 1) r).2.2 ≠ 99 → Calls Tryz.prog 30 #[.pointer (some ⟨b, 0, none⟩), .int .i64 ((d : Int) + 1)] W (VPost b s (valV f' (d + 1) r) W)) := Lib.hid (fun f' hf' h4 r W hr hb h9 => ih f' (by omega) (d + 1) r W (by omega) (by omega) hr hb h9)
    obtain ⟨n, hn, e1, e2, e3⟩ := suf_head h.2
    rw [e1] at c1
    have t1 : ((n : Int) == (s.size : Int)) = false := by rw [beq_eq_false_iff_ne]; omega
    rw [valV_cons] at h99 ⊢
    clear ih e1 e3
    by_cases q110 : x = 110
    · subst q110
      rw [if_pos rfl] at h99 ⊢
      have u110 : ((s[n].toNat : Int) == 110) = true := by rw [e2]; rfl
      have HW := Lib.hid (fun m => rd_word b s (110 :: t) ⟨#[110, 117, 108, 108]⟩ (.nul) (.nilIface) (w.drewN m) (h.drewN m) hs (by decide) (fun S w => by rw [AV]))
      clear e2 h h99
      go_enter Tryz.func30, Tryz.ntmps30
      go_wp2_with fail
      go_quiet (fail)
      go_wp2_with fail
      go_quiet (fail)
      go_wp2_with fail
      refine (HW.out _).mono ?_
      rintro e w2 ⟨x, rfl, x1, h2, t2, a2⟩
      have HF := Lib.hid (And.intro x1 (And.intro h2 (And.intro t2 a2)))
      clear x1 h2 t2 a2
      go_wp2_with fail
      go_ret
      exact ⟨x, rfl, HF.out.1, HF.out.2.1, touch2 ((Touch.refl _ _).drewN _) HF.out.2.2.1, HF.out.2.2.2⟩
    by_cases q102 : x = 102
    · subst q102
      rw [if_neg (show ¬ ((102 : UInt8) = 110) by decide)] at h99 ⊢
      rw [if_pos rfl] at h99 ⊢
      have u110 : ((s[n].toNat : Int) == 110) = false := by rw [e2]; rfl
      have u102 : ((s[n].toNat : Int) == 102) = true := by rw [e2]; rfl
      have HW := Lib.hid (fun m => rd_word b s (102 :: t) ⟨#[102, 97, 108, 115, 101]⟩ (.boo false) (.iface 4 (.bool false)) (w.drewN m) (h.drewN m) hs (by decide) (fun S w => by rw [AV]))
      clear e2 h h99
      go_enter Tryz.func30, Tryz.ntmps30
      go_wp2_with fail
      go_quiet (fail)
      go_wp2_with fail
      go_quiet (fail)
      go_wp2_with fail
      refine (HW.out _).mono ?_
      rintro e w2 ⟨x, rfl, x1, h2, t2, a2⟩
      have HF := Lib.hid (And.intro x1 (And.intro h2 (And.intro t2 a2)))
      clear x1 h2 t2 a2
      go_wp2_with fail
      go_ret
      exact ⟨x, rfl, HF.out.1, HF.out.2.1, touch2 ((Touch.refl _ _).drewN _) HF.out.2.2.1, HF.out.2.2.2⟩
    by_cases q116 : x = 116
    · subst q116
      rw [if_neg (show ¬ ((116 : UInt8) = 110) by decide)] at h99 ⊢
      rw [if_neg (show ¬ ((116 : UInt8) = 102) by decide)] at h99 ⊢
      rw [if_pos rfl] at h99 ⊢
      have u110 : ((s[n].toNat : Int) == 110) = false := by rw [e2]; rfl
      have u102 : ((s[n].toNat : Int) == 102) = false := by rw [e2]; rfl
      have u116 : ((s[n].toNat : Int) == 116) = true := by rw [e2]; rfl
      have HW := Lib.hid (fun m => rd_word b s (116 :: t) ⟨#[116, 114, 117, 101]⟩ (.boo true) (.iface 4 (.bool true)) (w.drewN m) (h.drewN m) hs (by decide) (fun S w => by rw [AV]))
      clear e2 h h99
      go_enter Tryz.func30, Tryz.ntmps30
      go_wp2_with fail
      go_quiet (fail)
      go_wp2_with fail
      go_quiet (fail)
      go_wp2_with fail
      refine (HW.out _).mono ?_
      rintro e w2 ⟨x, rfl, x1, h2, t2, a2⟩
      have HF := Lib.hid (And.intro x1 (And.intro h2 (And.intro t2 a2)))
      clear x1 h2 t2 a2
      go_wp2_with fail
      go_ret
      exact ⟨x, rfl, HF.out.1, HF.out.2.1, touch2 ((Touch.refl _ _).drewN _) HF.out.2.2.1, HF.out.2.2.2⟩
    by_cases q34 : x = 34
    · subst q34
      rw [if_neg (show ¬ ((34 : UInt8) = 110) by decide)] at h99 ⊢
      rw [if_neg (show ¬ ((34 : UInt8) = 102) by decide)] at h99 ⊢
      rw [if_neg (show ¬ ((34 : UInt8) = 116) by decide)] at h99 ⊢
      rw [if_pos rfl] at h99 ⊢
      have u110 : ((s[n].toNat : Int) == 110) = false := by rw [e2]; rfl
      have u102 : ((s[n].toNat : Int) == 102) = false := by rw [e2]; rfl
      have u116 : ((s[n].toNat : Int) == 116) = false := by rw [e2]; rfl
      have u34 : ((s[n].toNat : Int) == 34) = true := by rw [e2]; rfl
      obtain ⟨R, hR⟩ : ∃ R : Res, (if (txtV (34 :: t)).2.2 = 0 then (JV.txt (txtV (34 :: t)).1, (txtV (34 :: t)).2.1, 0) else (.nul, (txtV (34 :: t)).2.1, (txtV (34 :: t)).2.2)) = R := ⟨_, rfl⟩
      rw [hR]
      have HR := Lib.hid hR
      have HW := Lib.hid (fun m => rd_text b s (34 :: t) (w.drewN m) (h.drewN m) hs (hE.tabs.below (nb_drewN hb0 m)))
      clear e2 h h99 hR
      go_enter Tryz.func30, Tryz.ntmps30
      go_wp2_with fail
      go_quiet (fail)
      go_wp2_with fail
      go_quiet (fail)
      go_wp2_with fail
      refine (HW.out _).mono ?_
      rintro e w2 ⟨y, rfl, h2, t2, ht⟩
      have HF := Lib.hid (And.intro h2 (And.intro t2 ht))
      clear h2 t2 ht
      go_wp2_with fail
      go_ret
      refine ⟨.iface 9 (.string y), rfl, rfl, ?_, touch2 ((Touch.refl _ _).drewN _) HF.out.2.1, ?_⟩
      · rw [← HR.out]; by_cases h0 : (txtV (34 :: t)).2.2 = 0
        · rw [if_pos h0]; have := HF.out.1; rw [h0] at this; exact this
        · rw [if_neg h0]; exact HF.out.1
      · rw [← HR.out]; intro h1; by_cases h0 : (txtV (34 :: t)).2.2 = 0
        · rw [if_pos h0]; show AV _ _ (.txt _) _; rw [AV, HF.out.2.2 h0]
        · rw [if_neg h0] at h1; exact absurd h1 h0
    by_cases q91 : x = 91
    · subst q91
      rw [if_neg (show ¬ ((91 : UInt8) = 110) by decide)] at h99 ⊢
      rw [if_neg (show ¬ ((91 : UInt8) = 102) by decide)] at h99 ⊢
      rw [if_neg (show ¬ ((91 : UInt8) = 116) by decide)] at h99 ⊢
      rw [if_neg (show ¬ ((91 : UInt8) = 34) by decide)] at h99 ⊢
      rw [if_pos rfl] at h99 ⊢
      have u110 : ((s[n].toNat : Int) == 110) = false := by rw [e2]; rfl
      have u102 : ((s[n].toNat : Int) == 102) = false := by rw [e2]; rfl
      have u116 : ((s[n].toNat : Int) == 116) = false := by rw [e2]; rfl
      have u34 : ((s[n].toNat : Int) == 34) = false := by rw [e2]; rfl
      have u91 : ((s[n].toNat : Int) == 91) = true := by rw [e2]; rfl
      have HW := Lib.hid (fun m => rd_list w0 b d f s t (w.drewN m) (by omega) hs (by omega) hlo (nb_drewN hb0 m) HV.out (h.drewN m) h99)
      generalize listQ f d t = R at HW ⊢
      clear e2 h h99
      go_enter Tryz.func30, Tryz.ntmps30
      go_wp2_with fail
      go_quiet (fail)
      go_wp2_with fail
      go_quiet (fail)
      go_wp2_with fail
      refine (HW.out _).mono ?_
      rintro e w2 ⟨x, rfl, x1, h2, t2, a2⟩
      have HF := Lib.hid (And.intro x1 (And.intro h2 (And.intro t2 a2)))
      clear x1 h2 t2 a2
      go_wp2_with fail
      go_ret
      exact ⟨x, rfl, HF.out.1, HF.out.2.1, touch2 ((Touch.refl _ _).drewN _) HF.out.2.2.1, HF.out.2.2.2⟩
    by_cases q123 : x = 123
    · subst q123
      rw [if_neg (show ¬ ((123 : UInt8) = 110) by decide)] at h99 ⊢
      rw [if_neg (show ¬ ((123 : UInt8) = 102) by decide)] at h99 ⊢
      rw [if_neg (show ¬ ((123 : UInt8) = 116) by decide)] at h99 ⊢
      rw [if_neg (show ¬ ((123 : UInt8) = 34) by decide)] at h99 ⊢
      rw [if_neg (show ¬ ((123 : UInt8) = 91) by decide)] at h99 ⊢
      rw [if_pos rfl] at h99 ⊢
      have u110 : ((s[n].toNat : Int) == 110) = false := by rw [e2]; rfl
      have u102 : ((s[n].toNat : Int) == 102) = false := by rw [e2]; rfl
      have u116 : ((s[n].toNat : Int) == 116) = false := by rw [e2]; rfl
      have u34 : ((s[n].toNat : Int) == 34) = false := by rw [e2]; rfl
      have u91 : ((s[n].toNat : Int) == 91) = false := by rw [e2]; rfl
      have u123 : ((s[n].toNat : Int) == 123) = true := by rw [e2]; rfl
      have HW := Lib.hid (fun m => rd_object w0 b d f s t (w.drewN m) (by omega) hs hE (by omega) hlo (nb_drewN hb0 m) HV.out (h.drewN m) h99)
      generalize objQ f d t = R at HW ⊢
      clear e2 h h99
      go_enter Tryz.func30, Tryz.ntmps30
      go_wp2_with fail
      go_quiet (fail)
      go_wp2_with fail
      go_quiet (fail)
      go_wp2_with fail
      refine (HW.out _).mono ?_
      rintro e w2 ⟨x, rfl, x1, h2, t2, a2⟩
      have HF := Lib.hid (And.intro x1 (And.intro h2 (And.intro t2 a2)))
      clear x1 h2 t2 a2
      go_wp2_with fail
      go_ret
      exact ⟨x, rfl, HF.out.1, HF.out.2.1, touch2 ((Touch.refl _ _).drewN _) HF.out.2.2.1, HF.out.2.2.2⟩
    rw [if_neg q110] at h99 ⊢
    rw [if_neg q102] at h99 ⊢
    rw [if_neg q116] at h99 ⊢
    rw [if_neg q34] at h99 ⊢
    rw [if_neg q91] at h99 ⊢
    rw [if_neg q123] at h99 ⊢
    have u110 : ((s[n].toNat : Int) == 110) = false := by rw [e2]; exact ne_int x 110 (by decide) q110
    have u102 : ((s[n].toNat : Int) == 102) = false := by rw [e2]; exact ne_int x 102 (by decide) q102
    have u116 : ((s[n].toNat : Int) == 116) = false := by rw [e2]; exact ne_int x 116 (by decide) q116
    have u34 : ((s[n].toNat : Int) == 34) = false := by rw [e2]; exact ne_int x 34 (by decide) q34
    have u91 : ((s[n].toNat : Int) == 91) = false := by rw [e2]; exact ne_int x 91 (by decide) q91
    have u123 : ((s[n].toNat : Int) == 123) = false := by rw [e2]; exact ne_int x 123 (by decide) q123
    have HB := Lib.hid (fun w => c_digit s[n] w)
    have hbi := dig_idx s[n]
    rw [e2] at hbi
    obtain ⟨I, hI⟩ : ∃ I, Go.Lib.indexByte [48, 49, 50, 51, 52, 53, 54, 55, 56, 57] s[n] = I := ⟨_, rfl⟩
    rw [hI] at HB
    rw [← e2, hI] at hbi
    rw [e2] at hbi
    by_cases q45 : x = 45
    · rw [if_pos (.inl q45)] at h99 ⊢
      have u45 : ((s[n].toNat : Int) == 45) = true := by rw [e2, q45]; rfl
      have HW := Lib.hid (fun m => rd_number b s (x :: t) (w.drewN m) (h.drewN m) hs (hE.below (nb_drewN hb0 m)))
      generalize numV (x :: t) = R at HW ⊢
      clear e2 h h99 q110 q102 q116 q34 q91 q123 hI q45 hbi
      go_enter Tryz.func30, Tryz.ntmps30
      go_wp2_with fail
      go_quiet (fail)
      go_wp2_with fail
      go_quiet (fail)
      go_wp2_with fail
      refine (HW.out _).mono ?_
      rintro e w2 ⟨y, rfl, x1, h2, t2, a2⟩
      have HF := Lib.hid (And.intro x1 (And.intro h2 (And.intro t2 a2)))
      clear x1 h2 t2 a2
      go_wp2_with fail
      go_ret
      exact ⟨y, rfl, HF.out.1, HF.out.2.1, touch2 ((Touch.refl _ _).drewN _) HF.out.2.2.1, HF.out.2.2.2⟩
    have u45 : ((s[n].toNat : Int) == 45) = false := by rw [e2]; exact ne_int x 45 (by decide) q45
    by_cases qd : digB x = true
    ·
      rw [if_pos (.inr qd)] at h99 ⊢
      rw [qd] at hbi
      have HW := Lib.hid (fun m => rd_number b s (x :: t) (w.drewN m) (h.drewN m) hs (hE.below (nb_drewN hb0 m)))
      generalize numV (x :: t) = R at HW ⊢
      clear e2 h h99 q110 q102 q116 q34 q91 q123 hI q45 qd
      go_enter Tryz.func30, Tryz.ntmps30
      go_wp2_with fail
      go_quiet (fail)
      go_wp2_with fail
      go_quiet (fail)
      go_wp2_with fail
      refine (HB.out _).mono ?_
      rintro e w3 ⟨rfl, rfl⟩
      go_wp2_with fail
      refine (HW.out _).mono ?_
      rintro e w2 ⟨y, rfl, x1, h2, t2, a2⟩
      have HF := Lib.hid (And.intro x1 (And.intro h2 (And.intro t2 a2)))
      clear x1 h2 t2 a2
      go_wp2_with fail
      go_ret
      exact ⟨y, rfl, HF.out.1, HF.out.2.1, touch2 ((Touch.refl _ _).drewN _) HF.out.2.2.1, HF.out.2.2.2⟩
    ·
      rw [if_neg (fun h => h.elim q45 qd)] at h99 ⊢
      have qd' : digB x = false := by rw [Bool.eq_false_iff]; exact qd
      rw [qd'] at hbi
      have HW := Lib.hid (fun m => rd_wrong b s (x :: t) (w.drewN m) (h.drewN m) hs)
      clear e2 h h99 q110 q102 q116 q34 q91 q123 hI q45 qd qd'
      go_enter Tryz.func30, Tryz.ntmps30
      go_wp2_with fail
      go_quiet (fail)
      go_wp2_with fail
      go_quiet (fail)
      go_wp2_with fail
      refine (HB.out _).mono ?_
      rintro e w3 ⟨rfl, rfl⟩
      go_wp2_with fail
      refine (HW.out _).mono ?_
      rintro e w2 ⟨rfl, h2, t2⟩
      go_wp2_with fail
      go_ret
      exact ⟨.nilIface, rfl, rfl, h2, touch2 ((Touch.refl _ _).drewN _) t2, fun h => absurd h (by show ¬ (4 = 0); decide)⟩
end Go.Proofs.YtcmkepkeeahioaaGreatDoor
namespace Go.Proofs.YtcmkepkeeahioaaGreatDoor
open Go.RowKit
def TakePost (s : ByteArray) (w : World) (e : Ending) (w' : World) : Prop :=
  ∃ x, e = .returned (.tuple #[x, .int .i64 ((takeV s.data.toList).2.1 : Nat), .int .i64 ((takeV s.data.toList).2.2 : Nat)]) ∧ Below w.heap.size w w' ∧ ((takeV s.data.toList).2.2 ≠ 0 → x = .nilIface) ∧ ((takeV s.data.toList).2.2 = 0 → AV (fun i => w.heap.size ≤ i ∧ i < w'.heap.size) w' (takeV s.data.toList).1 x)
theorem rd_new (s : ByteArray) (w : World) : RL w.heap.size s s.data.toList 0 (w.alloc (.cells #[.string s, .int .i64 0, .int .i64 0] 72)) := by
  refine ⟨?_, List.suffix_refl _⟩
  rw [size_len, Nat.sub_self]
  exact heap_alloc_new w (.cells #[.string s, .int .i64 0, .int .i64 0] 72)
set_option maxRecDepth 100000 in
set_option maxHeartbeats 4000000 in
theorem n_take (s : ByteArray) (w : World) (hE : NEnv w) (hs : s.size ≤ 1000000) :
    Calls Tryz.prog 20 #[.string s] w (TakePost s w) := by
  obtain ⟨A, hA⟩ : ∃ A, takeV s.data.toList = A := ⟨_, rfl⟩
  unfold TakePost
  rw [hA]
  unfold takeV at hA
  rw [size_len] at hA
  by_cases h1 : 4096 < s.size
  · rw [if_pos h1] at hA
    have HA := Lib.hid hA
    have t1 : decide ((s.size : Int) > 4096) = true := decide_eq_true (by omega)
    clear hA
    go_enter Tryz.func20, Tryz.ntmps20
    go_wp2_with fail
    go_ret3
    rw [← HA.out]
    exact ⟨_, rfl, Below.refl _ _, fun _ => rfl, fun h => absurd h (by show ¬ (5 = 0); decide)⟩
  · rw [if_neg h1] at hA
    have t1 : decide ((s.size : Int) > 4096) = false := decide_eq_false (by omega)
    simp only [] at hA
    have hok := (ok_all (2 * s.size + 2)).1 1 (skipB s.data.toList)
    have hsk := (skipB_suf s.data.toList)
    have hskl := hsk.length_le
    rw [size_len] at hskl
    obtain ⟨p, hp⟩ : ∃ p, valV (2 * s.size + 2) 1 (skipB s.data.toList) = p := ⟨_, rfl⟩
    have h99 : p.2.2 ≠ 99 := by rw [← hp]; exact hok.2.1 (by omega)
    have hsuf : p.2.1 <:+ s.data.toList := by rw [← hp]; exact hok.1.trans hsk
    rw [hp] at hA
    have hr0 := rd_new s w
    have hB0 : Below w.heap.size w (w.alloc (.cells #[.string s, .int .i64 0, .int .i64 0] 72)) := (Below.refl _ _).alloc (Nat.le_refl _) _
    have HBL := Lib.hid (rd_blank w.heap.size s s.data.toList 0 _ hr0 (by omega))
    have HVV := Lib.hid (fun W (hr : RL w.heap.size s (skipB s.data.toList) 0 W) (hb : Below w.heap.size w W) => (hp ▸ rd_value w hE w.heap.size s (Nat.le_refl _) (by omega) (2 * s.size + 2) 1 (skipB s.data.toList) W (by omega) (by omega) hr hb (by rw [hp]; exact h99) : Calls Tryz.prog 30 #[.pointer (some ⟨w.heap.size, 0, none⟩), .int .i64 ((1 : Nat) : Int)] W (VPost w.heap.size s p W)))
    have HB0 := Lib.hid hB0
    have HST := Lib.hid (fun W W' (hb : Below w.heap.size w W) (t : Touch (fun g => g = w.heap.size) W W') => stay hb t (Nat.le_refl _))
    clear hok hsk hskl hp hr0 hB0 h99 h1
    go_enter Tryz.func20, Tryz.ntmps20
    go_wp2_with fail
    refine HBL.out.mono ?_
    rintro e w1 ⟨rfl, r1, t1'⟩
    have HB1 := Lib.hid (HST.out _ _ HB0.out t1')
    have HR1 := Lib.hid r1
    clear r1 t1'
    go_wp2_with fail
    refine (HVV.out _ HR1.out HB1.out).mono ?_
    rintro e w2 ⟨x, rfl, x1, r2, t2, a2⟩
    have HB2 := Lib.hid (HST.out _ _ HB1.out t2)
    have hs1 := HB1.out.size
    obtain ⟨c0, c1, c2, -, -⟩ := r2.1.cells
    have HR2 := Lib.hid r2
    have HA2 := Lib.hid a2
    obtain ⟨p1, p2, p3⟩ := p
    simp only [] at hA
    clear t2 r2 a2
    by_cases h3 : p3 = 0
    · subst h3
      rw [if_neg (show ¬ ((0 : Nat) ≠ 0) by decide)] at hA
      have c2' : w2.cell? ⟨w.heap.size, 2, none⟩ = some (.int .i64 0) := c2
      clear c2
      have HBL2 := Lib.hid (rd_blank w.heap.size s p2 0 _ HR2.out (by omega))
      go_wp2_with fail
      refine HBL2.out.mono ?_
      rintro e w3 ⟨rfl, r3, t3⟩
      have HB3 := Lib.hid (HST.out _ _ HB2.out t3)
      have hlt := HR2.out.1.lt
      have HAV : Hid (AV (fun i => w.heap.size ≤ i ∧ i < w3.heap.size) w3 p1 x) := Lib.hid ((HA2.out trivial).kept (fun i hi => ⟨by omega, Nat.lt_of_lt_of_le hi.2 t3.size⟩) (KeptS.of_block (fun i hi => t3.block i hi.2 (fun e => by
        have := HR1.out.1.lt
        omega))))
      obtain ⟨d0, d1, d2, -, -⟩ := r3.1.cells
      have HR3 := Lib.hid r3
      have d2' : w3.cell? ⟨w.heap.size, 2, none⟩ = some (.int .i64 0) := d2
      obtain ⟨m, hm⟩ : ∃ m, s.size - (skipB p2).length = m := ⟨_, rfl⟩
      rw [hm] at d1 hA
      clear r3 d2 c0 c1 c2' hlt
      by_cases hn : skipB p2 ≠ []
      · rw [if_pos hn] at hA
        have HA := Lib.hid hA
        have hle := suf_le HR3.out.2
        have hpos := List.length_pos_iff.2 hn
        have tm : decide ((m : Int) < (s.size : Int)) = true := decide_eq_true (by omega)
        have tm2 : m < s.size := by omega
        have HF := Lib.hid (rd_fail w.heap.size _ m 4 s _ HR3.out.1)
        clear hA hn hle hpos hm t3
        go_wp2_with fail
        refine HF.out.mono ?_
        rintro e w4 ⟨rfl, r4, t4⟩
        have HB4 := Lib.hid (HST.out _ _ HB3.out t4)
        obtain ⟨e0, e1, e2, -, -⟩ := r4.cells
        clear r4 t4 d0 d1 d2'
        go_wp2_with fail
        go_quiet (fail)
        go_wp2_with fail
        go_ret3
        rw [← HA.out]
        exact ⟨_, rfl, nb_drewN HB4.out _, fun _ => rfl, fun h => absurd h (by show ¬ (4 = 0); decide)⟩
      · rw [if_neg hn] at hA
        have HA := Lib.hid hA
        have hnn : skipB p2 = [] := Classical.not_not.1 hn
        have hms : s.size = m := by rw [← hm, hnn]; simp
        rw [← hms] at d1
        have tm : decide ((s.size : Int) < (s.size : Int)) = false := decide_eq_false (by omega)
        clear hA hn hnn hm hms t3
        go_wp2_with fail
        go_ret3
        rw [← HA.out]
        exact ⟨x, rfl, HB3.out, fun h => absurd rfl h, fun _ => HAV.out⟩
    · rw [if_pos h3] at hA
      have HA := Lib.hid hA
      have tq : ((p3 : Int) == 0) = false := by rw [beq_eq_false_iff_ne]; omega
      have tq2 : ((p3 : Int) != 0) = true := by rw [bne_iff_ne]; omega
      clear hA
      go_wp2_with fail
      go_quiet (fail)
      go_wp2_with fail
      go_ret3
      rw [← HA.out]
      exact ⟨_, rfl, nb_drewN HB2.out _, fun _ => rfl, fun h => absurd h h3⟩
end Go.Proofs.YtcmkepkeeahioaaGreatDoor
namespace Go.Proofs.YtcmkepkeeahioaaGreatDoor
open Go.RowKit
/-- the example's value -/
def jv0 : JV := .obj [([110, 97, 109, 101], .txt [97]), ([108, 105, 115, 116], .lst [.num 1, .nul, .boo true])]
def aw0 : ByteArray := ⟨#[32, 123, 34, 110, 97, 109, 101, 34, 32, 58, 32, 34, 97, 34, 44, 34, 108, 105, 115, 116, 34, 58, 91, 49, 44, 110, 117, 108, 108, 44, 116, 114, 117, 101, 93, 125]⟩
def aw1 : ByteArray := ⟨#[123, 34, 110, 97, 109, 101, 34, 58, 34, 97, 34, 44, 34, 108, 105, 115, 116, 34, 58, 91, 49, 44, 110, 117, 108, 108, 44, 116, 114, 117, 101, 93, 125]⟩
theorem aw_take : takeV aw0.data.toList = (jv0, 36, 0) := by kernel_rfl
theorem aw_take2 : (takeV (ByteArray.mk #[91, 49, 44, 93]).data.toList).2 = (3, 4) := by decide +kernel
theorem aw_chk : chk jv0 1 = 0 := by
  have h := take_good aw0.data.toList (by rw [aw_take])
  rw [aw_take] at h
  exact h
theorem aw_json : json jv0 = aw1.data.toList := by decide +kernel
theorem aw_small : smallJ jv0 := by
  have h := take_small aw0.data.toList (by rw [aw_take])
  rw [aw_take] at h
  exact h
theorem aw_put : putT jv0 = aw1.data.toList ∧ putF jv0 = 0 := by
  unfold putT putF
  rw [aw_chk, aw_json]
  exact ⟨by decide +kernel, by decide +kernel⟩
theorem aw_same : sameJ jv0 jv0 = true := by unfold sameJ; rw [aw_chk]; simp
theorem aw_unlike : sameJ jv0 (.txt [97]) = false := by
  unfold sameJ
  rw [show decide (json jv0 = json (.txt [97])) = false by decide +kernel, Bool.and_false]
theorem aw_bad : putT .bad = [] ∧ putF .bad = 14 := by
  unfold putT putF
  rw [chk]
  exact ⟨by decide, by decide⟩
/-- the example's value in memory -/
theorem aw_av (w : World) : AV (fun i => w.heap.size ≤ i ∧ i < w.heap.size + 2) ((w.alloc (.cells #[.iface 3 (.int .i64 1), .nilIface, .iface 4 (.bool true)] 20)).alloc (.cells #[.string (bs [110, 97, 109, 101]), .iface 9 (.string (bs [97])), .string (bs [108, 105, 115, 116]), .iface 57 (.slice (some ⟨w.heap.size, 0, none⟩) 3 3)] 56)) jv0 (.iface 58 (.slice (some ⟨w.heap.size + 1, 0, none⟩) 2 2)) := by
  have h1 := heap_alloc_new w (.cells #[.iface 3 (.int .i64 1), .nilIface, .iface 4 (.bool true)] 20)
  have hsz : (w.alloc (.cells #[.iface 3 (.int .i64 1), .nilIface, .iface 4 (.bool true)] 20)).heap.size = w.heap.size + 1 := by simp
  generalize w.alloc (.cells #[.iface 3 (.int .i64 1), .nilIface, .iface 4 (.bool true)] 20) = W at h1 hsz ⊢
  have h2 := heap_alloc_new W (.cells #[.string (bs [110, 97, 109, 101]), .iface 9 (.string (bs [97])), .string (bs [108, 105, 115, 116]), .iface 57 (.slice (some ⟨w.heap.size, 0, none⟩) 3 3)] 56)
  have h3 := heap_alloc_old W (.cells #[.string (bs [110, 97, 109, 101]), .iface 9 (.string (bs [97])), .string (bs [108, 105, 115, 116]), .iface 57 (.slice (some ⟨w.heap.size, 0, none⟩) 3 3)] 56) (r := w.heap.size) (by omega)
  rw [h1] at h3
  rw [hsz] at h2
  generalize W.alloc (.cells #[.string (bs [110, 97, 109, 101]), .iface 9 (.string (bs [97])), .string (bs [108, 105, 115, 116]), .iface 57 (.slice (some ⟨w.heap.size, 0, none⟩) 3 3)] 56) = W2 at h2 h3 ⊢
  unfold jv0
  rw [AV]
  refine ⟨_, 2, rfl, Nat.le_refl _, fun _ => ⟨_, 0, rfl, by omega, ?_⟩⟩
  rw [AVO, AVO, AVO]
  refine ⟨⟨by unfold World.cell?; rw [h2]; rfl, _, by unfold World.cell?; rw [h2]; rfl, by rw [AV]; rfl⟩, ⟨by unfold World.cell?; rw [h2]; rfl, _, by unfold World.cell?; rw [h2]; rfl, ?_⟩, trivial⟩
  rw [AV]
  refine ⟨_, 3, rfl, Nat.le_refl _, fun _ => ⟨_, 0, rfl, by omega, ?_⟩⟩
  rw [AVL, AVL, AVL, AVL]
  exact ⟨⟨_, by unfold World.cell?; rw [h3]; rfl, by rw [AV]; rfl⟩, ⟨_, by unfold World.cell?; rw [h3]; rfl, by rw [AV]; rfl⟩, ⟨_, by unfold World.cell?; rw [h3]; rfl, by rw [AV]; rfl⟩, trivial⟩
set_option maxRecDepth 100000 in
set_option maxHeartbeats 4000000 in
theorem law_awake (w : World) (hE : NEnv w) :
    Calls Tryz.prog 7 #[] w fun e w' => e = .returned (.bool true) ∧ Below w.heap.size w w' := by
  obtain ⟨W0, hW0⟩ : ∃ W0, (w.alloc (.cells #[.iface 3 (.int .i64 1), .nilIface, .iface 4 (.bool true)] 20)).alloc (.cells #[.string ⟨#[110, 97, 109, 101]⟩, .iface 9 (.string ⟨#[97]⟩), .string ⟨#[108, 105, 115, 116]⟩, .iface 57 (.slice (some ⟨w.heap.size, 0, none⟩) 3 3)] 56) = W0 := ⟨_, rfl⟩
  have hAV : AV (fun i => w.heap.size ≤ i ∧ i < w.heap.size + 2) W0 jv0 (.iface 58 (.slice (some ⟨w.heap.size + 1, 0, none⟩) 2 2)) := by rw [← hW0]; exact aw_av w
  have hB0 : Below w.heap.size w W0 := by
    rw [← hW0]
    refine Below.alloc (Below.alloc (Below.refl _ _) (Nat.le_refl _) _) ?_ _
    simp
  have hsz : W0.heap.size = w.heap.size + 2 := by rw [← hW0]; simp
  have hS : ∀ i, (w.heap.size ≤ i ∧ i < w.heap.size + 2) → i < W0.heap.size := fun i hi => by omega
  have HB0 := Lib.hid hB0
  have HAV : Hid (∀ W, Below W0.heap.size W0 W → AV (fun i => w.heap.size ≤ i ∧ i < w.heap.size + 2) W jv0 (.iface 58 (.slice (some ⟨w.heap.size + 1, 0, none⟩) 2 2)) ∧ ∀ i, (w.heap.size ≤ i ∧ i < w.heap.size + 2) → i < W.heap.size) := Lib.hid (fun W hW => ⟨hAV.kept (fun _ h => h) (KeptS.of_below hW hS), fun i hi => Nat.lt_of_lt_of_le (hS i hi) hW.size⟩)
  have HE : Hid (∀ W, Below W0.heap.size W0 W → NEnv W) := Lib.hid (fun W hW => (hE.below hB0).below hW)
  have HR := Lib.hid (Below.refl W0.heap.size W0)
  have hj : (json jv0).length ≤ 50000000 := by rw [aw_json]; decide
  have HP : Hid (∀ W, Below W0.heap.size W0 W → Calls Tryz.prog 9 #[.iface 58 (.slice (some ⟨w.heap.size + 1, 0, none⟩) 2 2)] W fun e w' => e = .returned (.tuple #[.string ⟨#[123, 34, 110, 97, 109, 101, 34, 58, 34, 97, 34, 44, 34, 108, 105, 115, 116, 34, 58, 91, 49, 44, 110, 117, 108, 108, 44, 116, 114, 117, 101, 93, 125]⟩, .int .i64 0]) ∧ Below W.heap.size W w') := Lib.hid (fun W hW => by
    have h := n_Put jv0 _ W _ aw_small (HAV.out W hW).1 (HAV.out W hW).2 (HE.out W hW) (fun _ => hj)
    rw [aw_put.1, aw_put.2, bs_self] at h
    exact h)
  have HPB : Hid (∀ W, Below W0.heap.size W0 W → Calls Tryz.prog 9 #[.iface 59 (.float .f64 0x3FF8000000000000)] W fun e w' => e = .returned (.tuple #[.string ⟨#[]⟩, .int .i64 14]) ∧ Below W.heap.size W w') := Lib.hid (fun W hW => by
    have h := n_Put .bad (.iface 59 (.float .f64 0x3FF8000000000000)) W (fun _ => False) (by rw [smallJ]; trivial) (by rw [AV]) (fun _ h => h.elim) (HE.out W hW) (fun h => by rw [chk] at h; exact absurd h (by decide))
    rw [aw_bad.1, aw_bad.2] at h
    exact h)
  have HT1 : Hid (∀ W, Below W0.heap.size W0 W → Calls Tryz.prog 20 #[.string aw0] W fun e w' => ∃ x, e = .returned (.tuple #[x, .int .i64 36, .int .i64 0]) ∧ Below W.heap.size W w' ∧ AV (fun i => W.heap.size ≤ i ∧ i < w'.heap.size) w' jv0 x) := Lib.hid (fun W hW => by
    refine (n_take aw0 W (HE.out W hW) (by decide)).mono ?_
    rintro e w' ⟨x, h1, h2, -, h4⟩
    rw [aw_take] at h1 h4
    exact ⟨x, h1, h2, h4 rfl⟩)
  have HT2 : Hid (∀ W, Below W0.heap.size W0 W → Calls Tryz.prog 20 #[.string ⟨#[91, 49, 44, 93]⟩] W fun e w' => e = .returned (.tuple #[.nilIface, .int .i64 3, .int .i64 4]) ∧ Below W.heap.size W w') := Lib.hid (fun W hW => by
    refine (n_take ⟨#[91, 49, 44, 93]⟩ W (HE.out W hW) (by decide)).mono ?_
    rintro e w' ⟨x, h1, h2, h3, -⟩
    rw [aw_take2] at h1 h3
    rw [h3 (by decide)] at h1
    exact ⟨h1, h2⟩)
  clear hAV hB0 hsz hS hE hj
  go_enter Tryz.func7, Tryz.ntmps7
  go_wp2_with fail
  try rw [hW0]
  clear hW0
  refine (HP.out _ HR.out).mono ?_
  rintro e w1 ⟨rfl, hb1⟩
  have HB1 : Hid (Below W0.heap.size W0 w1) := Lib.hid hb1
  clear hb1
  go_wp2_with fail
  refine (HT1.out _ HB1.out).mono ?_
  rintro e w2 ⟨x, rfl, hb2, hx2⟩
  have HB2 := Lib.hid (bstep HB1.out hb2)
  have HX : Hid (∀ W, Below w2.heap.size w2 W → AV (fun i => w1.heap.size ≤ i ∧ i < w2.heap.size) W jv0 x ∧ ∀ i, (w1.heap.size ≤ i ∧ i < w2.heap.size) → i < W.heap.size) := Lib.hid (fun W hW => ⟨hx2.kept (fun _ h => h) (KeptS.of_below hW (fun i hi => hi.2)), fun i hi => Nat.lt_of_lt_of_le hi.2 hW.size⟩)
  have hsh := hx2.shape
  clear hb2 hx2
  go_wp2_with fail
  refine (HT2.out _ HB2.out).mono ?_
  rintro e w3 ⟨rfl, hb3⟩
  have HB3 := Lib.hid (bstep HB2.out hb3)
  have HC3 : Hid (Below w2.heap.size w2 w3) := Lib.hid hb3
  clear hb3
  go_wp2_with fail
  refine (HPB.out _ HB3.out).mono ?_
  rintro e w4 ⟨rfl, hb4⟩
  have HB4 := Lib.hid (bstep HB3.out hb4)
  have HC4 := Lib.hid (bstep HC3.out hb4)
  clear hb4
  go_wp2_with fail
  have HFD := Lib.hid (n_Find jv0 x [110, 97, 109, 101] w4 _ aw_small (HX.out w4 HC4.out).1 (HX.out w4 HC4.out).2)
  rw [show findJ jv0 [110, 97, 109, 101] = some (.txt [97]) from rfl] at HFD
  refine HFD.out.mono ?_
  rintro e w5 ⟨⟨y, rfl, hy⟩, hb5⟩
  have hy2 : y = .iface 9 (.string ⟨#[97]⟩) := by
    unfold FindR at hy
    simp only [] at hy
    rw [AV] at hy
    exact hy
  subst hy2
  have HB5 := Lib.hid (bstep HB4.out hb5)
  have HC5 := Lib.hid (bstep HC4.out hb5)
  clear hb5 hy
  have hav : ∀ (W : World) (S : Nat → Prop), AV S W (.txt [97]) (.iface 9 (.string ⟨#[97]⟩)) := fun W S => by rw [AV]; rfl
  go_wp2_with fail
  have HTX : Calls Tryz.prog 13 #[.iface 9 (.string ⟨#[97]⟩)] w5 fun e w' => e = .returned (.tuple #[.string ⟨#[97]⟩, .bool true]) ∧ w' = w5 := n_Text (.txt [97]) _ w5 (fun _ => False) (hav _ _)
  refine HTX.mono ?_
  rintro e w6 ⟨rfl, rfl⟩
  clear HTX
  go_wp2_with fail
  refine (n_MustText ⟨#[98]⟩ w6).mono ?_
  rintro e w7 ⟨rfl, rfl⟩
  go_wp2_with fail
  have hj : (json jv0).length ≤ 50000000 := by rw [aw_json]; decide
  have HS1 := Lib.hid (n_Same jv0 jv0 (.iface 58 (.slice (some ⟨w.heap.size + 1, 0, none⟩) 2 2)) x w7 (fun i => (w.heap.size ≤ i ∧ i < w.heap.size + 2) ∨ (w1.heap.size ≤ i ∧ i < w2.heap.size)) aw_small aw_small ((HAV.out w7 HB5.out).1.kept (fun _ h => .inl h) (KeptS.refl _ _)) ((HX.out w7 HC5.out).1.kept (fun _ h => .inr h) (KeptS.refl _ _)) (fun i hi => hi.elim (fun h => (HAV.out w7 HB5.out).2 i h) (fun h => (HX.out w7 HC5.out).2 i h)) (HE.out w7 HB5.out) (fun _ => hj) (fun _ => hj))
  rw [aw_same] at HS1
  refine HS1.out.mono ?_
  rintro e w8 ⟨rfl, hb8⟩
  have HB8 := Lib.hid (bstep HB5.out hb8)
  clear hb8 HS1
  go_wp2_with fail
  have HS2 := Lib.hid (n_Same jv0 (.txt [97]) (.iface 58 (.slice (some ⟨w.heap.size + 1, 0, none⟩) 2 2)) (.iface 9 (.string ⟨#[97]⟩)) w8 _ aw_small (by rw [smallJ]; decide) (HAV.out w8 HB8.out).1 (hav _ _) (HAV.out w8 HB8.out).2 (HE.out w8 HB8.out) (fun _ => hj) (fun _ => by rw [show (json (.txt [97])).length = 3 by decide +kernel]; decide))
  rw [aw_unlike] at HS2
  refine HS2.out.mono ?_
  rintro e w9 ⟨rfl, hb9⟩
  have HB9 := Lib.hid (bstep HB0.out (bstep HB8.out hb9))
  clear hb9 HS2
  go_wp2_with fail
  go_ret
  exact ⟨rfl, HB9.out⟩
end Go.Proofs.YtcmkepkeeahioaaGreatDoor
namespace Go.Proofs.YtcmkepkeeahioaaGreatDoor
open Go.RowKit
theorem u8_cell {H : Type} {enc : TypeId × Value → H} {W : World} {n : Nat} {cs : List Value} {x : DataW H × List MemPlace} (h : DataW.trod enc Tryz.prog W 0 (fun _ => true) true n 5 cs = some x) : ∃ k : Int, cs = [.int .u8 k] ∧ (Lit.int .u8 k).wf = true := by
  obtain ⟨k, h1, h2, h3⟩ := DataW.trod_int Tryz.underlying5 h
  exact ⟨k, h1, h3⟩
theorem int_cell {H : Type} {enc : TypeId × Value → H} {W : World} {n : Nat} {cs : List Value} {x : DataW H × List MemPlace} (h : DataW.trod enc Tryz.prog W 0 (fun _ => true) true n 3 cs = some x) : ∃ k : Int, cs = [.int .i64 k] ∧ (Lit.int .i64 k).wf = true := by
  obtain ⟨k, h1, h2, h3⟩ := DataW.trod_int Tryz.underlying3 h
  exact ⟨k, h1, h3⟩
theorem str_cell {H : Type} {enc : TypeId × Value → H} {W : World} {n : Nat} {cs : List Value} {x : DataW H × List MemPlace} (h : DataW.trod enc Tryz.prog W 0 (fun _ => true) true n 9 cs = some x) : ∃ s : ByteArray, cs = [.string s] ∧ s.size ≤ maxLen := by
  obtain ⟨k, h1, h2, h3⟩ := DataW.trod_string Tryz.underlying9 h
  exact ⟨k, h1, h3⟩
theorem len_5 {α : Type} {l : List α} (h : l.length = 5) : ∃ a b c d e, l = [a, b, c, d, e] := by
  match l, h with
  | [a, b, c, d, e], _ => exact ⟨a, b, c, d, e, rfl⟩
mutual
/-- numbers and lengths within their types -/
def wfN : ND → Prop
  | .mk k n s names kids => (Lit.int .u8 k).wf = true ∧ (Lit.int .i64 n).wf = true ∧ s.size ≤ maxLen ∧ (∀ x ∈ names, x.size ≤ maxLen) ∧ names.length ≤ maxLen ∧ kids.length ≤ maxLen ∧ wfL kids
def wfL : List ND → Prop
  | [] => True
  | v :: t => wfN v ∧ wfL t
end
theorem wfL_of : ∀ l : List ND, (∀ v ∈ l, wfN v) → wfL l
  | [], _ => by rw [wfL]; trivial
  | a :: t, h => by rw [wfL]; exact ⟨h a (List.mem_cons_self ..), wfL_of t fun v hv => h v (List.mem_cons_of_mem _ hv)⟩
theorem wfL_mem : ∀ l : List ND, wfL l → ∀ v ∈ l, wfN v
  | [], _, v, h => by cases h
  | a :: t, h, v, hv => by
    rw [wfL] at h
    rcases List.mem_cons.1 hv with rfl | h2
    · exact h.1
    · exact wfL_mem t h.2 v h2
set_option maxRecDepth 100000 in
theorem node_cells {H : Type} {enc : TypeId × Value → H} {W : World} : ∀ (fuel : Nat) (cs : List Value) (x : DataW H × List MemPlace), DataW.trod enc Tryz.prog W 0 (fun _ => true) true fuel 25 cs = some x → ∃ c0 c1 c2 c3 c4 nd, cs = [c0, c1, c2, c3, c4] ∧ NAt W nd c0 c1 c2 c3 c4 ∧ wfN nd := by
  intro fuel
  induction fuel using Nat.strongRecOn with
  | _ fuel ih =>
  intro cs x h
  obtain ⟨xs, k, hk, _, hcl, hxl, hg⟩ := DataW.trod_struct Tryz.underlying25 h
  obtain ⟨c0, c1, c2, c3, c4, rfl⟩ := len_5 (hcl.trans (show Tryz.prog.cellsOf 25 = 5 by kernel_rfl))
  have hxl2 : xs.length = 5 := hxl
  obtain ⟨z0, z1, z2, z3, z4, rfl⟩ := len_5 hxl2
  have hSs : Tryz.prog.cellsOf 9 = 1 := by kernel_rfl
  have hSi : Tryz.prog.cellsOf 3 = 1 := by kernel_rfl
  have hSu : Tryz.prog.cellsOf 5 = 1 := by kernel_rfl
  have hSl : Tryz.prog.cellsOf 22 = 1 := by kernel_rfl
  have hSn : Tryz.prog.cellsOf 23 = 1 := by kernel_rfl
  have hN : Tryz.prog.cellsOf 25 = 5 := by kernel_rfl
  have g0 : DataW.trod enc Tryz.prog W 0 (fun _ => true) true k 5 (([c0, c1, c2, c3, c4].drop 0).take (Tryz.prog.cellsOf 5)) = some z0 := hg 0 _ rfl
  have g1 : DataW.trod enc Tryz.prog W 0 (fun _ => true) true k 3 (([c0, c1, c2, c3, c4].drop 1).take (Tryz.prog.cellsOf 3)) = some z1 := hg 1 _ rfl
  have g2 : DataW.trod enc Tryz.prog W 0 (fun _ => true) true k 9 (([c0, c1, c2, c3, c4].drop 2).take (Tryz.prog.cellsOf 9)) = some z2 := hg 2 _ rfl
  have g3 : DataW.trod enc Tryz.prog W 0 (fun _ => true) true k 22 (([c0, c1, c2, c3, c4].drop 3).take (Tryz.prog.cellsOf 22)) = some z3 := hg 3 _ rfl
  have g4 : DataW.trod enc Tryz.prog W 0 (fun _ => true) true k 23 (([c0, c1, c2, c3, c4].drop 4).take (Tryz.prog.cellsOf 23)) = some z4 := hg 4 _ rfl
  rw [hSu] at g0
  rw [hSi] at g1
  rw [hSs] at g2
  rw [hSl] at g3
  rw [hSn] at g4
  simp at g0 g1 g2 g3 g4
  obtain ⟨a0, e0, w0⟩ := u8_cell g0
  obtain ⟨a1, e1, w1⟩ := int_cell g1
  obtain ⟨a2, e2, w2⟩ := str_cell g2
  simp at e0 e1 e2
  subst e0 e1 e2
  have ea : ∀ b o k, (⟨b, o, none⟩ : Addr).add k = ⟨b, o + k, none⟩ := fun b o k => by unfold Addr.add; split <;> simp_all
  obtain ⟨names, hnm, hnw, hnl⟩ : ∃ names : List ByteArray, (∃ a c, c3 = .slice a names.length c ∧ names.length ≤ c ∧ (names ≠ [] → ∃ b o, a = some ⟨b, o, none⟩ ∧ b < W.heap.size ∧ ∀ j (hj : j < names.length), W.cell? ⟨b, o + j, none⟩ = some (.string names[j]))) ∧ (∀ x ∈ names, x.size ≤ maxLen) ∧ names.length ≤ maxLen := by
    rcases Go.ChangeShapes.open_strings Tryz.underlying22 Tryz.underlying9 (by kernel_rfl) g3 with ⟨hcs, _⟩ | ⟨x, l, c, ss, hcs, _, hl, hm, hz, hx, hcell, hws⟩
    · simp at hcs
      subst hcs
      exact ⟨[], ⟨none, 0, rfl, Nat.le_refl _, fun h => absurd rfl h⟩, fun x h => by simp at h, by unfold maxLen; simp⟩
    · simp at hcs
      subst hcs
      have hz2 : ss.length = c := by simpa using hz
      have hlen : (ss.take l).length = l := by rw [List.length_take]; omega
      refine ⟨ss.take l, ⟨some x, c, by rw [hlen], by rw [hlen]; exact hl, fun hne => ?_⟩, fun s hs => hws s (List.mem_of_mem_take hs), by rw [hlen]; omega⟩
      have hpos : 0 < l := by
        rcases Nat.eq_zero_or_pos l with h0 | h0
        · subst h0; simp at hne
        · exact h0
      have h0 := hcell 0 (by omega)
      obtain ⟨b, o, sp⟩ := x
      have hsp : sp = none := by simpa [Addr.add] using World.cell?_spot h0
      subst hsp
      refine ⟨b, o, rfl, by have := World.block_lt_of_cell? _ _ h0; simpa [Addr.add] using this, fun j hj => ?_⟩
      rw [hlen] at hj
      have hj2 := hcell j (by omega)
      rw [ea] at hj2
      rw [hj2, List.getElem_take, List.getD_eq_getElem?_getD, List.getElem?_eq_getElem (by omega)]
      rfl
  obtain ⟨kids, hkd, hkw, hkl⟩ : ∃ kids : List ND, (∃ a c, c4 = .slice a kids.length c ∧ kids.length ≤ c ∧ (kids ≠ [] → ∃ b o, a = some ⟨b, o, none⟩ ∧ b < W.heap.size ∧ NAL W b o kids)) ∧ wfL kids ∧ kids.length ≤ maxLen := by
    rcases DataW.trod_slice Tryz.underlying23 g4 with ⟨hcs, _⟩ | ⟨a, len, cap, elems, rest, n, hn, hcs, _, _, hl, hm, hel, hi, _, _⟩
    · simp at hcs
      subst hcs
      exact ⟨[], ⟨none, 0, rfl, Nat.le_refl _, fun h => absurd rfl h⟩, by rw [wfL]; trivial, by unfold maxLen; simp⟩
    · simp at hcs
      subst hcs
      have key : ∀ i, ∃ nd : ND, i < len → (∃ y0 y1 y2 y3 y4, (W.cell? (a.add (i * 5)) = some y0 ∧ W.cell? (a.add (i * 5 + 1)) = some y1 ∧ W.cell? (a.add (i * 5 + 2)) = some y2 ∧ W.cell? (a.add (i * 5 + 3)) = some y3 ∧ W.cell? (a.add (i * 5 + 4)) = some y4) ∧ NAt W nd y0 y1 y2 y3 y4) ∧ wfN nd := by
        intro i
        by_cases hin : i < len
        · have hii := hi i hin
          rw [List.getElem?_eq_getElem (by omega), hN] at hii
          obtain ⟨cs', hc', ht⟩ := Option.bind_eq_some_iff.1 hii
          obtain ⟨y0, y1, y2, y3, y4, nd, rfl, hnd, hwf⟩ := ih n (by omega) cs' _ ht
          obtain ⟨_, hcl, hcell⟩ := World.cells?_some hc'
          have q0 := hcell 0 (by omega)
          have q1 := hcell 1 (by omega)
          have q2 := hcell 2 (by omega)
          have q3 := hcell 3 (by omega)
          have q4 := hcell 4 (by omega)
          rw [Go.Deep.add_add] at q0 q1 q2 q3 q4
          simp at q0 q1 q2 q3 q4
          exact ⟨nd, fun _ => ⟨⟨y0, y1, y2, y3, y4, ⟨q0, q1, q2, q3, q4⟩, hnd⟩, hwf⟩⟩
        · exact ⟨.mk 0 0 ⟨#[]⟩ [] [], fun h => absurd h hin⟩
      obtain ⟨g, hg⟩ := Classical.skolem.1 key
      have hlen : ((List.range len).map g).length = len := by simp
      refine ⟨(List.range len).map g, ⟨some a, cap, by rw [hlen], by rw [hlen]; exact hl, fun hne => ?_⟩, wfL_of _ fun v hv => ?_, by rw [hlen]; omega⟩
      · have hpos : 0 < len := by
          rcases Nat.eq_zero_or_pos len with h0 | h0
          · subst h0; simp at hne
          · exact h0
        obtain ⟨⟨y0, _, _, _, _, ⟨h0, _⟩, _⟩, _⟩ := hg 0 hpos
        obtain ⟨b, o, sp⟩ := a
        have hsp : sp = none := by simpa [Addr.add] using World.cell?_spot h0
        subst hsp
        refine ⟨b, o, rfl, by have := World.block_lt_of_cell? _ _ h0; simpa [Addr.add] using this, NAL.of o _ fun j hj => ?_⟩
        rw [hlen] at hj
        obtain ⟨⟨y0, y1, y2, y3, y4, hq, hnd⟩, _⟩ := hg j hj
        rw [ea, ea, ea, ea, ea] at hq
        rw [List.getElem_map, List.getElem_range]
        exact ⟨y0, y1, y2, y3, y4, hq, hnd⟩
      · obtain ⟨i, hi', rfl⟩ := List.mem_map.1 hv
        exact (hg i (List.mem_range.1 hi')).2
  refine ⟨_, _, _, _, _, .mk a0 a1 a2 names kids, rfl, ?_, ?_⟩
  · rw [NAt]
    exact ⟨rfl, rfl, rfl, hnm, hkd⟩
  · rw [wfN]
    exact ⟨w0, w1, w2, hnw, hnl, hkl, hkw⟩
set_option maxRecDepth 100000 in
/-- the opener, as the cards take it (kind X:gazetteerref17.Node:node_open:5:..) -/
theorem node_open {H : Type} {enc : TypeId × Value → H} {W : World} {r : Reach} {b0 : Nat} {v : Value} {d : DataW H} {p : List MemPlace} (hv : Value.okWide Tryz.prog W r b0 25 v) (h : DataW.Trod enc Tryz.prog W 0 (fun _ => true) true 25 v d p) :
    ∃ c0 c1 c2 c3 c4, v = .agg #[c0, c1, c2, c3, c4] ∧ ∃ nd, NAt W nd c0 c1 c2 c3 c4 ∧ wfN nd := by
  obtain ⟨cs, rfl, hsz⟩ := Go.WideShapes.okWide_struct Tryz.underlying25 hv
  obtain ⟨fuel, hf⟩ := h
  obtain ⟨c0, c1, c2, c3, c4, nd, hc, h1, h2⟩ := node_cells fuel _ _ hf
  obtain rfl : cs = #[c0, c1, c2, c3, c4] := by rw [← Array.toList_inj]; exact hc
  exact ⟨c0, c1, c2, c3, c4, rfl, nd, h1, h2⟩
end Go.Proofs.YtcmkepkeeahioaaGreatDoor
