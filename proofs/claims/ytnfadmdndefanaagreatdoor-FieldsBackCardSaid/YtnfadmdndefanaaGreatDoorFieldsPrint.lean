/- What Print of package fields returns. -/
import Derived.Test.YtnfadmdndefanaaGreatDoorFieldsParse
import Derived.Test.YtnfadmdndefanaaGreatDoorFieldsPlain4
import Derived.Test.YtnfadmdndefanaaGreatDoorQuietBelow
namespace Go.Proofs.YtnfadmdndefanaaGreatDoor
open Go.RowKit

theorem c_trimR (s : ByteArray) (w : World) (hs : s.size ≤ 9223372036854775807) :
    Calls Tryz.prog 30 #[.string s, .string ⟨#[32, 9]⟩] w fun e w' => e = .returned (.string (bs (Go.Lib.trimRightS s.data.toList gapL))) ∧ Below w.heap.size w w' :=
  Any.strings_TrimRight_laid Tryz.lays162 (by kernel_rfl) s ⟨#[32, 9]⟩ w (by omega) (by decide) (Go.Proofs.ascii_of_all (by decide))

/-- a text of bs, whatever is told of the list -/
theorem ret_pair {x x' : ByteArray} {E E' : Int} (h : x = x') (h2 : E = E') : Ending.returned (.tuple #[.string x, .int .i64 E]) = .returned (.tuple #[.string x', .int .i64 E']) := by rw [h, h2]
theorem fieldE_not (n v : List UInt8) (h : printOk n v = false) : fieldE n v = 4 ∧ fieldS n v = [] := by
  have h1 : fieldE n v = 4 := by unfold fieldE; rw [h]; rfl
  exact ⟨h1, by unfold fieldS; rw [h1]; rfl⟩

theorem box_cells (w : World) (n v : ByteArray) (t : TypeId) : (w.alloc (.cells #[.string n, .string v] t)).cell? ⟨w.heap.size, 0, none⟩ = some (.string n) ∧ (w.alloc (.cells #[.string n, .string v] t)).cell? ⟨w.heap.size, 1, none⟩ = some (.string v) := by
  have hh := heap_alloc_new w (.cells #[.string n, .string v] t)
  exact ⟨by unfold World.cell?; rw [hh]; rfl, by unfold World.cell?; rw [hh]; rfl⟩
theorem below_box2 (w : World) (x y : Value) (t : TypeId) : Below w.heap.size w (w.alloc (.cells #[x, y] t)) := (Below.refl _ _).alloc (Nat.le_refl _) _
theorem fieldE_yes (n v : List UInt8) (h : printOk n v = true) : (256 < (printL n v).length → fieldE n v = 5 ∧ fieldS n v = []) ∧ ((printL n v).length ≤ 256 → fieldE n v = 0 ∧ fieldS n v = printL n v) := by
  constructor
  · intro hl
    have h1 : fieldE n v = 5 := by unfold fieldE; rw [h, if_pos rfl, if_pos hl]
    exact ⟨h1, by unfold fieldS; rw [h1]; rfl⟩
  · intro hl
    have h1 : fieldE n v = 0 := by unfold fieldE; rw [h, if_pos rfl, if_neg (by omega)]
    exact ⟨h1, by unfold fieldS; rw [h1]; rfl⟩

set_option maxRecDepth 100000 in
set_option maxHeartbeats 4000000 in
theorem fields_print (n v : ByteArray) (w : World) (hn : n.size ≤ 1000000) (hv : v.size ≤ 1000000) :
    Calls Tryz.prog 10 #[.agg #[.string n, .string v]] w fun e w' => e = .returned (.tuple #[.string (bs (fieldS n.data.toList v.data.toList)), .int .i64 (fieldE n.data.toList v.data.toList)]) ∧ Below w.heap.size w w' := by
  have HNm := Lib.hid (fun w => fields_name n w)
  have HPl := Lib.hid (fun w => fields_plain v w (by omega))
  have HTr := Lib.hid (fun w => c_trim v w hv)
  obtain ⟨N, hN⟩ : ∃ N, N = n.data.toList := ⟨_, rfl⟩
  obtain ⟨V, hV⟩ : ∃ V, V = v.data.toList := ⟨_, rfl⟩
  rw [← hN] at HNm
  rw [← hV] at HPl HTr
  rw [← hN, ← hV]
  have HNV := Lib.hid (And.intro hN hV)
  clear hN hV
  have box := box_cells w n v 27
  have hb0 := below_box2 w (.string n) (.string v) 27
  have hbl : w.heap.size < (w.alloc (.cells #[.string n, .string v] 27)).heap.size := by simp
  cases h1 : nameL N with
  | false =>
    have HF := Lib.hid (fieldE_not N V (by unfold printOk; rw [h1]; rfl))
    rw [h1] at HNm
    clear h1 HPl HTr
    go_enter Tryz.func10, Tryz.ntmps10
    go_wp2_with fail
    generalize hW0 : w.alloc (.cells #[.string n, .string v] 27) = W0 at box hb0 hbl ⊢
    clear hW0
    have k0 : ∀ p : BelowOf W0, p.world.cell? ⟨w.heap.size, 0, none⟩ = some (.string n) := fun p => cell_of p hbl box.1
    have k1 : ∀ p : BelowOf W0, p.world.cell? ⟨w.heap.size, 1, none⟩ = some (.string v) := fun p => cell_of p hbl box.2
    have hb0 := Lib.hid hb0
    clear box
    refine wp_region_quiet_below (by kernel_rfl) (by kernel_rfl) ?_
    repeat (go_big_quiet_step ((go_at_call 25; exact below_of (HNm.out _))))
    refine wpQuiet_nil ?_
    intro W1 hw'
    have hb1 := of_class hw'
    clear hw'
    go_wp2_with fail
    go_ret2
    exact ⟨ret_pair (by rw [HF.out.2]; rfl) (by rw [HF.out.1]; rfl), bstep hb0.out hb1⟩
  | true =>
    rw [h1] at HNm
    have hn1 := Lib.hid h1
    clear h1
    cases h2 : (V.all fun c => plainB c.toNat) with
    | false =>
      have HF := Lib.hid (fieldE_not N V (by unfold printOk plainAll; rw [h2, Bool.and_false]; rfl))
      rw [h2] at HPl
      clear h2 HTr
      go_enter Tryz.func10, Tryz.ntmps10
      go_wp2_with fail
      generalize hW0 : w.alloc (.cells #[.string n, .string v] 27) = W0 at box hb0 hbl ⊢
      clear hW0
      have k0 : ∀ p : BelowOf W0, p.world.cell? ⟨w.heap.size, 0, none⟩ = some (.string n) := fun p => cell_of p hbl box.1
      have k1 : ∀ p : BelowOf W0, p.world.cell? ⟨w.heap.size, 1, none⟩ = some (.string v) := fun p => cell_of p hbl box.2
      have hb0 := Lib.hid hb0
      clear box
      refine wp_region_quiet_below (by kernel_rfl) (by kernel_rfl) ?_
      repeat (go_big_quiet_step ((first
        | (go_at_call 25; exact below_of (HNm.out _))
        | (go_at_call 22; exact below_same (HPl.out _))
        | fail)))
      refine wpQuiet_nil ?_
      intro W1 hw'
      have hb1 := of_class hw'
      clear hw'
      go_wp2_with fail
      go_ret2
      exact ⟨ret_pair (by rw [HF.out.2]; rfl) (by rw [HF.out.1]; rfl), bstep hb0.out hb1⟩
    | true =>
      rw [h2] at HPl
      have hp1 := Lib.hid h2
      clear h2
      obtain ⟨T, hT⟩ : ∃ T, T = bs (Go.Lib.trimS V gapL) := ⟨_, rfl⟩
      rw [← hT] at HTr
      cases h3 : noGap V with
      | false =>
        have HF := Lib.hid (fieldE_not N V (by unfold printOk; rw [h3, Bool.and_false]))
        have hcmp : (v.toList == T.toList) = false := by
          rw [beq_eq_false_iff_ne, hT, ByteArray.toList_eq, ByteArray.toList_eq, bs_data, ← HNV.out.2]
          intro e
          have := (trimS_iff V).1 e.symm
          rw [h3] at this; exact absurd this (by decide)
        clear h3 hT
        go_enter Tryz.func10, Tryz.ntmps10
        go_wp2_with fail
        generalize hW0 : w.alloc (.cells #[.string n, .string v] 27) = W0 at box hb0 hbl ⊢
        clear hW0
        have k0 : ∀ p : BelowOf W0, p.world.cell? ⟨w.heap.size, 0, none⟩ = some (.string n) := fun p => cell_of p hbl box.1
        have k1 : ∀ p : BelowOf W0, p.world.cell? ⟨w.heap.size, 1, none⟩ = some (.string v) := fun p => cell_of p hbl box.2
        have hb0 := Lib.hid hb0
        clear box
        refine wp_region_quiet_below (by kernel_rfl) (by kernel_rfl) ?_
        repeat (go_big_quiet_step ((first
          | (go_at_call 25; exact below_of (HNm.out _))
          | (go_at_call 22; exact below_same (HPl.out _))
          | (go_at_call 13; exact below_of (HTr.out _)))))
        refine wpQuiet_nil ?_
        intro W1 hw'
        have hb1 := of_class hw'
        clear hw'
        go_wp2_with fail
        go_ret2
        exact ⟨ret_pair (by rw [HF.out.2]; rfl) (by rw [HF.out.1]; rfl), bstep hb0.out hb1⟩
      | true =>
        have hok : printOk N V = true := by unfold printOk; rw [hn1.out, h3]; rw [show plainAll V = true from hp1.out]; rfl
        have HF := Lib.hid (fieldE_yes N V hok)
        have hcmp : (v.toList == T.toList) = true := by
          rw [beq_iff_eq, hT, ByteArray.toList_eq, ByteArray.toList_eq, bs_data, ← HNV.out.2]
          exact ((trimS_iff V).2 h3).symm
        have hna := nameL_all N hn1.out
        have HTi := Lib.hid (fun w => fields_titled n w hn (fun j hj => by
          have := namedN_bd _ (hna.1 n[j] (by rw [HNV.out.1]; exact List.getElem_mem (by rw [size_len]; exact hj)))
          omega))
        obtain ⟨A, hA⟩ : ∃ A, A = bs (titL true n.data.toList) := ⟨_, rfl⟩
        have hAs : A.size ≤ 32 := by rw [hA, bs_size, titL_len, ← HNV.out.1]; exact hna.2.2
        have hs3 : (A ++ ⟨#[58, 32]⟩ ++ v).size ≤ 9223372036854775807 := by rw [ByteArray.size_append, ByteArray.size_append]; show A.size + 2 + v.size ≤ _; omega
        have HTR := Lib.hid (fun w => c_trimR (A ++ ⟨#[58, 32]⟩ ++ v) w hs3)
        obtain ⟨R, hR⟩ : ∃ R, R = bs (Go.Lib.trimRightS (A ++ ⟨#[58, 32]⟩ ++ v).data.toList gapL) := ⟨_, rfl⟩
        have hRv : R = bs (printL N V) := by
          rw [hR, data_cat, data_cat, hA, bs_data, ← HNV.out.1, ← HNV.out.2]
          exact congrArg bs (trimR_print (titL true N) V h3)
        have hRs : R.size = (printL N V).length := by rw [hRv, bs_size]
        rw [← hA] at HTi
        rw [← hR] at HTR
        have HRv := Lib.hid hRv
        have hc1 : A.size + 2 ≤ 9223372036854775807 := by omega
        have hc2 : A.size + 2 + v.size ≤ 9223372036854775807 := by omega
        clear h3 hT hna hok hA hR hRv
        by_cases hlong : 256 < R.size
        · have HF5 := Lib.hid (HF.out.1 (by rw [← hRs]; exact hlong))
          have tl : decide ((R.size : Int) > 256) = true := decide_eq_true (by omega)
          clear hRs
          go_enter Tryz.func10, Tryz.ntmps10
          go_wp2_with fail
          generalize hW0 : w.alloc (.cells #[.string n, .string v] 27) = W0 at box hb0 hbl ⊢
          clear hW0
          have k0 : ∀ p : BelowOf W0, p.world.cell? ⟨w.heap.size, 0, none⟩ = some (.string n) := fun p => cell_of p hbl box.1
          have k1 : ∀ p : BelowOf W0, p.world.cell? ⟨w.heap.size, 1, none⟩ = some (.string v) := fun p => cell_of p hbl box.2
          have hb0 := Lib.hid hb0
          clear box
          refine wp_region_quiet_below (by kernel_rfl) (by kernel_rfl) ?_
          repeat (go_big_quiet_step ((first
            | (go_at_call 25; exact below_of (HNm.out _))
            | (go_at_call 22; exact below_same (HPl.out _))
            | (go_at_call 13; exact below_of (HTr.out _)))))
          refine wpQuiet_nil ?_
          intro W1 hw'
          have hb1 := of_class hw'
          clear hw'
          go_wp2_with fail
          have k0 : ∀ p : BelowOf W1, p.world.cell? ⟨w.heap.size, 0, none⟩ = some (.string n) := fun p => (cell_of p (Nat.lt_of_lt_of_le hbl hb1.size) (k0 ⟨W1, hb1⟩))
          have k1 : ∀ p : BelowOf W1, p.world.cell? ⟨w.heap.size, 1, none⟩ = some (.string v) := fun p => (cell_of p (Nat.lt_of_lt_of_le hbl hb1.size) (k1 ⟨W1, hb1⟩))
          refine wp_region_quiet_below (by kernel_rfl) (by kernel_rfl) ?_
          repeat (go_big_quiet_step ((first
            | (go_at_call 31; exact below_of (HTi.out _))
            | (go_at_call 30; exact below_of (HTR.out _)))))
          refine wpQuiet_nil ?_
          intro W2 hw'
          have hb2 := of_class hw'
          clear hw'
          go_wp2_with fail
          go_ret2
          exact ⟨ret_pair (by rw [HF5.out.2]; rfl) (by rw [HF5.out.1]; rfl), bstep hb0.out (bstep hb1 hb2)⟩
        · have HF0 := Lib.hid (HF.out.2 (by rw [← hRs]; omega))
          have tl : decide ((R.size : Int) > 256) = false := decide_eq_false (by omega)
          clear hRs
          go_enter Tryz.func10, Tryz.ntmps10
          go_wp2_with fail
          generalize hW0 : w.alloc (.cells #[.string n, .string v] 27) = W0 at box hb0 hbl ⊢
          clear hW0
          have k0 : ∀ p : BelowOf W0, p.world.cell? ⟨w.heap.size, 0, none⟩ = some (.string n) := fun p => cell_of p hbl box.1
          have k1 : ∀ p : BelowOf W0, p.world.cell? ⟨w.heap.size, 1, none⟩ = some (.string v) := fun p => cell_of p hbl box.2
          have hb0 := Lib.hid hb0
          clear box
          refine wp_region_quiet_below (by kernel_rfl) (by kernel_rfl) ?_
          repeat (go_big_quiet_step ((first
            | (go_at_call 25; exact below_of (HNm.out _))
            | (go_at_call 22; exact below_same (HPl.out _))
            | (go_at_call 13; exact below_of (HTr.out _)))))
          refine wpQuiet_nil ?_
          intro W1 hw'
          have hb1 := of_class hw'
          clear hw'
          go_wp2_with fail
          have k0 : ∀ p : BelowOf W1, p.world.cell? ⟨w.heap.size, 0, none⟩ = some (.string n) := fun p => (cell_of p (Nat.lt_of_lt_of_le hbl hb1.size) (k0 ⟨W1, hb1⟩))
          have k1 : ∀ p : BelowOf W1, p.world.cell? ⟨w.heap.size, 1, none⟩ = some (.string v) := fun p => (cell_of p (Nat.lt_of_lt_of_le hbl hb1.size) (k1 ⟨W1, hb1⟩))
          refine wp_region_quiet_below (by kernel_rfl) (by kernel_rfl) ?_
          repeat (go_big_quiet_step ((first
            | (go_at_call 31; exact below_of (HTi.out _))
            | (go_at_call 30; exact below_of (HTR.out _)))))
          refine wpQuiet_nil ?_
          intro W2 hw'
          have hb2 := of_class hw'
          clear hw'
          go_wp2_with fail
          go_ret2
          exact ⟨ret_pair (by rw [HF0.out.2, HRv.out]) (by rw [HF0.out.1]; rfl), bstep hb0.out (bstep hb1 hb2)⟩
end Go.Proofs.YtnfadmdndefanaaGreatDoor
