/- What Same of the document's notes returns (printed by wip/gennrsame.py). Results that lie in a block. What Find of the document's notes returns. What the walks of the laws on notes share. -/
import Derived.Test.YtcmkepkeeahioaaGreatDoorPw8
import Derived.Laws.Rows
set_option linter.unusedVariables false
set_option linter.unusedSimpArgs false
namespace Go.Proofs.YtcmkepkeeahioaaGreatDoor
open Go.RowKit
set_option maxRecDepth 100000 in
set_option maxHeartbeats 4000000 in
theorem ref_Same (u v : ND) (x0 x1 x2 x3 x4 y0 y1 y2 y3 y4 : Value) (w : World) (hu : NAt w u x0 x1 x2 x3 x4) (hv : NAt w v y0 y1 y2 y3 y4) (hgu : goodN u) (hgv : goodN v) (hwu : wfN u) (hwv : wfN v) (hzu : sizeN u ≤ 250) (hzv : sizeN v ≤ 250) :
    Calls Tryz.prog 18 #[.agg #[x0, x1, x2, x3, x4], .agg #[y0, y1, y2, y3, y4]] w fun e w' => e = .returned (.bool (sameJ (valN u) (valN v))) ∧ Below w.heap.size w w' := by
  obtain ⟨W0, hW0⟩ : ∃ W0, (w.alloc (.cells #[x0, x1, x2, x3, x4] 25)).alloc (.cells #[y0, y1, y2, y3, y4] 25) = W0 := ⟨_, rfl⟩
  have nA := NB.new w x0 x1 x2 x3 x4 25
  have nB := NB.new (w.alloc (.cells #[x0, x1, x2, x3, x4] 25)) y0 y1 y2 y3 y4 25
  have nA := nA.below nB.b
  rw [hW0] at nA nB
  have hsz : (w.alloc (.cells #[x0, x1, x2, x3, x4] 25)).heap.size = w.heap.size + 1 := by simp
  have HW0 := Lib.hid nA.b
  obtain ⟨SS, hSS⟩ : ∃ SS : World → Prop, SS = (fun (W : World) => (W.cell? ⟨w.heap.size, 0, none⟩ = some x0 ∧ W.cell? ⟨w.heap.size, 1, none⟩ = some x1 ∧ W.cell? ⟨w.heap.size, 2, none⟩ = some x2 ∧ W.cell? ⟨w.heap.size, 3, none⟩ = some x3 ∧ W.cell? ⟨w.heap.size, 4, none⟩ = some x4) ∧ (W.cell? ⟨w.heap.size + 1, 0, none⟩ = some y0 ∧ W.cell? ⟨w.heap.size + 1, 1, none⟩ = some y1 ∧ W.cell? ⟨w.heap.size + 1, 2, none⟩ = some y2 ∧ W.cell? ⟨w.heap.size + 1, 3, none⟩ = some y3 ∧ W.cell? ⟨w.heap.size + 1, 4, none⟩ = some y4)) := ⟨_, rfl⟩
  have HS : Hid (∀ W, Below W0.heap.size W0 W → (fun (W : World) => (W.cell? ⟨w.heap.size, 0, none⟩ = some x0 ∧ W.cell? ⟨w.heap.size, 1, none⟩ = some x1 ∧ W.cell? ⟨w.heap.size, 2, none⟩ = some x2 ∧ W.cell? ⟨w.heap.size, 3, none⟩ = some x3 ∧ W.cell? ⟨w.heap.size, 4, none⟩ = some x4) ∧ (W.cell? ⟨w.heap.size + 1, 0, none⟩ = some y0 ∧ W.cell? ⟨w.heap.size + 1, 1, none⟩ = some y1 ∧ W.cell? ⟨w.heap.size + 1, 2, none⟩ = some y2 ∧ W.cell? ⟨w.heap.size + 1, 3, none⟩ = some y3 ∧ W.cell? ⟨w.heap.size + 1, 4, none⟩ = some y4)) W) := Lib.hid (fun W hW => by
    have nA := nA.below hW
    refine ⟨⟨nA.c0, nA.c1, nA.c2, nA.c3, nA.c4⟩, ?_⟩
    have hlt : w.heap.size + 1 < W0.heap.size := by rw [← hsz]; exact nB.lt
    exact ⟨(hW.cell (p := ⟨w.heap.size + 1, 0, none⟩) hlt).trans (by rw [← hsz]; exact nB.c0), (hW.cell (p := ⟨w.heap.size + 1, 1, none⟩) hlt).trans (by rw [← hsz]; exact nB.c1), (hW.cell (p := ⟨w.heap.size + 1, 2, none⟩) hlt).trans (by rw [← hsz]; exact nB.c2), (hW.cell (p := ⟨w.heap.size + 1, 3, none⟩) hlt).trans (by rw [← hsz]; exact nB.c3), (hW.cell (p := ⟨w.heap.size + 1, 4, none⟩) hlt).trans (by rw [← hsz]; exact nB.c4)⟩)
  clear hSS SS hsz
  have HG0 : Hid (Below W0.heap.size W0 W0.drew) := Lib.hid (Below.refl _ _).drew
  have HC1 : Hid (∀ W, Below w.heap.size w W → Calls Tryz.prog 15 #[.agg #[x0, x1, x2, x3, x4]] W fun e w' => e = .returned (.int .i64 (chk (valN u) 1 : Nat)) ∧ Below W.heap.size W w') := Lib.hid (fun W hW => ref_Check u x0 x1 x2 x3 x4 W (hu.below hW) hgu hwu)
  have HC2 : Hid (∀ W, Below w.heap.size w W → Calls Tryz.prog 15 #[.agg #[y0, y1, y2, y3, y4]] W fun e w' => e = .returned (.int .i64 (chk (valN v) 1 : Nat)) ∧ Below W.heap.size W w') := Lib.hid (fun W hW => ref_Check v y0 y1 y2 y3 y4 W (hv.below hW) hgv hwv)
  unfold sameJ
  by_cases h1 : chk (valN u) 1 = 0
  · by_cases h2 : chk (valN v) 1 = 0
    · have HJ1 : Hid (∀ W, Below w.heap.size w W → Calls Tryz.prog 24 #[.agg #[x0, x1, x2, x3, x4]] W fun e w' => e = .returned (.string (bs (json (valN u)))) ∧ Below W.heap.size W w') := Lib.hid (fun W hW => ref_json u x0 x1 x2 x3 x4 W (hu.below hW) hgu hwu hzu h1)
      have HJ2 : Hid (∀ W, Below w.heap.size w W → Calls Tryz.prog 24 #[.agg #[y0, y1, y2, y3, y4]] W fun e w' => e = .returned (.string (bs (json (valN v)))) ∧ Below W.heap.size W w') := Lib.hid (fun W hW => ref_json v y0 y1 y2 y3 y4 W (hv.below hW) hgv hwv hzv h2)
      rw [h1] at HC1
      rw [h2] at HC2
      rw [decide_eq_true h1, decide_eq_true h2, Bool.true_and, Bool.true_and]
      have HQ := Lib.hid (bs_same (json (valN u)) (json (valN v)))
      generalize bs (json (valN u)) = X at HJ1 HQ
      generalize bs (json (valN v)) = Y at HJ2 HQ
      rw [← HQ.out]
      clear hu hv hgu hgv hwu hwv hzu hzv h1 h2 HQ nA nB
      go_enter Tryz.func18, Tryz.ntmps18
      go_wp2_with fail
      try rw [hW0]
      clear hW0
      refine wp_region_noPanic ?_
      refine wp_region_held_drew (S := fun (W : World) => (W.cell? ⟨w.heap.size, 0, none⟩ = some x0 ∧ W.cell? ⟨w.heap.size, 1, none⟩ = some x1 ∧ W.cell? ⟨w.heap.size, 2, none⟩ = some x2 ∧ W.cell? ⟨w.heap.size, 3, none⟩ = some x3 ∧ W.cell? ⟨w.heap.size, 4, none⟩ = some x4) ∧ (W.cell? ⟨w.heap.size + 1, 0, none⟩ = some y0 ∧ W.cell? ⟨w.heap.size + 1, 1, none⟩ = some y1 ∧ W.cell? ⟨w.heap.size + 1, 2, none⟩ = some y2 ∧ W.cell? ⟨w.heap.size + 1, 3, none⟩ = some y3 ∧ W.cell? ⟨w.heap.size + 1, 4, none⟩ = some y4)) (by kernel_rfl) (HS.out _ HG0.out) (fun hHeld => ?_)
      refine wpAnyH_take (i := 0) (v := ?v0q3) rfl (by kernel_rfl) (by kernel_rfl) (by kernel_rfl) (fun _ _ _ h => h) (Or.inl ⟨by rfl, ?y0q3⟩) (by assumption) ?z0q3
      case y0q3 => intro W hSw; (try dsimp only at hSw); go_simp <;> with_reducible rfl
      simp only [Act.put, List.getElem_toArray, List.getElem_cons_zero, List.getElem_cons_succ, List.setIfInBounds_toArray, List.set_cons_zero, List.set_cons_succ]
      refine wpAnyH_ready (rs := [1]) (by kernel_rfl) (by simp) ?_
      refine AllReadyH.cons rfl (fun K hK => ?_) AllReadyH.nil
      go_simp
      refine (HC1.out _ (bstep HW0.out HG0.out)).mono ?_
      rintro e wa1 ⟨rfl, hba1⟩
      have HG1 : Hid (Below W0.heap.size W0 wa1) := Lib.hid (bstep HG0.out hba1)
      clear hba1
      go_wp2_with fail
      refine hK.out _ _ (HS.out _ HG1.out) (fun hHeld1 => ?_)
      clear hK K
      try simp only [Act.put, List.getElem_toArray, List.getElem_cons_zero, List.getElem_cons_succ, List.setIfInBounds_toArray, List.set_cons_zero, List.set_cons_succ]
      refine wpAnyH_take (i := 2) (v := ?v2q3) rfl (by kernel_rfl) (by kernel_rfl) (by kernel_rfl) (fun _ _ _ h => h) (Or.inl ⟨by rfl, ?y2q3⟩) (by assumption) ?z2q3
      case y2q3 => intro W hSw; (try dsimp only at hSw); go_simp <;> with_reducible rfl
      simp only [Act.put, List.getElem_toArray, List.getElem_cons_zero, List.getElem_cons_succ, List.setIfInBounds_toArray, List.set_cons_zero, List.set_cons_succ]
      refine wpAnyH_take (i := 3) (v := ?v3q3) rfl (by kernel_rfl) (by kernel_rfl) (by kernel_rfl) (fun _ _ _ h => h) (Or.inl ⟨by rfl, ?y3q3⟩) (by assumption) ?z3q3
      case y3q3 => intro W hSw; (try dsimp only at hSw); go_simp <;> with_reducible rfl
      simp only [Act.put, List.getElem_toArray, List.getElem_cons_zero, List.getElem_cons_succ, List.setIfInBounds_toArray, List.set_cons_zero, List.set_cons_succ]
      refine wpAnyH_take (i := 4) (v := ?v4q3) rfl (by kernel_rfl) (by kernel_rfl) (by kernel_rfl) (fun _ _ _ h => h) (Or.inl ⟨by rfl, ?y4q3⟩) (by assumption) ?z4q3
      case y4q3 => intro W hSw; (try dsimp only at hSw); go_simp <;> with_reducible rfl
      simp only [Act.put, List.getElem_toArray, List.getElem_cons_zero, List.getElem_cons_succ, List.setIfInBounds_toArray, List.set_cons_zero, List.set_cons_succ]
      refine wpAnyH_ready (rs := [5]) (by kernel_rfl) (by simp) ?_
      refine AllReadyH.cons rfl (fun K hK => ?_) AllReadyH.nil
      go_simp
      refine (HC2.out _ (bstep HW0.out HG1.out)).mono ?_
      rintro e wa2 ⟨rfl, hba2⟩
      have HG2 : Hid (Below W0.heap.size W0 wa2) := Lib.hid (bstep HG1.out hba2)
      clear hba2
      go_wp2_with fail
      refine hK.out _ _ (HS.out _ HG2.out) (fun hHeld2 => ?_)
      clear hK K
      try simp only [Act.put, List.getElem_toArray, List.getElem_cons_zero, List.getElem_cons_succ, List.setIfInBounds_toArray, List.set_cons_zero, List.set_cons_succ]
      refine wpAnyH_take (i := 6) (v := ?v6q3) rfl (by kernel_rfl) (by kernel_rfl) (by kernel_rfl) (fun _ _ _ h => h) (Or.inl ⟨by rfl, ?y6q3⟩) (by assumption) ?z6q3
      case y6q3 => intro W hSw; (try dsimp only at hSw); go_simp <;> with_reducible rfl
      simp only [Act.put, List.getElem_toArray, List.getElem_cons_zero, List.getElem_cons_succ, List.setIfInBounds_toArray, List.set_cons_zero, List.set_cons_succ]
      refine wpAnyH_take (i := 7) (v := ?v7q3) rfl (by kernel_rfl) (by kernel_rfl) (by kernel_rfl) (fun _ _ _ h => h) (Or.inl ⟨by rfl, ?y7q3⟩) (by assumption) ?z7q3
      case y7q3 => intro W hSw; (try dsimp only at hSw); go_simp <;> with_reducible rfl
      simp only [Act.put, List.getElem_toArray, List.getElem_cons_zero, List.getElem_cons_succ, List.setIfInBounds_toArray, List.set_cons_zero, List.set_cons_succ]
      refine wpAnyH_take (i := 8) (v := ?v8q3) rfl (by kernel_rfl) (by kernel_rfl) (by kernel_rfl) (fun _ _ _ h => h) (Or.inl ⟨by rfl, ?y8q3⟩) (by assumption) ?z8q3
      case y8q3 => intro W hSw; (try dsimp only at hSw); go_simp <;> with_reducible rfl
      simp only [Act.put, List.getElem_toArray, List.getElem_cons_zero, List.getElem_cons_succ, List.setIfInBounds_toArray, List.set_cons_zero, List.set_cons_succ]
      refine wpAnyH_take (i := 9) (v := ?v9q3) rfl (by kernel_rfl) (by kernel_rfl) (by kernel_rfl) (fun _ _ _ h => h) (Or.inl ⟨by rfl, ?y9q3⟩) (by assumption) ?z9q3
      case y9q3 => intro W hSw; (try dsimp only at hSw); go_simp <;> with_reducible rfl
      simp only [Act.put, List.getElem_toArray, List.getElem_cons_zero, List.getElem_cons_succ, List.setIfInBounds_toArray, List.set_cons_zero, List.set_cons_succ]
      refine wpAnyH_take (i := 11) (v := ?v11q3) rfl (by kernel_rfl) (by kernel_rfl) (by kernel_rfl) (fun _ _ _ h => h) (Or.inl ⟨by rfl, ?y11q3⟩) (by assumption) ?z11q3
      case y11q3 => intro W hSw; (try dsimp only at hSw); go_simp <;> with_reducible rfl
      simp only [Act.put, List.getElem_toArray, List.getElem_cons_zero, List.getElem_cons_succ, List.setIfInBounds_toArray, List.set_cons_zero, List.set_cons_succ]
      refine wpAnyH_ready (rs := [10]) (by kernel_rfl) (by simp) ?_
      refine AllReadyH.cons rfl (fun K hK => ?_) AllReadyH.nil
      go_simp
      refine (HJ1.out _ (bstep HW0.out HG2.out)).mono ?_
      rintro e wa3 ⟨rfl, hba3⟩
      have HG3 : Hid (Below W0.heap.size W0 wa3) := Lib.hid (bstep HG2.out hba3)
      clear hba3
      go_wp2_with fail
      refine hK.out _ _ (HS.out _ HG3.out) (fun hHeld3 => ?_)
      clear hK K
      try simp only [Act.put, List.getElem_toArray, List.getElem_cons_zero, List.getElem_cons_succ, List.setIfInBounds_toArray, List.set_cons_zero, List.set_cons_succ]
      refine wpAnyH_ready (rs := [12]) (by kernel_rfl) (by simp) ?_
      refine AllReadyH.cons rfl (fun K hK => ?_) AllReadyH.nil
      go_simp
      refine (HJ2.out _ (bstep HW0.out HG3.out)).mono ?_
      rintro e wa4 ⟨rfl, hba4⟩
      have HG4 : Hid (Below W0.heap.size W0 wa4) := Lib.hid (bstep HG3.out hba4)
      clear hba4
      go_wp2_with fail
      refine hK.out _ _ (HS.out _ HG4.out) (fun hHeld4 => ?_)
      clear hK K
      try simp only [Act.put, List.getElem_toArray, List.getElem_cons_zero, List.getElem_cons_succ, List.setIfInBounds_toArray, List.set_cons_zero, List.set_cons_succ]
      refine wpAnyH_take (i := 13) (v := ?v13q3) rfl (by kernel_rfl) (by kernel_rfl) (by kernel_rfl) (fun _ _ _ h => h) (Or.inl ⟨by rfl, ?y13q3⟩) (by assumption) ?z13q3
      case y13q3 => intro W hSw; (try dsimp only at hSw); go_simp <;> with_reducible rfl
      simp only [Act.put, List.getElem_toArray, List.getElem_cons_zero, List.getElem_cons_succ, List.setIfInBounds_toArray, List.set_cons_zero, List.set_cons_succ]
      refine wpAnyH_take (i := 14) (v := ?v14q3) rfl (by kernel_rfl) (by kernel_rfl) (by kernel_rfl) (fun _ _ _ h => h) (Or.inl ⟨by rfl, ?y14q3⟩) (by assumption) ?z14q3
      case y14q3 => intro W hSw; (try dsimp only at hSw); go_simp <;> with_reducible rfl
      simp only [Act.put, List.getElem_toArray, List.getElem_cons_zero, List.getElem_cons_succ, List.setIfInBounds_toArray, List.set_cons_zero, List.set_cons_succ]
      refine wpAnyH_take (i := 15) (v := ?v15q3) rfl (by kernel_rfl) (by kernel_rfl) (by kernel_rfl) (fun _ _ _ h => h) (Or.inl ⟨by rfl, ?y15q3⟩) (by assumption) ?z15q3
      case y15q3 => intro W hSw; (try dsimp only at hSw); go_simp <;> with_reducible rfl
      simp only [Act.put, List.getElem_toArray, List.getElem_cons_zero, List.getElem_cons_succ, List.setIfInBounds_toArray, List.set_cons_zero, List.set_cons_succ]
      refine wpAnyH_done (by kernel_rfl) ?_ _
      refine NoPanic.normal ?_
      go_wp2_with fail
      go_ret
      exact ⟨rfl, bstep HW0.out HG4.out⟩
    · rw [decide_eq_false h2, Bool.and_false, Bool.false_and]
      rw [h1] at HC1
      generalize chk (valN v) 1 = R at HC2 h2
      have tr : ((R : Int) == 0) = false := by rw [beq_eq_false_iff_ne]; omega
      clear hu hv hgu hgv hwu hwv hzu hzv h1 h2 nA nB
      go_enter Tryz.func18, Tryz.ntmps18
      go_wp2_with fail
      try rw [hW0]
      clear hW0
      refine wp_region_noPanic ?_
      refine wp_region_held_drew (S := fun (W : World) => (W.cell? ⟨w.heap.size, 0, none⟩ = some x0 ∧ W.cell? ⟨w.heap.size, 1, none⟩ = some x1 ∧ W.cell? ⟨w.heap.size, 2, none⟩ = some x2 ∧ W.cell? ⟨w.heap.size, 3, none⟩ = some x3 ∧ W.cell? ⟨w.heap.size, 4, none⟩ = some x4) ∧ (W.cell? ⟨w.heap.size + 1, 0, none⟩ = some y0 ∧ W.cell? ⟨w.heap.size + 1, 1, none⟩ = some y1 ∧ W.cell? ⟨w.heap.size + 1, 2, none⟩ = some y2 ∧ W.cell? ⟨w.heap.size + 1, 3, none⟩ = some y3 ∧ W.cell? ⟨w.heap.size + 1, 4, none⟩ = some y4)) (by kernel_rfl) (HS.out _ HG0.out) (fun hHeld => ?_)
      refine wpAnyH_take (i := 0) (v := ?v0q2) rfl (by kernel_rfl) (by kernel_rfl) (by kernel_rfl) (fun _ _ _ h => h) (Or.inl ⟨by rfl, ?y0q2⟩) (by assumption) ?z0q2
      case y0q2 => intro W hSw; (try dsimp only at hSw); go_simp <;> with_reducible rfl
      simp only [Act.put, List.getElem_toArray, List.getElem_cons_zero, List.getElem_cons_succ, List.setIfInBounds_toArray, List.set_cons_zero, List.set_cons_succ]
      refine wpAnyH_ready (rs := [1]) (by kernel_rfl) (by simp) ?_
      refine AllReadyH.cons rfl (fun K hK => ?_) AllReadyH.nil
      go_simp
      refine (HC1.out _ (bstep HW0.out HG0.out)).mono ?_
      rintro e wa1 ⟨rfl, hba1⟩
      have HG1 : Hid (Below W0.heap.size W0 wa1) := Lib.hid (bstep HG0.out hba1)
      clear hba1
      go_wp2_with fail
      refine hK.out _ _ (HS.out _ HG1.out) (fun hHeld1 => ?_)
      clear hK K
      try simp only [Act.put, List.getElem_toArray, List.getElem_cons_zero, List.getElem_cons_succ, List.setIfInBounds_toArray, List.set_cons_zero, List.set_cons_succ]
      refine wpAnyH_take (i := 2) (v := ?v2q2) rfl (by kernel_rfl) (by kernel_rfl) (by kernel_rfl) (fun _ _ _ h => h) (Or.inl ⟨by rfl, ?y2q2⟩) (by assumption) ?z2q2
      case y2q2 => intro W hSw; (try dsimp only at hSw); go_simp <;> with_reducible rfl
      simp only [Act.put, List.getElem_toArray, List.getElem_cons_zero, List.getElem_cons_succ, List.setIfInBounds_toArray, List.set_cons_zero, List.set_cons_succ]
      refine wpAnyH_take (i := 3) (v := ?v3q2) rfl (by kernel_rfl) (by kernel_rfl) (by kernel_rfl) (fun _ _ _ h => h) (Or.inl ⟨by rfl, ?y3q2⟩) (by assumption) ?z3q2
      case y3q2 => intro W hSw; (try dsimp only at hSw); go_simp <;> with_reducible rfl
      simp only [Act.put, List.getElem_toArray, List.getElem_cons_zero, List.getElem_cons_succ, List.setIfInBounds_toArray, List.set_cons_zero, List.set_cons_succ]
      refine wpAnyH_take (i := 4) (v := ?v4q2) rfl (by kernel_rfl) (by kernel_rfl) (by kernel_rfl) (fun _ _ _ h => h) (Or.inl ⟨by rfl, ?y4q2⟩) (by assumption) ?z4q2
      case y4q2 => intro W hSw; (try dsimp only at hSw); go_simp <;> with_reducible rfl
      simp only [Act.put, List.getElem_toArray, List.getElem_cons_zero, List.getElem_cons_succ, List.setIfInBounds_toArray, List.set_cons_zero, List.set_cons_succ]
      refine wpAnyH_ready (rs := [5]) (by kernel_rfl) (by simp) ?_
      refine AllReadyH.cons rfl (fun K hK => ?_) AllReadyH.nil
      go_simp
      refine (HC2.out _ (bstep HW0.out HG1.out)).mono ?_
      rintro e wa2 ⟨rfl, hba2⟩
      have HG2 : Hid (Below W0.heap.size W0 wa2) := Lib.hid (bstep HG1.out hba2)
      clear hba2
      go_wp2_with fail
      refine hK.out _ _ (HS.out _ HG2.out) (fun hHeld2 => ?_)
      clear hK K
      try simp only [Act.put, List.getElem_toArray, List.getElem_cons_zero, List.getElem_cons_succ, List.setIfInBounds_toArray, List.set_cons_zero, List.set_cons_succ]
      refine wpAnyH_take (i := 6) (v := ?v6q2) rfl (by kernel_rfl) (by kernel_rfl) (by kernel_rfl) (fun _ _ _ h => h) (Or.inl ⟨by rfl, ?y6q2⟩) (by assumption) ?z6q2
      case y6q2 => intro W hSw; (try dsimp only at hSw); go_simp <;> with_reducible rfl
      simp only [Act.put, List.getElem_toArray, List.getElem_cons_zero, List.getElem_cons_succ, List.setIfInBounds_toArray, List.set_cons_zero, List.set_cons_succ]
      refine wpAnyH_take (i := 7) (v := ?v7q2) rfl (by kernel_rfl) (by kernel_rfl) (by kernel_rfl) (fun _ _ _ h => h) (Or.inl ⟨by rfl, ?y7q2⟩) (by assumption) ?z7q2
      case y7q2 => intro W hSw; (try dsimp only at hSw); go_simp <;> with_reducible rfl
      simp only [Act.put, List.getElem_toArray, List.getElem_cons_zero, List.getElem_cons_succ, List.setIfInBounds_toArray, List.set_cons_zero, List.set_cons_succ]
      refine wpAnyH_take (i := 8) (v := ?v8q2) rfl (by kernel_rfl) (by kernel_rfl) (by kernel_rfl) (fun _ _ _ h => h) (Or.inl ⟨by rfl, ?y8q2⟩) (by assumption) ?z8q2
      case y8q2 => intro W hSw; (try dsimp only at hSw); go_simp <;> with_reducible rfl
      simp only [Act.put, List.getElem_toArray, List.getElem_cons_zero, List.getElem_cons_succ, List.setIfInBounds_toArray, List.set_cons_zero, List.set_cons_succ]
      refine wpAnyH_take (i := 9) (v := undef) rfl (by kernel_rfl) (by kernel_rfl) (by kernel_rfl) (fun _ _ _ h => h) (Or.inr ⟨by rfl, rfl⟩) (by assumption) ?_
      simp only [Act.put, List.getElem_toArray, List.getElem_cons_zero, List.getElem_cons_succ, List.setIfInBounds_toArray, List.set_cons_zero, List.set_cons_succ]
      refine wpAnyH_take (i := 10) (v := undef) rfl (by kernel_rfl) (by kernel_rfl) (by kernel_rfl) (fun _ _ _ h => h) (Or.inr ⟨by rfl, rfl⟩) (by assumption) ?_
      simp only [Act.put, List.getElem_toArray, List.getElem_cons_zero, List.getElem_cons_succ, List.setIfInBounds_toArray, List.set_cons_zero, List.set_cons_succ]
      refine wpAnyH_take (i := 11) (v := undef) rfl (by kernel_rfl) (by kernel_rfl) (by kernel_rfl) (fun _ _ _ h => h) (Or.inr ⟨by rfl, rfl⟩) (by assumption) ?_
      simp only [Act.put, List.getElem_toArray, List.getElem_cons_zero, List.getElem_cons_succ, List.setIfInBounds_toArray, List.set_cons_zero, List.set_cons_succ]
      refine wpAnyH_take (i := 12) (v := undef) rfl (by kernel_rfl) (by kernel_rfl) (by kernel_rfl) (fun _ _ _ h => h) (Or.inr ⟨by rfl, rfl⟩) (by assumption) ?_
      simp only [Act.put, List.getElem_toArray, List.getElem_cons_zero, List.getElem_cons_succ, List.setIfInBounds_toArray, List.set_cons_zero, List.set_cons_succ]
      refine wpAnyH_take (i := 13) (v := undef) rfl (by kernel_rfl) (by kernel_rfl) (by kernel_rfl) (fun _ _ _ h => h) (Or.inr ⟨by rfl, rfl⟩) (by assumption) ?_
      simp only [Act.put, List.getElem_toArray, List.getElem_cons_zero, List.getElem_cons_succ, List.setIfInBounds_toArray, List.set_cons_zero, List.set_cons_succ]
      refine wpAnyH_take (i := 14) (v := ?v14q2) rfl (by kernel_rfl) (by kernel_rfl) (by kernel_rfl) (fun _ _ _ h => h) (Or.inl ⟨by rfl, ?y14q2⟩) (by assumption) ?z14q2
      case y14q2 => intro W hSw; (try dsimp only at hSw); go_simp <;> with_reducible rfl
      simp only [Act.put, List.getElem_toArray, List.getElem_cons_zero, List.getElem_cons_succ, List.setIfInBounds_toArray, List.set_cons_zero, List.set_cons_succ]
      refine wpAnyH_take (i := 15) (v := ?v15q2) rfl (by kernel_rfl) (by kernel_rfl) (by kernel_rfl) (fun _ _ _ h => h) (Or.inl ⟨by rfl, ?y15q2⟩) (by assumption) ?z15q2
      case y15q2 => intro W hSw; (try dsimp only at hSw); go_simp <;> with_reducible rfl
      simp only [Act.put, List.getElem_toArray, List.getElem_cons_zero, List.getElem_cons_succ, List.setIfInBounds_toArray, List.set_cons_zero, List.set_cons_succ]
      refine wpAnyH_done (by kernel_rfl) ?_ _
      refine NoPanic.normal ?_
      go_wp2_with fail
      go_ret
      exact ⟨rfl, bstep HW0.out HG2.out⟩
  · rw [decide_eq_false h1, Bool.false_and, Bool.false_and]
    generalize chk (valN u) 1 = R at HC1 h1
    have tr : ((R : Int) == 0) = false := by rw [beq_eq_false_iff_ne]; omega
    clear hu hv hgu hgv hwu hwv hzu hzv h1 HC2 nA nB
    go_enter Tryz.func18, Tryz.ntmps18
    go_wp2_with fail
    try rw [hW0]
    clear hW0
    refine wp_region_noPanic ?_
    refine wp_region_held_drew (S := fun (W : World) => (W.cell? ⟨w.heap.size, 0, none⟩ = some x0 ∧ W.cell? ⟨w.heap.size, 1, none⟩ = some x1 ∧ W.cell? ⟨w.heap.size, 2, none⟩ = some x2 ∧ W.cell? ⟨w.heap.size, 3, none⟩ = some x3 ∧ W.cell? ⟨w.heap.size, 4, none⟩ = some x4) ∧ (W.cell? ⟨w.heap.size + 1, 0, none⟩ = some y0 ∧ W.cell? ⟨w.heap.size + 1, 1, none⟩ = some y1 ∧ W.cell? ⟨w.heap.size + 1, 2, none⟩ = some y2 ∧ W.cell? ⟨w.heap.size + 1, 3, none⟩ = some y3 ∧ W.cell? ⟨w.heap.size + 1, 4, none⟩ = some y4)) (by kernel_rfl) (HS.out _ HG0.out) (fun hHeld => ?_)
    refine wpAnyH_take (i := 0) (v := ?v0q1) rfl (by kernel_rfl) (by kernel_rfl) (by kernel_rfl) (fun _ _ _ h => h) (Or.inl ⟨by rfl, ?y0q1⟩) (by assumption) ?z0q1
    case y0q1 => intro W hSw; (try dsimp only at hSw); go_simp <;> with_reducible rfl
    simp only [Act.put, List.getElem_toArray, List.getElem_cons_zero, List.getElem_cons_succ, List.setIfInBounds_toArray, List.set_cons_zero, List.set_cons_succ]
    refine wpAnyH_ready (rs := [1]) (by kernel_rfl) (by simp) ?_
    refine AllReadyH.cons rfl (fun K hK => ?_) AllReadyH.nil
    go_simp
    refine (HC1.out _ (bstep HW0.out HG0.out)).mono ?_
    rintro e wa1 ⟨rfl, hba1⟩
    have HG1 : Hid (Below W0.heap.size W0 wa1) := Lib.hid (bstep HG0.out hba1)
    clear hba1
    go_wp2_with fail
    refine hK.out _ _ (HS.out _ HG1.out) (fun hHeld1 => ?_)
    clear hK K
    try simp only [Act.put, List.getElem_toArray, List.getElem_cons_zero, List.getElem_cons_succ, List.setIfInBounds_toArray, List.set_cons_zero, List.set_cons_succ]
    refine wpAnyH_take (i := 2) (v := ?v2q1) rfl (by kernel_rfl) (by kernel_rfl) (by kernel_rfl) (fun _ _ _ h => h) (Or.inl ⟨by rfl, ?y2q1⟩) (by assumption) ?z2q1
    case y2q1 => intro W hSw; (try dsimp only at hSw); go_simp <;> with_reducible rfl
    simp only [Act.put, List.getElem_toArray, List.getElem_cons_zero, List.getElem_cons_succ, List.setIfInBounds_toArray, List.set_cons_zero, List.set_cons_succ]
    refine wpAnyH_take (i := 3) (v := ?v3q1) rfl (by kernel_rfl) (by kernel_rfl) (by kernel_rfl) (fun _ _ _ h => h) (Or.inl ⟨by rfl, ?y3q1⟩) (by assumption) ?z3q1
    case y3q1 => intro W hSw; (try dsimp only at hSw); go_simp <;> with_reducible rfl
    simp only [Act.put, List.getElem_toArray, List.getElem_cons_zero, List.getElem_cons_succ, List.setIfInBounds_toArray, List.set_cons_zero, List.set_cons_succ]
    refine wpAnyH_take (i := 4) (v := undef) rfl (by kernel_rfl) (by kernel_rfl) (by kernel_rfl) (fun _ _ _ h => h) (Or.inr ⟨by rfl, rfl⟩) (by assumption) ?_
    simp only [Act.put, List.getElem_toArray, List.getElem_cons_zero, List.getElem_cons_succ, List.setIfInBounds_toArray, List.set_cons_zero, List.set_cons_succ]
    refine wpAnyH_take (i := 5) (v := undef) rfl (by kernel_rfl) (by kernel_rfl) (by kernel_rfl) (fun _ _ _ h => h) (Or.inr ⟨by rfl, rfl⟩) (by assumption) ?_
    simp only [Act.put, List.getElem_toArray, List.getElem_cons_zero, List.getElem_cons_succ, List.setIfInBounds_toArray, List.set_cons_zero, List.set_cons_succ]
    refine wpAnyH_take (i := 6) (v := undef) rfl (by kernel_rfl) (by kernel_rfl) (by kernel_rfl) (fun _ _ _ h => h) (Or.inr ⟨by rfl, rfl⟩) (by assumption) ?_
    simp only [Act.put, List.getElem_toArray, List.getElem_cons_zero, List.getElem_cons_succ, List.setIfInBounds_toArray, List.set_cons_zero, List.set_cons_succ]
    refine wpAnyH_take (i := 7) (v := ?v7q1) rfl (by kernel_rfl) (by kernel_rfl) (by kernel_rfl) (fun _ _ _ h => h) (Or.inl ⟨by rfl, ?y7q1⟩) (by assumption) ?z7q1
    case y7q1 => intro W hSw; (try dsimp only at hSw); go_simp <;> with_reducible rfl
    simp only [Act.put, List.getElem_toArray, List.getElem_cons_zero, List.getElem_cons_succ, List.setIfInBounds_toArray, List.set_cons_zero, List.set_cons_succ]
    refine wpAnyH_take (i := 8) (v := ?v8q1) rfl (by kernel_rfl) (by kernel_rfl) (by kernel_rfl) (fun _ _ _ h => h) (Or.inl ⟨by rfl, ?y8q1⟩) (by assumption) ?z8q1
    case y8q1 => intro W hSw; (try dsimp only at hSw); go_simp <;> with_reducible rfl
    simp only [Act.put, List.getElem_toArray, List.getElem_cons_zero, List.getElem_cons_succ, List.setIfInBounds_toArray, List.set_cons_zero, List.set_cons_succ]
    refine wpAnyH_take (i := 9) (v := undef) rfl (by kernel_rfl) (by kernel_rfl) (by kernel_rfl) (fun _ _ _ h => h) (Or.inr ⟨by rfl, rfl⟩) (by assumption) ?_
    simp only [Act.put, List.getElem_toArray, List.getElem_cons_zero, List.getElem_cons_succ, List.setIfInBounds_toArray, List.set_cons_zero, List.set_cons_succ]
    refine wpAnyH_take (i := 10) (v := undef) rfl (by kernel_rfl) (by kernel_rfl) (by kernel_rfl) (fun _ _ _ h => h) (Or.inr ⟨by rfl, rfl⟩) (by assumption) ?_
    simp only [Act.put, List.getElem_toArray, List.getElem_cons_zero, List.getElem_cons_succ, List.setIfInBounds_toArray, List.set_cons_zero, List.set_cons_succ]
    refine wpAnyH_take (i := 11) (v := undef) rfl (by kernel_rfl) (by kernel_rfl) (by kernel_rfl) (fun _ _ _ h => h) (Or.inr ⟨by rfl, rfl⟩) (by assumption) ?_
    simp only [Act.put, List.getElem_toArray, List.getElem_cons_zero, List.getElem_cons_succ, List.setIfInBounds_toArray, List.set_cons_zero, List.set_cons_succ]
    refine wpAnyH_take (i := 12) (v := undef) rfl (by kernel_rfl) (by kernel_rfl) (by kernel_rfl) (fun _ _ _ h => h) (Or.inr ⟨by rfl, rfl⟩) (by assumption) ?_
    simp only [Act.put, List.getElem_toArray, List.getElem_cons_zero, List.getElem_cons_succ, List.setIfInBounds_toArray, List.set_cons_zero, List.set_cons_succ]
    refine wpAnyH_take (i := 13) (v := undef) rfl (by kernel_rfl) (by kernel_rfl) (by kernel_rfl) (fun _ _ _ h => h) (Or.inr ⟨by rfl, rfl⟩) (by assumption) ?_
    simp only [Act.put, List.getElem_toArray, List.getElem_cons_zero, List.getElem_cons_succ, List.setIfInBounds_toArray, List.set_cons_zero, List.set_cons_succ]
    refine wpAnyH_take (i := 14) (v := ?v14q1) rfl (by kernel_rfl) (by kernel_rfl) (by kernel_rfl) (fun _ _ _ h => h) (Or.inl ⟨by rfl, ?y14q1⟩) (by assumption) ?z14q1
    case y14q1 => intro W hSw; (try dsimp only at hSw); go_simp <;> with_reducible rfl
    simp only [Act.put, List.getElem_toArray, List.getElem_cons_zero, List.getElem_cons_succ, List.setIfInBounds_toArray, List.set_cons_zero, List.set_cons_succ]
    refine wpAnyH_take (i := 15) (v := ?v15q1) rfl (by kernel_rfl) (by kernel_rfl) (by kernel_rfl) (fun _ _ _ h => h) (Or.inl ⟨by rfl, ?y15q1⟩) (by assumption) ?z15q1
    case y15q1 => intro W hSw; (try dsimp only at hSw); go_simp <;> with_reducible rfl
    simp only [Act.put, List.getElem_toArray, List.getElem_cons_zero, List.getElem_cons_succ, List.setIfInBounds_toArray, List.set_cons_zero, List.set_cons_succ]
    refine wpAnyH_done (by kernel_rfl) ?_ _
    refine NoPanic.normal ?_
    go_wp2_with fail
    go_ret
    exact ⟨rfl, bstep HW0.out HG1.out⟩
end Go.Proofs.YtcmkepkeeahioaaGreatDoor
namespace Go.Proofs.YtcmkepkeeahioaaGreatDoor
open Go.RowKit

theorem ret_cell2 {fn : Func} {R : Ending → World → Prop} {a : Act} {w : World} {A : Addr} {V E : Value} {p u : Tmp} {ty : TypeId} (hres : fn.results = #[.cell p ty, .tmp u])
    (hload : (loadVar ty A).run Tryz.prog w = .ok V w)
    (hp : a.tmps.getD p undef = .pointer (some A)) (hE : a.tmps.getD u undef = E) (hdef : a.defers = [])
    (hR : R (.returned (.tuple #[V, E])) w) : bodyPost Tryz.prog fn R .ret a w := by
  refine bodyPost_ret_by (v := .tuple #[V, E]) ?_ hdef hR
  rw [results_cell_tmp hres, hp, hE]
  simp [asAddr, hload, Result.andThen]
end Go.Proofs.YtcmkepkeeahioaaGreatDoor
namespace Go.Proofs.YtcmkepkeeahioaaGreatDoor
open Go.RowKit
theorem load_rnode (w : World) (b : Nat) (t : TypeId) (x y z u v : Value) (h : w.heap[b]? = some (.cells #[x, y, z, u, v] t (0, 0))) : (loadVar 25 ⟨b, 0, none⟩).run Tryz.prog w = .ok (.agg #[x, y, z, u, v]) w :=
  run_loadVar_row w b t 25 #[x, y, z, u, v] (0, 0) _ h Tryz.underlying25 rfl (by kernel_rfl)
theorem five_set {w : World} {b : Nat} {x y z u v : Value} {t : TypeId} (h : w.heap[b]? = some (.cells #[x, y, z, u, v] t (0, 0))) (x' y' z' u' v' : Value) :
    (((((w.setCell ⟨b, 0, none⟩ x').setCell ⟨b, 1, none⟩ y').setCell ⟨b, 2, none⟩ z').setCell ⟨b, 3, none⟩ u').setCell ⟨b, 4, none⟩ v').heap[b]? = some (.cells #[x', y', z', u', v'] t (0, 0)) := by
  simp [World.setCell, Array.getElem?_modify, h]
theorem five_put {B : Nat} {w0 w : World} (h : Below B w0 w) (b : Nat) (hB : B ≤ b) (x' y' z' u' v' : Value) : Below B w0 (((((w.setCell ⟨b, 0, none⟩ x').setCell ⟨b, 1, none⟩ y').setCell ⟨b, 2, none⟩ z').setCell ⟨b, 3, none⟩ u').setCell ⟨b, 4, none⟩ v') :=
  ((((h.setCell (p := ⟨b, 0, none⟩) hB _).setCell (p := ⟨b, 1, none⟩) hB _).setCell (p := ⟨b, 2, none⟩) hB _).setCell (p := ⟨b, 3, none⟩) hB _).setCell (p := ⟨b, 4, none⟩) hB _
theorem five_facts {w : World} {b : Nat} {x y z u v : Value} {t : TypeId} (h : w.heap[b]? = some (.cells #[x, y, z, u, v] t (0, 0))) :
    (w.cell? ⟨b, 0, none⟩ = some x ∧ w.cell? ⟨b, 1, none⟩ = some y ∧ w.cell? ⟨b, 2, none⟩ = some z ∧ w.cell? ⟨b, 3, none⟩ = some u ∧ w.cell? ⟨b, 4, none⟩ = some v) ∧ (w.frozen? ⟨b, 0, none⟩ = false ∧ w.frozen? ⟨b, 1, none⟩ = false ∧ w.frozen? ⟨b, 2, none⟩ = false ∧ w.frozen? ⟨b, 3, none⟩ = false ∧ w.frozen? ⟨b, 4, none⟩ = false) := by
  refine ⟨⟨?_, ?_, ?_, ?_, ?_⟩, ?_, ?_, ?_, ?_, ?_⟩ <;> first | (unfold World.cell?; rw [h]; rfl) | (unfold World.frozen?; rw [h]; rfl)
/-- the kid of a name -/
def findK : List ByteArray → List ND → ByteArray → Option ND
  | a :: u, v :: t, q => if a = q then some v else findK u t q
  | _, _, _ => none
def findN : ND → ByteArray → Option ND
  | .mk k _ _ names kids, q => if k = 6 then findK names kids q else none
theorem findK_val : ∀ (names : List ByteArray) (kids : List ND) (q : ByteArray), findO (valO names kids) q.data.toList = (findK names kids q).map valN
  | [], l, q => by rw [valO_nil]; rfl
  | a :: u, [], q => by rw [valO_nil2]; rfl
  | a :: u, v :: t, q => by
    rw [valO, findO, findK]
    by_cases e : a = q
    · rw [if_pos e, if_pos (by rw [e])]; rfl
    · rw [if_neg e, if_neg (data_ne e), findK_val u t q]
theorem findN_val (v : ND) (q : ByteArray) : findJ (valN v) q.data.toList = (findN v q).map valN := by
  cases v with
  | mk k n s names kids =>
  rw [valN, findN]
  by_cases k6 : k = 6
  · subst k6
    rw [if_neg (by decide), if_neg (by decide), if_neg (by decide), if_neg (by decide), if_neg (by decide), if_neg (by decide), if_pos rfl, if_pos rfl, ← findK_val]
    rfl
  · rw [if_neg k6, if_neg k6]
    split <;> first | rfl | (split <;> first | rfl | (split <;> first | rfl | (split <;> first | rfl | (split <;> first | rfl | (split <;> rfl)))))
theorem NAt.shape {w : World} {u : ND} {x0 x1 x2 x3 x4 : Value} (h : NAt w u x0 x1 x2 x3 x4) : ∃ k n s a1 n1 c1 a2 n2 c2, x0 = .int .u8 k ∧ x1 = .int .i64 n ∧ x2 = .string s ∧ x3 = .slice a1 n1 c1 ∧ x4 = .slice a2 n2 c2 := by
  cases u with
  | mk k n s names kids =>
  rw [NAt] at h
  obtain ⟨e0, e1, e2, ⟨an, cn, e3, _⟩, ak, ck, e4, _⟩ := h
  exact ⟨k, n, s, an, _, cn, ak, _, ck, e0, e1, e2, e3, e4⟩
/-- the shape of a node's cells -/
def Sh5 (x0 x1 x2 x3 x4 : Value) : Prop := ∃ k n s a1 n1 c1 a2 n2 c2, x0 = .int .u8 k ∧ x1 = .int .i64 n ∧ x2 = .string s ∧ x3 = .slice a1 n1 c1 ∧ x4 = .slice a2 n2 c2
/-- what Find leaves -/
def RFindR (w : World) (r : Option ND) (z0 z1 z2 z3 z4 : Value) : Prop := match r with
  | none => Sh5 z0 z1 z2 z3 z4
  | some u => NAt w u z0 z1 z2 z3 z4
set_option maxRecDepth 100000 in
set_option maxHeartbeats 4000000 in
theorem ref_Find (v : ND) (q : ByteArray) (x0 x1 x2 x3 x4 : Value) (w : World) (hv : NAt w v x0 x1 x2 x3 x4) (hg : goodN v) (hzz : sizeN v ≤ 250) :
    Calls Tryz.prog 12 #[.agg #[x0, x1, x2, x3, x4], .string q] w fun e w' => (∃ z0 z1 z2 z3 z4, e = .returned (.tuple #[.agg #[z0, z1, z2, z3, z4], .bool (findN v q).isSome]) ∧ RFindR w (findN v q) z0 z1 z2 z3 z4) ∧ Below w.heap.size w w' := by
  obtain ⟨W0, hW0⟩ : ∃ W0, (w.alloc (.cells #[x0, x1, x2, x3, x4] 25)).alloc (.cells #[.int .u8 0, .int .i64 0, .string ⟨#[]⟩, .slice none 0 0, .slice none 0 0] 25) = W0 := ⟨_, rfl⟩
  have nA := NB.new w x0 x1 x2 x3 x4 25
  have nB := below_five (w.alloc (.cells #[x0, x1, x2, x3, x4] 25)) (.int .u8 0) (.int .i64 0) (.string ⟨#[]⟩) (.slice none 0 0) (.slice none 0 0) 25
  have nC := heap_alloc_new (w.alloc (.cells #[x0, x1, x2, x3, x4] 25)) (.cells #[.int .u8 0, .int .i64 0, .string ⟨#[]⟩, .slice none 0 0, .slice none 0 0] 25)
  have hsz : (w.alloc (.cells #[x0, x1, x2, x3, x4] 25)).heap.size = w.heap.size + 1 := by simp
  rw [hsz] at nC
  have nA2 := nA.below nB
  rw [hW0] at nA2 nC
  have HB := Lib.hid nA2.b
  have HC := Lib.hid nC
  obtain ⟨-, lt0, c0, c1, c2, c3, c4⟩ := nA2
  obtain ⟨⟨d0, d1, d2, d3, d4⟩, f0, f1, f2, f3, f4⟩ := five_facts nC
  cases v with
  | mk k n s names kids =>
  rw [goodN] at hg
  obtain ⟨g1, g2, g3, g4, g5⟩ := hg
  rw [sizeN] at hzz
  have hkl := sizeL_len kids
  rw [NAt] at hv
  obtain ⟨e0, e1, e2, ⟨an, cn, e3, hcn, hn⟩, ak, ck, e4, hck, hk⟩ := hv
  obtain ⟨N, hN⟩ : ∃ N, names.length = N := ⟨_, rfl⟩
  obtain ⟨K, hK⟩ : ∃ K, kids.length = K := ⟨_, rfl⟩
  rw [hN] at e3
  rw [hK] at e4 hkl
  have hk250 : K ≤ 250 := by omega
  subst e0 e1 e2 e3 e4
  rw [findN]
  have HK := Lib.hid hk
  have HN := Lib.hid hn
  have HKK := Lib.hid hK
  have HNN := Lib.hid hN
  have HLT := Lib.hid (show w.heap.size ≤ w.heap.size + 1 by omega)
  clear hn hk hcn hck nA nB nC hsz g1 g3 g4 g5 hzz
  by_cases k6 : k = 6
  · subst k6
    rw [if_pos rfl]
    have hNK : N = K := by rw [← hN, ← hK]; exact g2 rfl
    subst hNK
    obtain ⟨F, hF⟩ : ∃ F, findK names kids q = F := ⟨_, rfl⟩
    rw [hF]
    have HF : Hid (findK (names.drop 0) (kids.drop 0) q = F) := Lib.hid hF
    clear hN hK g2 hF
    go_enter Tryz.func12, Tryz.ntmps12
    go_wp2_with fail
    try rw [hW0]
    clear hW0
    go_loopg [6] N (fun gk s6 wx => ∃ i : Nat, s6 = .int .i64 (i : Int) ∧ wx = W0 ∧ i + gk = N ∧ Hid (findK (names.drop i) (kids.drop i) q = F))
    case atStart => exact ⟨0, by simp, rfl, by omega, HF⟩
    case round =>
      obtain ⟨i, rfl, rfl, hgk, HW⟩ := hrel
      by_cases hi : i < N
      · have ti : decide ((i : Int) < (N : Int)) = true := decide_eq_true (by omega)
        have hik : i < kids.length := by rw [HKK.out]; exact hi
        have hin : i < names.length := by rw [HNN.out]; exact hi
        obtain ⟨b, o, rfl, hbl, hcell⟩ := HK.out (fun e => by rw [e] at hik; exact absurd hik (Nat.not_lt_zero _))
        obtain ⟨bn, on, rfl, hbn, hname⟩ := HN.out (fun e => by rw [e] at hin; exact absurd hin (Nat.not_lt_zero _))
        obtain ⟨y0, y1, y2, y3, y4, ⟨p0, p1, p2, p3, p4⟩, hat⟩ := hcell.get o kids i hik
        have q0 := (HB.out.cell (p := ⟨b, o + i * 5, none⟩) hbl).trans p0
        have q1 := (HB.out.cell (p := ⟨b, o + i * 5 + 1, none⟩) hbl).trans p1
        have q2 := (HB.out.cell (p := ⟨b, o + i * 5 + 2, none⟩) hbl).trans p2
        have q3 := (HB.out.cell (p := ⟨b, o + i * 5 + 3, none⟩) hbl).trans p3
        have q4 := (HB.out.cell (p := ⟨b, o + i * 5 + 4, none⟩) hbl).trans p4
        have ci := (HB.out.cell (p := ⟨bn, on + i, none⟩) hbn).trans (hname i hin)
        have hst := HW.out
        rw [List.drop_eq_getElem_cons hin, List.drop_eq_getElem_cons hik, findK] at hst
        have HAT := Lib.hid hat
        generalize names[i] = X at ci hst
        clear p0 p1 p2 p3 p4 hat hcell hname HW
        by_cases hX : X = q
        · subst hX
          rw [if_pos rfl] at hst
          have HST := Lib.hid hst
          obtain ⟨k', n', s', a1, n1, c1', a2, n2, c2', rfl, rfl, rfl, rfl, rfl⟩ := HAT.out.shape
          clear hst
          go_wp2_with fail
          refine ret_cell2 (A := ⟨w.heap.size + 1, 0, none⟩) rfl (load_rnode _ _ _ _ _ _ _ _ (five_set HC.out _ _ _ _ _)) rfl rfl rfl ?_
          rw [← HST.out]
          exact ⟨⟨_, _, _, _, _, rfl, HAT.out⟩, five_put HB.out _ HLT.out _ _ _ _ _⟩
        · rw [if_neg hX] at hst
          have hne := toList_ne hX
          have hnb : (X.toList == q.toList) = false := by rw [beq_eq_false_iff_ne]; exact hne
          have HST := Lib.hid hst
          obtain ⟨g', rfl⟩ : ∃ g', gk = g' + 1 := ⟨gk - 1, by omega⟩
          clear hst hX
          go_wp2_with fail
          go_roundg g'
          case measure => omega
          case rel => exact ⟨i + 1, by simp, rfl, by omega, HST⟩
      · have ti : decide ((i : Int) < (N : Int)) = false := decide_eq_false (by omega)
        have HST : Hid (F = none) := Lib.hid (by rw [← HW.out, List.drop_eq_nil_of_le (by rw [HNN.out]; omega)]; rfl)
        clear HW
        go_wp2_with fail
        refine ret_cell2 (A := ⟨w.heap.size + 1, 0, none⟩) rfl (load_rnode _ _ _ _ _ _ _ _ (five_set HC.out _ _ _ _ _)) rfl rfl rfl ?_
        rw [HST.out]
        exact ⟨⟨_, _, _, _, _, rfl, ⟨_, _, _, _, _, _, _, _, _, rfl, rfl, rfl, rfl, rfl⟩⟩, five_put HB.out _ HLT.out _ _ _ _ _⟩
  · rw [if_neg k6]
    have t6 : (k == 6) = false := by rw [beq_eq_false_iff_ne]; exact k6
    clear hN hK g2 k6
    go_enter Tryz.func12, Tryz.ntmps12
    go_wp2_with fail
    try rw [hW0]
    clear hW0
    go_loopg [6] 0 (fun gk s6 wx => s6 = .int .i64 0 ∧ wx = W0)
    case atStart => exact ⟨rfl, rfl⟩
    case round =>
      obtain ⟨rfl, rfl⟩ := hrel
      by_cases h0 : 0 < K
      case' pos => have ti : decide ((0 : Int) < (K : Int)) = true := decide_eq_true (by omega)
      case' neg => have ti : decide ((0 : Int) < (K : Int)) = false := decide_eq_false (by omega)
      all_goals
        go_wp2_with fail
        refine ret_cell2 (A := ⟨w.heap.size + 1, 0, none⟩) rfl (load_rnode _ _ _ _ _ _ _ _ (five_set HC.out _ _ _ _ _)) rfl rfl rfl ?_
        exact ⟨⟨_, _, _, _, _, rfl, ⟨_, _, _, _, _, _, _, _, _, rfl, rfl, rfl, rfl, rfl⟩⟩, five_put HB.out _ HLT.out _ _ _ _ _⟩
theorem RFindR.shape {w : World} {r : Option ND} {z0 z1 z2 z3 z4 : Value} (h : RFindR w r z0 z1 z2 z3 z4) : Sh5 z0 z1 z2 z3 z4 := by
  cases r with
  | none => exact h
  | some u => exact NAt.shape h
end Go.Proofs.YtcmkepkeeahioaaGreatDoor
namespace Go.Proofs.YtcmkepkeeahioaaGreatDoor
open Go.RowKit
mutual
theorem wfI_of : ∀ v : ND, wfN v → wfI v
  | .mk k n s names kids, h => by
    rw [wfN] at h
    rw [wfI]
    exact ⟨(bounds_i64 h.2.1).2, wfIL_of kids h.2.2.2.2.2.2⟩
theorem wfIL_of : ∀ l : List ND, wfL l → wfIL l
  | [], _ => by rw [wfIL]; trivial
  | v :: t, h => by rw [wfL] at h; rw [wfIL]; exact ⟨wfI_of v h.1, wfIL_of t h.2⟩
end
theorem light_good (v : ND) (h : 0 ≤ weighN v 200) : goodN v ∧ sizeN v ≤ 200 := by
  have := weigh_good v 200 h
  exact ⟨this.1, by omega⟩
theorem small_of (v : ND) (hg : goodN v) (hz : sizeN v ≤ 200) (hw : wfN v) : smallJ (valN v) := small_node v hg (by omega) (wfI_of v hw)
theorem json_of (v : ND) (hg : goodN v) (hz : sizeN v ≤ 200) : chk (valN v) 1 = 0 → (json (valN v)).length ≤ 1000000 := fun h => by have := json_len v 1 hg h; omega
/-- Own, then Put -/
theorem own_of (v : ND) (x0 x1 x2 x3 x4 : Value) (w : World) (hv : NAt w v x0 x1 x2 x3 x4) (hg : goodN v) (hz : sizeN v ≤ 200) (hw : wfN v) :
    Calls Tryz.prog 8 #[.agg #[x0, x1, x2, x3, x4]] w (OwnP v w) := law_own 200 v x0 x1 x2 x3 x4 w hz (by omega) hv hg hw
end Go.Proofs.YtcmkepkeeahioaaGreatDoor
