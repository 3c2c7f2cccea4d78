/- What Print of package fields returns. What Print of package reply returns. What Print of the reference of fields returns. Whether two replies of the document are the same. What Over and Print of the reference of reply return. -/
import Derived.Test.YtbdmmgmcbecolaaGreatDoorPu8
import Derived.Deep.RegionWith
import Derived.Deep.RegionHeld3
import Derived.BigQuiet
import Derived.Outline
set_option linter.unusedVariables false
set_option linter.unusedSimpArgs false
namespace Go.Proofs.YtbdmmgmcbecolaaGreatDoor
open Go.RowKit

theorem c_trimR (s : ByteArray) (w : World) (hs : s.size ≤ 9223372036854775807) :
    Calls Tryz.prog 158 #[.string s, .string ⟨#[32, 9]⟩] w fun e w' => e = .returned (.string (bs (Go.Lib.trimRightS s.data.toList gapL))) ∧ Below w.heap.size w w' :=
  Any.strings_TrimRight_laid Tryz.lays162 (by kernel_rfl) s ⟨#[32, 9]⟩ w (by omega) (by decide) (Go.Proofs.ascii_of_all (by decide))

/-- a text of bs, whatever is told of the list -/
theorem ret_pair {x x' : ByteArray} {E E' : Int} (h : x = x') (h2 : E = E') : Ending.returned (.tuple #[.string x, .int .i64 E]) = .returned (.tuple #[.string x', .int .i64 E']) := by rw [h, h2]
theorem fieldE_not (n v : List UInt8) (h : printOk n v = false) : fieldE n v = 4 ∧ fieldS n v = [] := by
  have h1 : fieldE n v = 4 := by unfold fieldE; rw [h]; rfl
  exact ⟨h1, by unfold fieldS; rw [h1]; rfl⟩

theorem box_cells (w : World) (n v : ByteArray) (t : TypeId) : (w.alloc (.cells #[.string n, .string v] t)).cell? ⟨w.heap.size, 0, none⟩ = some (.string n) ∧ (w.alloc (.cells #[.string n, .string v] t)).cell? ⟨w.heap.size, 1, none⟩ = some (.string v) := by
  have hh := heap_alloc_new w (.cells #[.string n, .string v] t)
  exact ⟨by unfold World.cell?; rw [hh]; rfl, by unfold World.cell?; rw [hh]; rfl⟩
theorem below_box2 (w : World) (x y : Value) (t : TypeId) : Below w.heap.size w (w.alloc (.cells #[x, y] t)) := (Below.refl _ _).alloc (Nat.le_refl _) _
theorem fieldE_yes (n v : List UInt8) (h : printOk n v = true) : (256 < (printL n v).length → fieldE n v = 5 ∧ fieldS n v = []) ∧ ((printL n v).length ≤ 256 → fieldE n v = 0 ∧ fieldS n v = printL n v) := by
  constructor
  · intro hl
    have h1 : fieldE n v = 5 := by unfold fieldE; rw [h, if_pos rfl, if_pos hl]
    exact ⟨h1, by unfold fieldS; rw [h1]; rfl⟩
  · intro hl
    have h1 : fieldE n v = 0 := by unfold fieldE; rw [h, if_pos rfl, if_neg (by omega)]
    exact ⟨h1, by unfold fieldS; rw [h1]; rfl⟩

set_option maxRecDepth 100000 in
set_option maxHeartbeats 4000000 in
theorem fields_print (n v : ByteArray) (w : World) (hn : n.size ≤ 1000000) (hv : v.size ≤ 1000000) :
    Calls Tryz.prog 124 #[.agg #[.string n, .string v]] w fun e w' => e = .returned (.tuple #[.string (bs (fieldS n.data.toList v.data.toList)), .int .i64 (fieldE n.data.toList v.data.toList)]) ∧ Below w.heap.size w w' := by
  have HNm := Lib.hid (fun w => fields_name n w)
  have HPl := Lib.hid (fun w => fields_plain v w (by omega))
  have HTr := Lib.hid (fun w => c_trim v w hv)
  obtain ⟨N, hN⟩ : ∃ N, N = n.data.toList := ⟨_, rfl⟩
  obtain ⟨V, hV⟩ : ∃ V, V = v.data.toList := ⟨_, rfl⟩
  rw [← hN] at HNm
  rw [← hV] at HPl HTr
  rw [← hN, ← hV]
  have HNV := Lib.hid (And.intro hN hV)
  clear hN hV
  have box := box_cells w n v 161
  have hb0 := below_box2 w (.string n) (.string v) 161
  have hbl : w.heap.size < (w.alloc (.cells #[.string n, .string v] 161)).heap.size := by simp
  cases h1 : nameL N with
  | false =>
    have HF := Lib.hid (fieldE_not N V (by unfold printOk; rw [h1]; rfl))
    rw [h1] at HNm
    clear h1 HPl HTr
    go_enter Tryz.func124, Tryz.ntmps124
    go_wp2_with fail
    generalize hW0 : w.alloc (.cells #[.string n, .string v] 161) = W0 at box hb0 hbl ⊢
    clear hW0
    have k0 : ∀ p : BelowOf W0, p.world.cell? ⟨w.heap.size, 0, none⟩ = some (.string n) := fun p => cell_of p hbl box.1
    have k1 : ∀ p : BelowOf W0, p.world.cell? ⟨w.heap.size, 1, none⟩ = some (.string v) := fun p => cell_of p hbl box.2
    have hb0 := Lib.hid hb0
    clear box
    refine wp_region_quiet_below (by kernel_rfl) (by kernel_rfl) ?_
    repeat (go_big_quiet_step ((go_at_call 146; exact below_of (HNm.out _))))
    refine wpQuiet_nil ?_
    intro W1 hw'
    have hb1 := of_class hw'
    clear hw'
    go_wp2_with fail
    go_ret2
    exact ⟨ret_pair (by rw [HF.out.2]; rfl) (by rw [HF.out.1]; rfl), bstep hb0.out hb1⟩
  | true =>
    rw [h1] at HNm
    have hn1 := Lib.hid h1
    clear h1
    cases h2 : (V.all fun c => plainB c.toNat) with
    | false =>
      have HF := Lib.hid (fieldE_not N V (by unfold printOk plainAll; rw [h2, Bool.and_false]; rfl))
      rw [h2] at HPl
      clear h2 HTr
      go_enter Tryz.func124, Tryz.ntmps124
      go_wp2_with fail
      generalize hW0 : w.alloc (.cells #[.string n, .string v] 161) = W0 at box hb0 hbl ⊢
      clear hW0
      have k0 : ∀ p : BelowOf W0, p.world.cell? ⟨w.heap.size, 0, none⟩ = some (.string n) := fun p => cell_of p hbl box.1
      have k1 : ∀ p : BelowOf W0, p.world.cell? ⟨w.heap.size, 1, none⟩ = some (.string v) := fun p => cell_of p hbl box.2
      have hb0 := Lib.hid hb0
      clear box
      refine wp_region_quiet_below (by kernel_rfl) (by kernel_rfl) ?_
      repeat (go_big_quiet_step ((first
        | (go_at_call 146; exact below_of (HNm.out _))
        | (go_at_call 143; exact below_same (HPl.out _))
        | fail)))
      refine wpQuiet_nil ?_
      intro W1 hw'
      have hb1 := of_class hw'
      clear hw'
      go_wp2_with fail
      go_ret2
      exact ⟨ret_pair (by rw [HF.out.2]; rfl) (by rw [HF.out.1]; rfl), bstep hb0.out hb1⟩
    | true =>
      rw [h2] at HPl
      have hp1 := Lib.hid h2
      clear h2
      obtain ⟨T, hT⟩ : ∃ T, T = bs (Go.Lib.trimS V gapL) := ⟨_, rfl⟩
      rw [← hT] at HTr
      cases h3 : noGap V with
      | false =>
        have HF := Lib.hid (fieldE_not N V (by unfold printOk; rw [h3, Bool.and_false]))
        have hcmp : (v.toList == T.toList) = false := by
          rw [beq_eq_false_iff_ne, hT, ByteArray.toList_eq, ByteArray.toList_eq, bs_data, ← HNV.out.2]
          intro e
          have := (trimS_iff V).1 e.symm
          rw [h3] at this; exact absurd this (by decide)
        clear h3 hT
        go_enter Tryz.func124, Tryz.ntmps124
        go_wp2_with fail
        generalize hW0 : w.alloc (.cells #[.string n, .string v] 161) = W0 at box hb0 hbl ⊢
        clear hW0
        have k0 : ∀ p : BelowOf W0, p.world.cell? ⟨w.heap.size, 0, none⟩ = some (.string n) := fun p => cell_of p hbl box.1
        have k1 : ∀ p : BelowOf W0, p.world.cell? ⟨w.heap.size, 1, none⟩ = some (.string v) := fun p => cell_of p hbl box.2
        have hb0 := Lib.hid hb0
        clear box
        refine wp_region_quiet_below (by kernel_rfl) (by kernel_rfl) ?_
        repeat (go_big_quiet_step ((first
          | (go_at_call 146; exact below_of (HNm.out _))
          | (go_at_call 143; exact below_same (HPl.out _))
          | (go_at_call 147; exact below_of (HTr.out _)))))
        refine wpQuiet_nil ?_
        intro W1 hw'
        have hb1 := of_class hw'
        clear hw'
        go_wp2_with fail
        go_ret2
        exact ⟨ret_pair (by rw [HF.out.2]; rfl) (by rw [HF.out.1]; rfl), bstep hb0.out hb1⟩
      | true =>
        have hok : printOk N V = true := by unfold printOk; rw [hn1.out, h3]; rw [show plainAll V = true from hp1.out]; rfl
        have HF := Lib.hid (fieldE_yes N V hok)
        have hcmp : (v.toList == T.toList) = true := by
          rw [beq_iff_eq, hT, ByteArray.toList_eq, ByteArray.toList_eq, bs_data, ← HNV.out.2]
          exact ((trimS_iff V).2 h3).symm
        have hna := nameL_all N hn1.out
        have HTi := Lib.hid (fun w => fields_titled n w hn (fun j hj => by
          have := namedN_bd _ (hna.1 n[j] (by rw [HNV.out.1]; exact List.getElem_mem (by rw [size_len]; exact hj)))
          omega))
        obtain ⟨A, hA⟩ : ∃ A, A = bs (titL true n.data.toList) := ⟨_, rfl⟩
        have hAs : A.size ≤ 32 := by rw [hA, bs_size, titL_len, ← HNV.out.1]; exact hna.2.2
        have hs3 : (A ++ ⟨#[58, 32]⟩ ++ v).size ≤ 9223372036854775807 := by rw [ByteArray.size_append, ByteArray.size_append]; show A.size + 2 + v.size ≤ _; omega
        have HTR := Lib.hid (fun w => c_trimR (A ++ ⟨#[58, 32]⟩ ++ v) w hs3)
        obtain ⟨R, hR⟩ : ∃ R, R = bs (Go.Lib.trimRightS (A ++ ⟨#[58, 32]⟩ ++ v).data.toList gapL) := ⟨_, rfl⟩
        have hRv : R = bs (printL N V) := by
          rw [hR, data_cat, data_cat, hA, bs_data, ← HNV.out.1, ← HNV.out.2]
          exact congrArg bs (trimR_print (titL true N) V h3)
        have hRs : R.size = (printL N V).length := by rw [hRv, bs_size]
        rw [← hA] at HTi
        rw [← hR] at HTR
        have HRv := Lib.hid hRv
        have hc1 : A.size + 2 ≤ 9223372036854775807 := by omega
        have hc2 : A.size + 2 + v.size ≤ 9223372036854775807 := by omega
        clear h3 hT hna hok hA hR hRv
        by_cases hlong : 256 < R.size
        · have HF5 := Lib.hid (HF.out.1 (by rw [← hRs]; exact hlong))
          have tl : decide ((R.size : Int) > 256) = true := decide_eq_true (by omega)
          clear hRs
          go_enter Tryz.func124, Tryz.ntmps124
          go_wp2_with fail
          generalize hW0 : w.alloc (.cells #[.string n, .string v] 161) = W0 at box hb0 hbl ⊢
          clear hW0
          have k0 : ∀ p : BelowOf W0, p.world.cell? ⟨w.heap.size, 0, none⟩ = some (.string n) := fun p => cell_of p hbl box.1
          have k1 : ∀ p : BelowOf W0, p.world.cell? ⟨w.heap.size, 1, none⟩ = some (.string v) := fun p => cell_of p hbl box.2
          have hb0 := Lib.hid hb0
          clear box
          refine wp_region_quiet_below (by kernel_rfl) (by kernel_rfl) ?_
          repeat (go_big_quiet_step ((first
            | (go_at_call 146; exact below_of (HNm.out _))
            | (go_at_call 143; exact below_same (HPl.out _))
            | (go_at_call 147; exact below_of (HTr.out _)))))
          refine wpQuiet_nil ?_
          intro W1 hw'
          have hb1 := of_class hw'
          clear hw'
          go_wp2_with fail
          have k0 : ∀ p : BelowOf W1, p.world.cell? ⟨w.heap.size, 0, none⟩ = some (.string n) := fun p => (cell_of p (Nat.lt_of_lt_of_le hbl hb1.size) (k0 ⟨W1, hb1⟩))
          have k1 : ∀ p : BelowOf W1, p.world.cell? ⟨w.heap.size, 1, none⟩ = some (.string v) := fun p => (cell_of p (Nat.lt_of_lt_of_le hbl hb1.size) (k1 ⟨W1, hb1⟩))
          refine wp_region_quiet_below (by kernel_rfl) (by kernel_rfl) ?_
          repeat (go_big_quiet_step ((first
            | (go_at_call 159; exact below_of (HTi.out _))
            | (go_at_call 158; exact below_of (HTR.out _)))))
          refine wpQuiet_nil ?_
          intro W2 hw'
          have hb2 := of_class hw'
          clear hw'
          go_wp2_with fail
          go_ret2
          exact ⟨ret_pair (by rw [HF5.out.2]; rfl) (by rw [HF5.out.1]; rfl), bstep hb0.out (bstep hb1 hb2)⟩
        · have HF0 := Lib.hid (HF.out.2 (by rw [← hRs]; omega))
          have tl : decide ((R.size : Int) > 256) = false := decide_eq_false (by omega)
          clear hRs
          go_enter Tryz.func124, Tryz.ntmps124
          go_wp2_with fail
          generalize hW0 : w.alloc (.cells #[.string n, .string v] 161) = W0 at box hb0 hbl ⊢
          clear hW0
          have k0 : ∀ p : BelowOf W0, p.world.cell? ⟨w.heap.size, 0, none⟩ = some (.string n) := fun p => cell_of p hbl box.1
          have k1 : ∀ p : BelowOf W0, p.world.cell? ⟨w.heap.size, 1, none⟩ = some (.string v) := fun p => cell_of p hbl box.2
          have hb0 := Lib.hid hb0
          clear box
          refine wp_region_quiet_below (by kernel_rfl) (by kernel_rfl) ?_
          repeat (go_big_quiet_step ((first
            | (go_at_call 146; exact below_of (HNm.out _))
            | (go_at_call 143; exact below_same (HPl.out _))
            | (go_at_call 147; exact below_of (HTr.out _)))))
          refine wpQuiet_nil ?_
          intro W1 hw'
          have hb1 := of_class hw'
          clear hw'
          go_wp2_with fail
          have k0 : ∀ p : BelowOf W1, p.world.cell? ⟨w.heap.size, 0, none⟩ = some (.string n) := fun p => (cell_of p (Nat.lt_of_lt_of_le hbl hb1.size) (k0 ⟨W1, hb1⟩))
          have k1 : ∀ p : BelowOf W1, p.world.cell? ⟨w.heap.size, 1, none⟩ = some (.string v) := fun p => (cell_of p (Nat.lt_of_lt_of_le hbl hb1.size) (k1 ⟨W1, hb1⟩))
          refine wp_region_quiet_below (by kernel_rfl) (by kernel_rfl) ?_
          repeat (go_big_quiet_step ((first
            | (go_at_call 159; exact below_of (HTi.out _))
            | (go_at_call 158; exact below_of (HTR.out _)))))
          refine wpQuiet_nil ?_
          intro W2 hw'
          have hb2 := of_class hw'
          clear hw'
          go_wp2_with fail
          go_ret2
          exact ⟨ret_pair (by rw [HF0.out.2, HRv.out]) (by rw [HF0.out.1]; rfl), bstep hb0.out (bstep hb1 hb2)⟩
end Go.Proofs.YtbdmmgmcbecolaaGreatDoor
namespace Go.Proofs.YtbdmmgmcbecolaaGreatDoor
open Go.RowKit

theorem own_tagF {w : World} {base : Nat} {e : TypeId} {size : Nat} {v : Value} {n : Nat} {xs : List Value} (h : w.ownsRow base e size v n xs) (g : Nat) (hg : v.ownBlock = some g) : ∃ cur, w.heap[g]? = some (.cells cur e (0, 0)) := by
  rcases h.2 with ⟨rfl, _⟩ | ⟨g', cap, cur, rfl, _, hgg, _⟩
  · cases hg
  · obtain rfl : g' = g := by simpa [Value.ownBlock] using hg
    exact ⟨cur, hgg⟩
theorem own_apartF {w : World} {b1 b2 : Nat} {e1 e2 : TypeId} {s1 s2 n1 n2 : Nat} {v1 v2 : Value} {x1 x2 : List Value} (h1 : w.ownsRow b1 e1 s1 v1 n1 x1) (h2 : w.ownsRow b2 e2 s2 v2 n2 x2) (hne : e1 ≠ e2) : v1.ownBlock = none ∨ v1.ownBlock ≠ v2.ownBlock := by
  cases hv : v1.ownBlock with
  | none => exact .inl rfl
  | some g =>
    refine .inr (fun e => ?_)
    obtain ⟨c1, k1⟩ := own_tagF h1 g hv
    obtain ⟨c2, k2⟩ := own_tagF h2 g e.symm
    rw [k1] at k2
    simp only [Option.some.injEq, Obj.cells.injEq] at k2
    exact hne k2.2.1
/-- a row of fields stays behind an append to a row of texts -/
theorem own_stays {w w' : World} {b1 b2 : Nat} {e1 e2 : TypeId} {s1 s2 n1 n2 : Nat} {v1 v2 : Value} {x1 x2 : List Value} (h1 : w.ownsRow b1 e1 s1 v1 n1 x1) (h2 : w.ownsRow b2 e2 s2 v2 n2 x2) (hne : e1 ≠ e2) (g : w.grownBy w' v2.ownBlock) : w'.ownsRow b1 e1 s1 v1 n1 x1 := by
  refine ⟨h1.1, ?_⟩
  rcases h1.2 with h0 | ⟨b, cap, cur, e, e2', e3, e4⟩
  · exact .inl h0
  · refine .inr ⟨b, cap, cur, e, e2', (g.block b (Array.getElem?_eq_some_iff.1 e3).1 (fun hh => ?_)).trans e3, e4⟩
    rcases own_apartF h1 h2 hne with hx | hx
    · rw [e] at hx; cases hx
    · rw [e] at hx; exact hx hh
theorem own_mono {w : World} {b1 b2 : Nat} {e : TypeId} {s n : Nat} {v : Value} {x : List Value} (h : w.ownsRow b1 e s v n x) (hb : b2 ≤ b1) : w.ownsRow b2 e s v n x := by
  refine ⟨h.1, ?_⟩
  rcases h.2 with h0 | ⟨b, cap, cur, e1, e2, e3⟩
  · exact .inl h0
  · exact .inr ⟨b, cap, cur, e1, Nat.le_trans hb e2, e3⟩
theorem clone_own (v : Value) (fs : List (List UInt8 × List UInt8)) (B : Nat) (w : World) (h : w.ownsRow B 161 2 v fs.length (fcells fs)) (hl : fs.length ≤ 1000000) :
    Calls Tryz.prog 123 #[v] w fun e w' => ∃ v', e = .returned v' ∧ w'.ownsRow w.heap.size 161 2 v' fs.length (fcells fs) ∧ Below w.heap.size w w' := by
  by_cases hn : fs = []
  · subst hn
    rcases h.2 with ⟨rfl, -⟩ | ⟨g, cap, cur, rfl, -⟩
    · exact clone_empty none 0 w (fun p hp => by cases hp)
    · exact clone_empty _ cap w (fun p hp => ⟨g, 0, (Option.some.inj hp).symm⟩)
  · exact clone_fields v fs w (HoldsF.of_own h) hn hl
theorem own_fslice {w : World} {base : Nat} {e : TypeId} {size n : Nat} {v : Value} {xs : List Value} (h : w.ownsRow base e size v n xs) : ∃ a c, v = .slice a n c := by
  rcases h.2 with ⟨rfl, rfl⟩ | ⟨g, cap, cur, rfl, _⟩
  · exact ⟨_, _, rfl⟩
  · exact ⟨_, _, rfl⟩
theorem EnvF.env {w : World} (h : EnvF w) : Env w := ⟨h.m, h.pow, h.big⟩
theorem own_fcell {w : World} {base n g cap : Nat} {e : TypeId} {fs : List (List UInt8 × List UInt8)} (h : w.ownsRow base e 2 (.slice (some ⟨g, 0, none⟩) n cap) n (fcells fs)) (j : Nat) (hj : j < fs.length) :
    w.cell? ⟨g, j * 2, none⟩ = some (.string (bs fs[j].1)) ∧ w.cell? ⟨g, j * 2 + 1, none⟩ = some (.string (bs fs[j].2)) := by
  have h1 := h.cells (g := g) rfl (j * 2) _ (fcells_get fs j hj).1
  have h2 := h.cells (g := g) rfl (j * 2 + 1) _ (fcells_get fs j hj).2
  have e0 : ∀ k, (⟨g, 0, none⟩ : Addr).add k = ⟨g, k, none⟩ := fun k => by unfold Addr.add; split <;> simp_all
  rw [e0] at h1 h2
  exact ⟨h1, h2⟩
theorem own_scell {w : World} {base n g cap : Nat} {e : TypeId} {xs : List (List UInt8)} (h : w.ownsRow base e 1 (.slice (some ⟨g, 0, none⟩) n cap) n (strs xs)) (j : Nat) (hj : j < xs.length) :
    w.cell? ⟨g, j, none⟩ = some (.string (bs xs[j])) := by
  have h1 := h.cells (g := g) rfl j _ (strs_get xs j hj)
  have e0 : ∀ k, (⟨g, 0, none⟩ : Addr).add k = ⟨g, k, none⟩ := fun k => by unfold Addr.add; split <;> simp_all
  rw [e0] at h1
  exact h1
theorem own_block_lt {w : World} {base n : Nat} {e : TypeId} {size : Nat} {v : Value} {xs : List Value} (h : w.ownsRow base e size v n xs) : ∀ k, v.ownBlock = some k → k < w.heap.size := by
  intro k hk
  obtain ⟨cur, hc⟩ := own_tagF h k hk
  exact (Array.getElem?_eq_some_iff.1 hc).1
theorem own_form {w : World} {base n : Nat} {e : TypeId} {size : Nat} {v : Value} {xs : List Value} (h : w.ownsRow base e size v n xs) (hn : 0 < n) : ∃ g cap, v = .slice (some ⟨g, 0, none⟩) n cap ∧ base ≤ g := by
  rcases h.2 with ⟨-, h0⟩ | ⟨g, cap, cur, hv, hb, -⟩
  · omega
  · exact ⟨g, cap, hv, hb⟩
def InsPost (base N : Nat) (gs : List (List UInt8 × List UInt8)) (w : World) (e : Ending) (w' : World) : Prop :=
  ∃ g cap, e = .returned (.slice (some ⟨g, 0, none⟩) N cap) ∧ w'.ownsRow base 161 2 (.slice (some ⟨g, 0, none⟩) N cap) N (fcells gs) ∧ Below base w w'
theorem ins_any (vc : Value) (fs : List (List UInt8 × List UInt8)) (f : List UInt8 × List UInt8) (vb base B0 N : Nat) (W : World) (hN : fs.length + 1 = N) (hown : W.ownsRow B0 161 2 vc fs.length (fcells fs)) (hB : base ≤ B0) (hv : W.heap[vb]? = some (.cells #[.string (bs f.1), .string (bs f.2)] 161 (0, 0))) (hne : vc.ownBlock ≠ some vb) (hl : fs.length ≤ 1000000) (hbase : base ≤ W.heap.size) :
    Calls Tryz.prog 122 #[vc, .int .i64 0, .slice (some ⟨vb, 0, none⟩) 1 1] W (InsPost base N (f :: fs) W) := by
  subst hN
  have hown' := own_mono hown hB
  refine (insert_own vc fs f vb base W hown' hv hne hl hbase).mono ?_
  rintro e w' ⟨v', rfl, h1, h2⟩
  obtain ⟨g, cap, rfl, -⟩ := own_form h1 (by omega)
  exact ⟨g, cap, rfl, h1, (Below.refl _ _).grown h2 hbase (fun k hk => (hown'.lt k hk).1)⟩
theorem ins_one (vc : Value) (fs : List (List UInt8 × List UInt8)) (f : List UInt8 × List UInt8) (base B0 N : Nat) (wc wd : World) (hN : fs.length + 1 = N) (hown : wc.ownsRow B0 161 2 vc fs.length (fcells fs)) (hB : base ≤ B0) (hl : fs.length ≤ 1000000) (hbase : base ≤ wc.heap.size) (hbd : Below wc.heap.size wc wd) :
    Calls Tryz.prog 122 #[vc, .int .i64 0, .slice (some ⟨wd.heap.size, 0, none⟩) 1 1] (wd.alloc (.cells #[.string (bs f.1), .string (bs f.2)] 161)) (InsPost base N (f :: fs) (wd.alloc (.cells #[.string (bs f.1), .string (bs f.2)] 161))) := by
  have h1 := own_keep hown hbd
  have h2 := own_keep h1 ((Below.refl wd.heap.size wd).alloc (Nat.le_refl _) (.cells #[.string (bs f.1), .string (bs f.2)] 161))
  have hsz := hbd.size
  refine ins_any vc fs f wd.heap.size base B0 N _ hN h2 hB (heap_alloc_new wd _) (fun e => ?_) hl (by simp; omega)
  have := own_block_lt h1 _ e
  omega
theorem ins_two (vc : Value) (fs : List (List UInt8 × List UInt8)) (f : List UInt8 × List UInt8) (base N : Nat) (wd wc : World) (hN : fs.length + 1 = N) (hown : wc.ownsRow (wd.alloc (.cells #[.string (bs f.1), .string (bs f.2)] 161)).heap.size 161 2 vc fs.length (fcells fs)) (hl : fs.length ≤ 1000000) (hbase : base ≤ wd.heap.size) (hbc : Below (wd.alloc (.cells #[.string (bs f.1), .string (bs f.2)] 161)).heap.size (wd.alloc (.cells #[.string (bs f.1), .string (bs f.2)] 161)) wc) :
    Calls Tryz.prog 122 #[vc, .int .i64 0, .slice (some ⟨wd.heap.size, 0, none⟩) 1 1] wc (InsPost base N (f :: fs) wc) := by
  have hsz := hbc.size
  simp at hsz
  refine ins_any vc fs f wd.heap.size base _ N _ hN hown (by simp; omega) ((hbc.block wd.heap.size (by simp)).trans (heap_alloc_new wd _)) (fun e => ?_) hl (by omega)
  have := (hown.lt _ e).1
  simp at this
  omega
/-- append of one text, the new value written out -/
theorem append_strL {ops : Array Oper} {rest : List Oper} {o : Oper} {a : Act} {Q : Exit → Act → World → Prop} (w0 : World) (hgd : o.guard = none) (s x : Operand)
    (ho : o.op = .call { callee := .builtin .append, args := #[s, x], argTypes := #[131, 131] })
    (base n : Nat) (v : Value) (xs : List (List UInt8)) (hs : a.eval s = v) (hown : w0.ownsRow base 9 1 v n (strs xs))
    (b : ByteArray) (l : List UInt8) (hbl : b = bs l) (hx : a.eval x = .slice (some ⟨w0.heap.size, 0, none⟩) 1 1) (hn : n < 2147483648) (hbase : base ≤ w0.heap.size)
    (h : ∀ g cap w', w'.ownsRow base 9 1 (.slice (some ⟨g, 0, none⟩) (n + 1) cap) (n + 1) (strs (xs ++ [l])) → w0.grownBy w' v.ownBlock → wpList Tryz.prog ops Q rest (a.put o.dst (.slice (some ⟨g, 0, none⟩) (n + 1) cap)) w') :
    wpList Tryz.prog ops Q (o :: rest) a (w0.alloc (.cells #[.string b] 9)) := by
  obtain ⟨i0, hi, hz0, hz1, hz2⟩ := info_parts info_str
  subst hbl
  refine wpList_append_lies _ hgd s x 131 ho base 9 i0 _ 1 16 Tryz.underlying131 hi hz0 hz1 hz2 rfl (by decide) v n (strs xs) hs (hown.alloc _) ⟨w0.heap.size, 0, none⟩ 1 1 [.string (bs l)] hx rfl (cell_one_new w0 _ _) (by simp [Value.oneCell']) (by decide) (by unfold maxLen; omega) (by omega) (by simp; omega) _ rfl ?_
  intro g cap w' h2 h3 h4 h5
  refine h g cap w' ?_ ?_
  · rw [strs_append, strs_one]; exact h2
  · exact ⟨h3.os, h3.tape, h3.output, Nat.le_trans (by simp) h3.size, fun k hk hne => (h3.block k (by simp; omega) hne).trans (heap_alloc_old w0 _ hk)⟩
theorem ownE_bad (fs : List (List UInt8 × List UInt8)) (j : Nat) (hj : j < fs.length) (hok : ∀ i (hi : i < fs.length), i < j → fs[i].1 ≠ clen ∧ fieldE fs[i].1 fs[i].2 = 0) :
    (fs[j].1 = clen → ownE fs = 22) ∧ (fs[j].1 ≠ clen → fieldE fs[j].1 fs[j].2 ≠ 0 → ownE fs = fieldE fs[j].1 fs[j].2) := by
  rw [ownE_at fs j hok, List.drop_eq_getElem_cons hj]
  refine ⟨fun h => if_pos h, fun h1 h2 => ?_⟩
  unfold ownE
  rw [if_neg h1, if_pos h2]
theorem ownE_good (fs : List (List UInt8 × List UInt8)) (hok : ∀ i (hi : i < fs.length), fs[i].1 ≠ clen ∧ fieldE fs[i].1 fs[i].2 = 0) : ownE fs = 0 := by
  rw [ownE_at fs fs.length (fun j hj _ => hok j hj), List.drop_length]; rfl
def RPost (c : Int) (fs : List (List UInt8 × List UInt8)) (b : List UInt8) (w : World) (e : Ending) (w' : World) : Prop :=
  e = .returned (.tuple #[.string (bs (repS c fs b)), .int .i64 (repE c fs : Nat)]) ∧ Below w.heap.size w w'
set_option maxRecDepth 100000 in
set_option maxHeartbeats 4000000 in
theorem reply_print (c : Int) (fv : Value) (fs : List (List UInt8 × List UInt8)) (b : ByteArray) (B : Nat) (w : World) (hE : EnvF w) (hc0 : -9223372036854775808 ≤ c) (hc1 : c ≤ 9223372036854775807)
    (hown : w.ownsRow B 161 2 fv fs.length (fcells fs)) (hl : fs.length ≤ 1000000) (hf : ∀ f ∈ fs, f.1.length ≤ 1000000 ∧ f.2.length ≤ 1000000) (hb : b.size ≤ 1000000) :
    Calls Tryz.prog 92 #[.agg #[.int .i64 c, fv, .string b]] w (RPost c fs b.data.toList w) := by
  have HS := Lib.hid (fun w hE => status_print c w hE hc0 hc1)
  obtain ⟨av, cv, rfl⟩ := own_fslice hown
  have B1 := below_agg3 w (.int .i64 c) (.slice av fs.length cv) (.string b) 113
  have T1 := Three.new w (.int .i64 c) (.slice av fs.length cv) (.string b) 113
  have HE1 := Lib.hid (hE.below B1)
  have HO1 := Lib.hid (own_keep hown B1)
  have HB1 := Lib.hid B1
  clear hE hown B1
  obtain ⟨l1, t0, t1, t2⟩ := T1
  by_cases he : printErr c = 0
  case neg =>
    have HR : Hid (repE c fs = printErr c ∧ repS c fs b.data.toList = []) := Lib.hid (by
      have : repE c fs = printErr c := if_pos he
      exact ⟨this, by unfold repS; rw [if_neg (by rw [this]; exact he)]⟩)
    have tz : ((printErr c : Int) != 0) = true := by rw [bne_iff_ne]; omega
    clear he hf
    go_enter Tryz.func92, Tryz.ntmps92
    go_wp2_with fail
    refine (HS.out _ HE1.out.env).mono ?_
    rintro e w1 ⟨rfl, hb1⟩
    have HB2 := Lib.hid (bstep HB1.out hb1)
    clear hb1 t0 t1 t2
    go_wp2_with fail
    go_ret2
    exact ⟨by rw [HR.out.1, HR.out.2]; rfl, HB2.out⟩
  have HZ := Lib.hid he
  rw [he] at HS
  have hlI : (fs.length : Int) ≤ 1000000 := by omega
  by_cases hm : 15 < fs.length
  · have HR : Hid (repE c fs = 21 ∧ repS c fs b.data.toList = []) := Lib.hid (by
      have : repE c fs = 21 := by unfold repE; rw [if_neg (by rw [he]; simp), if_pos hm]
      exact ⟨this, by unfold repS; rw [if_neg (by rw [this]; simp)]⟩)
    have tm : decide ((fs.length : Int) > 15) = true := decide_eq_true (by omega)
    clear he hf
    go_enter Tryz.func92, Tryz.ntmps92
    go_wp2_with fail
    refine (HS.out _ HE1.out.env).mono ?_
    rintro e w1 ⟨rfl, hb1⟩
    have HB2 := Lib.hid (bstep HB1.out hb1)
    obtain ⟨l2, u0, u1, u2⟩ := Three.below ⟨l1, t0, t1, t2⟩ hb1
    clear hb1 t0 t1 t2
    go_wp2_with fail
    go_ret2
    exact ⟨by rw [HR.out.1, HR.out.2]; rfl, HB2.out⟩
  have tm : decide ((fs.length : Int) > 15) = false := decide_eq_false (by omega)
  have HR : Hid (repE c fs = ownE fs) := Lib.hid (by unfold repE; rw [if_neg (by rw [he]; simp), if_neg hm])
  have HD := Lib.hid (fun w hE => fields_digits (b.size : Int) (by omega) (by omega) w hE)
  obtain ⟨D, hD⟩ : ∃ D, digL (b.size : Int) = D := ⟨_, rfl⟩
  rw [hD] at HD
  have HDD := Lib.hid hD
  obtain ⟨P0, hP0⟩ : ∃ P, printOf c = P := ⟨_, rfl⟩
  rw [hP0] at HS
  have HP0 := Lib.hid hP0
  have HM : Hid (fs.length ≤ 15) := Lib.hid (by omega)
  clear he hm hD hP0
  go_enter Tryz.func92, Tryz.ntmps92
  go_wp2_with fail
  refine (HS.out _ HE1.out.env).mono ?_
  rintro e w1 ⟨rfl, hb1⟩
  have HB2 := Lib.hid (bstep HB1.out hb1)
  obtain ⟨l2, u0, u1, u2⟩ := Three.below ⟨l1, t0, t1, t2⟩ hb1
  have HE2 := Lib.hid (HE1.out.below hb1)
  have HO2 := Lib.hid (own_keep HO1.out hb1)
  have hsz1 := hb1.size
  clear hb1 t0 t1 t2 l1 HB1 HE1 HO1
  go_wp2_with fail
  have HB3 := Lib.hid (HB2.out.alloc (by have := HB2.out.size; omega) (.cells #[.string P0] 9))
  obtain ⟨l3, v0, v1, v2⟩ := Three.alloc ⟨l2, u0, u1, u2⟩ (.cells #[.string P0] 9)
  have HE3 := Lib.hid (HE2.out.below ((Below.refl _ _).alloc (Nat.le_refl _) (.cells #[.string P0] 9)))
  have HO3 := Lib.hid (own_keep HO2.out ((Below.refl _ _).alloc (Nat.le_refl _) (.cells #[.string P0] 9)))
  have HBK := Lib.hid (heap_alloc_new w1 (.cells #[.string P0] 9))
  have hA : w1.heap.size < (w1.alloc (.cells #[.string P0] 9)).heap.size := by simp
  generalize (w1.alloc (.cells #[.string P0] 9)) = W2 at HB3 HE3 HO3 HBK hA l3 v0 v1 v2 ⊢
  have HC := Lib.hid (fun W (h : Below W2.heap.size W2 W) => clone_own (.slice av fs.length cv) fs B W (own_keep HO3.out h) hl)
  have HDg := Lib.hid (fun W (h : Below W2.heap.size W2 W) => HD.out W (HE3.out.below h))
  have HS3 : Hid (∀ W, Below W2.heap.size W2 W → W.cell? ⟨w.heap.size, 1, none⟩ = some (.slice av fs.length cv) ∧ W.cell? ⟨w.heap.size, 2, none⟩ = some (.string b)) := Lib.hid (fun W hW => ⟨(hW.cell (p := ⟨w.heap.size, 1, none⟩) l3).trans v1, (hW.cell (p := ⟨w.heap.size, 2, none⟩) l3).trans v2⟩)
  obtain ⟨N, hN⟩ : ∃ N, fs.length + 1 = N := ⟨_, rfl⟩
  have HI1 : Hid (∀ (vc : Value) (B0 : Nat) (wc wd : World), wc.ownsRow B0 161 2 vc fs.length (fcells fs) → W2.heap.size ≤ B0 → W2.heap.size ≤ wc.heap.size → Below wc.heap.size wc wd →
      Calls Tryz.prog 122 #[vc, .int .i64 0, .slice (some ⟨wd.heap.size, 0, none⟩) 1 1] (wd.alloc (.cells #[.string ⟨#[99, 111, 110, 116, 101, 110, 116, 45, 108, 101, 110, 103, 116, 104]⟩, .string (bs D)] 161)) (InsPost W2.heap.size N ((clen, D) :: fs) (wd.alloc (.cells #[.string ⟨#[99, 111, 110, 116, 101, 110, 116, 45, 108, 101, 110, 103, 116, 104]⟩, .string (bs D)] 161)))) := Lib.hid (fun vc B0 wc wd h1 h2 h3 h4 => ins_one vc fs (clen, D) W2.heap.size B0 N wc wd hN h1 h2 hl h3 h4)
  have HI2 : Hid (∀ (vc : Value) (wd wc : World), wc.ownsRow (wd.alloc (.cells #[.string ⟨#[99, 111, 110, 116, 101, 110, 116, 45, 108, 101, 110, 103, 116, 104]⟩, .string (bs D)] 161)).heap.size 161 2 vc fs.length (fcells fs) → Below (wd.alloc (.cells #[.string ⟨#[99, 111, 110, 116, 101, 110, 116, 45, 108, 101, 110, 103, 116, 104]⟩, .string (bs D)] 161)).heap.size (wd.alloc (.cells #[.string ⟨#[99, 111, 110, 116, 101, 110, 116, 45, 108, 101, 110, 103, 116, 104]⟩, .string (bs D)] 161)) wc → W2.heap.size ≤ wd.heap.size →
      Calls Tryz.prog 122 #[vc, .int .i64 0, .slice (some ⟨wd.heap.size, 0, none⟩) 1 1] wc (InsPost W2.heap.size N ((clen, D) :: fs) wc)) := Lib.hid (fun vc wd wc h1 h2 h3 => ins_two vc fs (clen, D) W2.heap.size N wd wc hN h1 hl h3 h2)
  clear u0 u1 u2 l2 HB2 HE2 HO2
  go_region_held3 (fun w' => w'.cell? ⟨w.heap.size, 1, none⟩ = some (.slice av fs.length cv) ∧ w'.cell? ⟨w.heap.size, 2, none⟩ = some (.string b)) (first | exact HS3.out _ (Below.refl _ _).drew | exact HS3.out _ HA1.out | exact HS3.out _ HA2.out | exact HS3.out _ (HA1.out.alloc HA1.out.size _) | exact HS3.out _ (HA2.out.alloc HA2.out.size _) | exact HS3.out _ HA3.out)
    (first
      | (go_at_call 123; refine (HC.out _ (by first | exact (Below.refl _ _).drew | exact HA1.out | exact HA1.out.alloc HA1.out.size _)).mono ?_; rintro e wc ⟨vc, rfl, hoc, hbc⟩; (first | (have HA2 : Hid (Below W2.heap.size W2 wc) := Lib.hid (bstep HA1.out hbc)) | (have HA2 : Hid (Below W2.heap.size W2 wc) := Lib.hid (bstep (HA1.out.alloc HA1.out.size _) hbc)) | (have HA1 : Hid (Below W2.heap.size W2 wc) := Lib.hid (bstep (Below.refl _ _).drew hbc))); have HOC := Lib.hid hoc; have HBC := Lib.hid hbc; clear hoc hbc)
      | (go_at_call 118; refine (HDg.out _ (by first | exact (Below.refl _ _).drew | exact HA1.out)).mono ?_; rintro e wd ⟨rfl, hbd⟩; (first | (have HA2 : Hid (Below W2.heap.size W2 wd) := Lib.hid (bstep HA1.out hbd)) | (have HA1 : Hid (Below W2.heap.size W2 wd) := Lib.hid (bstep (Below.refl _ _).drew hbd))); have HBD := Lib.hid hbd; clear hbd)
      | (go_at_call 122; (first | refine (HI1.out _ _ _ _ HOC.out (Nat.le_refl _) HA1.out.size HBD.out).mono ?_ | refine (HI1.out _ _ _ _ HOC.out HA1.out.size HA2.out.size (Below.refl _ _)).mono ?_ | refine (HI2.out _ _ _ HOC.out HBC.out HA1.out.size).mono ?_); rintro e wi ⟨gi, ci, rfl, hoi, hbi⟩; (first | (have HA3 : Hid (Below W2.heap.size W2 wi) := Lib.hid ((HA2.out.alloc HA2.out.size _).trans hbi)) | (have HA3 : Hid (Below W2.heap.size W2 wi) := Lib.hid (HA2.out.trans hbi))); have HOI := Lib.hid hoi; clear hoi hbi))
  have hnl : ∀ f ∈ (clen, D) :: fs, f.1.length ≤ 1000000 ∧ f.2.length ≤ 1000000 := by
    intro f hfm
    rcases List.mem_cons.1 hfm with rfl | hfm
    · refine ⟨by show clen.length ≤ _; decide, ?_⟩
      have := digL_len (b.size : Int) (by omega)
      rw [HDD.out] at this
      show D.length ≤ _
      omega
    · exact hf f hfm
  have HNL := Lib.hid hnl
  have HCL : Hid (fieldE clen D = 0) := Lib.hid (by rw [← HDD.out]; exact clen_ok b.size (by omega))
  have HGS : Hid (∀ j (hj : j < ((clen, D) :: fs).length), 0 < j → ∃ h : j - 1 < fs.length, ((clen, D) :: fs)[j] = fs[j - 1]) := Lib.hid (fun j hj h0 => by
    obtain ⟨i, rfl⟩ : ∃ i, j = i + 1 := ⟨j - 1, by omega⟩
    exact ⟨by simpa using hj, rfl⟩)
  have HLN : Hid ((repLines c fs b.size) = P0.data.toList :: ((clen, D) :: fs).map (fun f => printL f.1 f.2)) := Lib.hid (by unfold repLines; rw [HP0.out, HDD.out]; rfl)
  have HG0 : Hid ((clen, D) :: fs ≠ [] ∧ ∀ h : 0 < ((clen, D) :: fs).length, ((clen, D) :: fs)[0] = (clen, D)) := Lib.hid ⟨by simp, fun _ => rfl⟩
  have hgl : ((clen, D) :: fs).length = N := hN
  generalize (clen, D) :: fs = gs at HOI HNL HGS HLN HG0 hgl
  have HOA : Hid (wi.ownsRow w1.heap.size 9 1 (.slice (some ⟨w1.heap.size, 0, none⟩) 1 1) 1 (strs [P0.data.toList])) := Lib.hid ⟨rfl, .inr ⟨w1.heap.size, 1, _, rfl, Nat.le_refl _, (HA3.out.block w1.heap.size hA).trans HBK.out, Nat.le_refl _, by decide, rfl, by rw [strs_one, bs_self]; rfl⟩⟩
  have HBI : Hid (Below w1.heap.size W2 wi) := Lib.hid (HA3.out.mono (Nat.le_of_lt hA))
  have hNl : N ≤ 1000001 := by omega
  have HW1 : Hid (w.heap.size < w1.heap.size ∧ w1.heap.size < W2.heap.size) := Lib.hid ⟨by have := hsz1; simp at this; omega, hA⟩
  have HNN := Lib.hid hN
  clear hnl hf hN HOC HBC HBD HA1 HA2 HI1 HI2 HC HDg HS3 HBK hA HO3 hsz1 HS HD
  go_wp2_with fail
  go_simp
  go_loopg [6, 44] N (fun gk s6 s44 wr => ∃ k : Nat, s44 = .int .i64 (k : Int) ∧ k + gk = N ∧ Hid (wr.ownsRow w1.heap.size 9 1 s6 (k + 1) (strs (P0.data.toList :: (gs.take k).map (fun f => printL f.1 f.2)))) ∧ Hid (wr.ownsRow W2.heap.size 161 2 (.slice (some ⟨gi, 0, none⟩) N ci) N (fcells gs)) ∧ Hid (Below w1.heap.size W2 wr) ∧ Hid (∀ j (hj : j < gs.length), j < k → (0 < j → gs[j].1 ≠ clen) ∧ fieldE gs[j].1 gs[j].2 = 0))
  case atStart => exact ⟨0, by simp, by omega, HOA, HOI, HBI, Lib.hid (fun j hj h => absurd h (Nat.not_lt_zero _))⟩
  case round =>
    obtain ⟨k, rfl, hgk, HOAr, HOFr, HBr, HK⟩ := hrel
    by_cases hk : k < N
    · obtain ⟨g', rfl⟩ : ∃ g', gk = g' + 1 := ⟨gk - 1, by omega⟩
      have hkl : k < gs.length := by omega
      obtain ⟨y, hy⟩ : ∃ y, gs[k] = y := ⟨_, rfl⟩
      obtain ⟨c0, c1⟩ := own_fcell HOFr.out k hkl
      rw [hy] at c0 c1
      have hyl := HNL.out _ (List.getElem_mem hkl)
      rw [hy] at hyl
      have HP := Lib.hid (fun w => fields_print (bs y.1) (bs y.2) w (by rw [bs_size]; exact hyl.1) (by rw [bs_size]; exact hyl.2))
      rw [bs_data, bs_data] at HP
      have HN := Lib.hid (fun w => reply_named y.1 y.2 w)
      have HY := Lib.hid hy
      have hkI : decide ((k : Int) < (N : Int)) = true := decide_eq_true (by omega)
      clear hy hyl
      have HST : Hid (P0.data.toList :: (gs.take (k + 1)).map (fun f => printL f.1 f.2) = (P0.data.toList :: (gs.take k).map (fun f => printL f.1 f.2)) ++ [printL y.1 y.2]) := Lib.hid (by
        rw [List.take_succ_eq_append_getElem hkl, List.map_append, HY.out]; rfl)
      by_cases hk0 : k = 0
      · have hy0 : y = (clen, D) := by rw [← HY.out]; subst hk0; exact HG0.out.2 hkl
        have hz : fieldE y.1 y.2 = 0 := by rw [hy0]; exact HCL.out
        have HK2 : Hid (∀ j (hj : j < gs.length), j < k + 1 → (0 < j → gs[j].1 ≠ clen) ∧ fieldE gs[j].1 gs[j].2 = 0) := Lib.hid (fun j hj h => by
          obtain rfl : j = k := by omega
          rw [HY.out]
          exact ⟨fun h => by omega, hz⟩)
        have hfs : fieldS y.1 y.2 = printL y.1 y.2 := if_pos hz
        rw [hz, hfs] at HP
        have tk0 : decide ((k : Int) > 0) = false := decide_eq_false (by omega)
        have tk1 : decide (0 < k) = false := decide_eq_false (by omega)
        have tk2 : ¬ (0 < k) := by omega
        clear hy0 hz hfs hk0 HK HY
        go_wp2_with fail
        refine (HP.out _).mono ?_
        rintro e w3 ⟨rfl, hb3⟩
        have hb03 := bstep ((Below.refl wr.heap.size wr).alloc (Nat.le_refl _) (.cells #[.string (bs y.1), .string (bs y.2)] 161)) hb3
        clear hb3 c0 c1
        have HOA3 := Lib.hid (own_keep HOAr.out hb03)
        have HOF3 := Lib.hid (own_keep HOFr.out hb03)
        have HB3r := Lib.hid (HBr.out.trans (hb03.mono (by have := HBr.out.size; have := HW1.out; omega)))
        have HS3 : Hid (k + 1 < 2147483648 ∧ w1.heap.size ≤ w3.heap.size) := Lib.hid ⟨by omega, by have := hb03.size; have := HBr.out.size; have := HW1.out; omega⟩
        clear hb03
        go_wp2_with (at_builtin; go_loud (refine append_strL w3 (by rfl) _ _ (by rfl) w1.heap.size (k + 1) _ _ (by rfl) HOA3.out _ (printL y.1 y.2) rfl (by rfl) HS3.out.1 HS3.out.2 ?_); intro g3 cap3 w4 hown4 hg4)
        go_roundg g'
        case measure => omega
        case rel =>
          refine ⟨k + 1, by simp, by omega, Lib.hid ?_, Lib.hid (own_stays HOF3.out HOA3.out (by decide) hg4), Lib.hid (below_own HB3r.out hg4 HOA3.out (Nat.le_refl _) HS3.out.2), HK2⟩
          rw [HST.out]; exact hown4
      · have tk0 : decide ((k : Int) > 0) = true := decide_eq_true (by omega)
        have tk1 : decide (0 < k) = true := decide_eq_true (by omega)
        have tk2 : 0 < k := by omega
        obtain ⟨hj1, hj2⟩ := HGS.out k hkl (by omega)
        have hyf : fs[k - 1] = y := by rw [← hj2, HY.out]
        have hokf : ∀ i (hi : i < fs.length), i < k - 1 → fs[i].1 ≠ clen ∧ fieldE fs[i].1 fs[i].2 = 0 := by
          intro i hi hik
          obtain ⟨q1, q2⟩ := HK.out (i + 1) (by omega) (by omega)
          obtain ⟨r1, r2⟩ := HGS.out (i + 1) (by omega) (by omega)
          rw [r2] at q1 q2
          exact ⟨q1 (by omega), q2⟩
        obtain ⟨o1, o2⟩ := ownE_bad fs (k - 1) hj1 hokf
        rw [hyf] at o1 o2
        have HOE := Lib.hid (And.intro o1 o2)
        clear hj2 hyf hokf o1 o2 hk0
        by_cases hnm : y.1 = clen
        · have HF : Hid (repE c fs = 22 ∧ repS c fs b.data.toList = []) := Lib.hid (by
            have : repE c fs = 22 := by rw [HR.out]; exact HOE.out.1 hnm
            exact ⟨this, by unfold repS; rw [if_neg (by rw [this]; simp)]⟩)
          rw [decide_eq_true hnm] at HN
          clear hnm HK HY
          go_wp2_with fail
          refine (HN.out _).mono ?_
          rintro e w3 ⟨rfl, hb3⟩
          have hb03 := bstep ((Below.refl wr.heap.size wr).alloc (Nat.le_refl _) (.cells #[.string (bs y.1), .string (bs y.2)] 161)) hb3
          have HBF := Lib.hid (HB3.out.trans ((HBr.out.trans (hb03.mono (by have := HBr.out.size; have := HW1.out; omega))).mono (Nat.le_of_lt HW1.out.1)))
          clear hb3 c0 c1 hb03
          go_wp2_with fail
          go_ret2
          exact ⟨by rw [HF.out.1, HF.out.2]; rfl, HBF.out⟩
        · rw [decide_eq_false hnm] at HN
          have HNM := Lib.hid hnm
          by_cases hz : fieldE y.1 y.2 = 0
          · have HK2 : Hid (∀ j (hj : j < gs.length), j < k + 1 → (0 < j → gs[j].1 ≠ clen) ∧ fieldE gs[j].1 gs[j].2 = 0) := Lib.hid (fun j hj h => by
              by_cases e : j = k
              · subst e; rw [HY.out]; exact ⟨fun _ => HNM.out, hz⟩
              · exact HK.out j hj (by omega))
            have hfs : fieldS y.1 y.2 = printL y.1 y.2 := if_pos hz
            rw [hz, hfs] at HP
            clear hz hfs hnm HK HY
            go_wp2_with fail
            refine (HN.out _).mono ?_
            rintro e w2 ⟨rfl, hb2⟩
            have hb02 := bstep ((Below.refl wr.heap.size wr).alloc (Nat.le_refl _) (.cells #[.string (bs y.1), .string (bs y.2)] 161)) hb2
            have hk0 : w2.heap[wr.heap.size]? = some (.cells #[.string (bs y.1), .string (bs y.2)] 161 (0, 0)) := (hb2.block wr.heap.size (by simp)).trans (heap_alloc_new wr _)
            have k0 : w2.cell? ⟨wr.heap.size, 0, none⟩ = some (.string (bs y.1)) := by unfold World.cell?; rw [hk0]; rfl
            have k1 : w2.cell? ⟨wr.heap.size, 1, none⟩ = some (.string (bs y.2)) := by unfold World.cell?; rw [hk0]; rfl
            have HB02 := Lib.hid hb02
            clear hb2 c0 c1 hk0 hb02
            go_wp2_with fail
            refine (HP.out _).mono ?_
            rintro e w3 ⟨rfl, hb3⟩
            have hb03 := bstep HB02.out hb3
            clear hb3 k0 k1
            have HOA3 := Lib.hid (own_keep HOAr.out hb03)
            have HOF3 := Lib.hid (own_keep HOFr.out hb03)
            have HB3r := Lib.hid (HBr.out.trans (hb03.mono (by have := HBr.out.size; have := HW1.out; omega)))
            have HS3 : Hid (k + 1 < 2147483648 ∧ w1.heap.size ≤ w3.heap.size) := Lib.hid ⟨by omega, by have := hb03.size; have := HBr.out.size; have := HW1.out; omega⟩
            clear hb03
            go_wp2_with (at_builtin; go_loud (refine append_strL w3 (by rfl) _ _ (by rfl) w1.heap.size (k + 1) _ _ (by rfl) HOA3.out _ (printL y.1 y.2) rfl (by rfl) HS3.out.1 HS3.out.2 ?_); intro g3 cap3 w4 hown4 hg4)
            go_roundg g'
            case measure => omega
            case rel =>
              refine ⟨k + 1, by simp, by omega, Lib.hid ?_, Lib.hid (own_stays HOF3.out HOA3.out (by decide) hg4), Lib.hid (below_own HB3r.out hg4 HOA3.out (Nat.le_refl _) HS3.out.2), HK2⟩
              rw [HST.out]; exact hown4
          · have HF : Hid (repE c fs = fieldE y.1 y.2 ∧ repS c fs b.data.toList = []) := Lib.hid (by
              have : repE c fs = fieldE y.1 y.2 := by rw [HR.out]; exact HOE.out.2 HNM.out hz
              exact ⟨this, by unfold repS; rw [if_neg (by rw [this]; exact hz)]⟩)
            have tz : ((fieldE y.1 y.2 : Int) != 0) = true := by rw [bne_iff_ne]; omega
            clear hz hnm HK HY
            go_wp2_with fail
            refine (HN.out _).mono ?_
            rintro e w2 ⟨rfl, hb2⟩
            have hb02 := bstep ((Below.refl wr.heap.size wr).alloc (Nat.le_refl _) (.cells #[.string (bs y.1), .string (bs y.2)] 161)) hb2
            have hk0 : w2.heap[wr.heap.size]? = some (.cells #[.string (bs y.1), .string (bs y.2)] 161 (0, 0)) := (hb2.block wr.heap.size (by simp)).trans (heap_alloc_new wr _)
            have k0 : w2.cell? ⟨wr.heap.size, 0, none⟩ = some (.string (bs y.1)) := by unfold World.cell?; rw [hk0]; rfl
            have k1 : w2.cell? ⟨wr.heap.size, 1, none⟩ = some (.string (bs y.2)) := by unfold World.cell?; rw [hk0]; rfl
            have HB02 := Lib.hid hb02
            clear hb2 c0 c1 hk0 hb02
            go_wp2_with fail
            refine (HP.out _).mono ?_
            rintro e w3 ⟨rfl, hb3⟩
            have hb03 := bstep HB02.out hb3
            have HBF := Lib.hid (HB3.out.trans ((HBr.out.trans (hb03.mono (by have := HBr.out.size; have := HW1.out; omega))).mono (Nat.le_of_lt HW1.out.1)))
            clear hb3 k0 k1 hb03
            go_wp2_with fail
            go_ret2
            exact ⟨by rw [HF.out.1, HF.out.2]; rfl, HBF.out⟩
    · obtain rfl : k = N := by omega
      have hN := HNN.out
      have hkI : decide ((k : Int) < (k : Int)) = false := decide_eq_false (by omega)
      have hN17 : k ≤ 16 := by have := HM.out; omega
      have hOE : ownE fs = 0 := ownE_good fs (fun i hi => by
        obtain ⟨q1, q2⟩ := HK.out (i + 1) (by omega) (by omega)
        obtain ⟨r1, r2⟩ := HGS.out (i + 1) (by omega) (by omega)
        rw [r2] at q1 q2
        exact ⟨q1 (by omega), q2⟩)
      have hrz : repE c fs = 0 := by rw [HR.out]; exact hOE
      have HF : Hid (repE c fs = 0 ∧ repS c fs b.data.toList = body (repLines c fs b.size) ++ 13 :: 10 :: b.data.toList) := Lib.hid ⟨hrz, by unfold repS; rw [if_pos hrz]; unfold repL; rw [size_len]⟩
      have hall : P0.data.toList :: (gs.take k).map (fun f => printL f.1 f.2) = repLines c fs b.size := by rw [HLN.out, List.take_of_length_le (by omega)]
      have hgood := good_lines c fs b.size hrz (by omega)
      obtain ⟨L, hL⟩ : ∃ L, repLines c fs b.size = L := ⟨_, rfl⟩
      rw [hall, hL] at HOAr
      rw [hL] at HF hgood
      have hLl : L.length = k + 1 := by rw [← hL, HLN.out, List.length_cons, List.length_map]; omega
      have HPut : Hid (∀ j (hj : j < (L ++ [[]]).length), (L ++ [[]])[j].length ≤ 256 ∧ putErr (L ++ [[]])[j] = 0) := Lib.hid (fun j hj => by
        by_cases hjl : j < L.length
        · rw [List.getElem_append_left hjl]
          obtain ⟨-, g1, g2⟩ := hgood.1 _ (List.getElem_mem hjl)
          exact ⟨g2, put_of _ g1 g2⟩
        · rw [List.getElem_append_right (by omega)]
          have : j - L.length = 0 := by simp at hj; omega
          simp only [this, List.getElem_cons_zero]
          exact ⟨by decide, by decide⟩)
      have HLL := Lib.hid hLl
      have HS3 : Hid (k + 1 < 2147483648 ∧ w1.heap.size ≤ wr.heap.size) := Lib.hid ⟨by omega, by have := HBr.out.size; have := HW1.out; omega⟩
      clear hOE hrz hall hgood hL hLl HK hN
      go_wp2_with (at_builtin; go_loud (refine append_strL wr (by rfl) _ _ (by rfl) w1.heap.size (k + 1) _ _ (by rfl) HOAr.out _ [] rfl (by rfl) HS3.out.1 HS3.out.2 ?_); intro g3 cap3 w4 hown4 hg4)
      have HB4 := Lib.hid (below_own HBr.out hg4 HOAr.out (Nat.le_refl _) HS3.out.2)
      have HO4 := Lib.hid hown4
      have hbody : w4.cell? ⟨w.heap.size, 2, none⟩ = some (.string b) := (HB4.out.cell (p := ⟨w.heap.size, 2, none⟩) HW1.out.1).trans v2
      have HBD := Lib.hid hbody
      clear hown4 hg4 hbody HOAr HOFr
      go_loopg [11, 72] (k + 2) (fun gk s11 s72 wy => ∃ (j : Nat) (O : ByteArray), s11 = .string O ∧ s72 = .int .i64 (j : Int) ∧ wy = w4 ∧ j + gk = k + 2 ∧ O.size ≤ j * 260 ∧ Hid (O = bs (body ((L ++ [[]]).take j))))
      case atStart => exact ⟨0, ⟨#[]⟩, rfl, by simp, rfl, by omega, by decide, Lib.hid rfl⟩
      case round =>
        obtain ⟨j, O, rfl, rfl, rfl, hgj, hOs, HO⟩ := hrel
        by_cases hj : j < k + 2
        · obtain ⟨g', rfl⟩ : ∃ g', gk = g' + 1 := ⟨gk - 1, by omega⟩
          have hjl : j < (L ++ [[]]).length := by have := HLL.out; simp; omega
          have tk : decide ((j : Int) < (k : Int) + 1 + 1) = true := decide_eq_true (by omega)
          have hc := own_scell HO4.out j hjl
          obtain ⟨p1, p2⟩ := HPut.out j hjl
          obtain ⟨x, hx⟩ : ∃ x, (L ++ [[]])[j] = x := ⟨_, rfl⟩
          rw [hx] at hc p1 p2
          obtain ⟨X, hX⟩ : ∃ X, bs x = X := ⟨_, rfl⟩
          have hXs : X.size ≤ 256 := by rw [← hX, bs_size]; exact p1
          have HPP := Lib.hid (fun w => put_good X w hXs (by rw [← hX, bs_data]; exact p2))
          rw [hX] at hc
          have HOO : Hid (O ++ (X ++ ⟨#[13, 10]⟩) = bs (body ((L ++ [[]]).take (j + 1)))) := Lib.hid (by
            rw [HO.out, ← hX, show (⟨#[13, 10]⟩ : ByteArray) = bs [13, 10] from rfl, bs_cat, bs_cat, List.take_succ_eq_append_getElem hjl, hx, body_append]
            rfl)
          have padd := fun w => run_string_add_sum (P := Tryz.prog) w O (X ++ ⟨#[13, 10]⟩) (by rw [ByteArray.size_append]; show _ + (_ + 2) ≤ _; omega)
          clear p1 p2 hx hX
          go_wp2_with fail
          refine (HPP.out _).mono ?_
          rintro e w' ⟨rfl, rfl⟩
          go_wp2_with fail
          go_roundg g'
          case measure => omega
          case rel => exact ⟨j + 1, _, rfl, by simp, rfl, by omega, by rw [ByteArray.size_append, ByteArray.size_append]; show _ + (_ + 2) ≤ _; omega, Lib.hid HOO.out⟩
        · obtain rfl : j = k + 2 := by omega
          have hbd := HBD.out
          have tk : decide (((k : Int) + 2) < (k : Int) + 1 + 1) = false := decide_eq_false (by omega)
          have padd := fun w => run_string_add_sum (P := Tryz.prog) w O b (by omega)
          have HRR : Hid (O ++ b = bs (repS c fs b.data.toList)) := Lib.hid (by
            rw [HO.out, HF.out.2]
            conv => lhs; rhs; rw [← bs_self b]
            rw [bs_cat, List.take_of_length_le (by have := HLL.out; simp; omega), body_append]
            congr 1
            simp [body])
          go_wp2_with fail
          go_ret2
          exact ⟨by rw [HF.out.1, ← HRR.out]; rfl, HB3.out.trans (HB4.out.mono (Nat.le_of_lt HW1.out.1))⟩
end Go.Proofs.YtbdmmgmcbecolaaGreatDoor
namespace Go.Proofs.YtbdmmgmcbecolaaGreatDoor
open Go.RowKit

theorem conv_int (W : World) (z : Int) (c : UInt8) (h : z = (c.toNat : Int)) : (convert 192 9 (.slice (some ⟨W.heap.size, 0, none⟩) 1 1)).run Tryz.prog (W.alloc (.cells #[.int .u8 z] 5)) = .ok (.string ⟨#[c]⟩) (W.alloc (.cells #[.int .u8 z] 5)) := by
  subst h; exact conv_one W c
/-- does a part of a name begin at a place? -/
def begAt (N : List UInt8) (i : Nat) : Bool := match i with | 0 => true | m + 1 => match N[m]? with | none => true | some c => stB c
theorem titL_succ (N : List UInt8) (i : Nat) (h : i < N.length) : titL true (N.take (i + 1)) = titL true (N.take i) ++ [UInt8.ofNat (titN (begAt N i) N[i].toNat)] := by
  rw [List.take_succ_eq_append_getElem h, titL_append]
  congr 1
  show [UInt8.ofNat (titN _ _)] = _
  congr 3
  cases i with
  | zero => rfl
  | succ m =>
    have : (N.take (m + 1)).getLast? = some (N[m]'(by omega)) := by
      rw [List.take_succ_eq_append_getElem (by omega), List.getLast?_append]; rfl
    rw [this]
    show _ = (match N[m]? with | none => true | some c => stB c)
    rw [List.getElem?_eq_getElem (by omega)]
theorem tit_keep (c : UInt8) (b : Bool) (h : (b && letN c.toNat) = false) : UInt8.ofNat (titN b c.toNat) = c := by
  unfold titN; rw [h, if_neg (by decide)]; exact UInt8.ofNat_toNat
theorem tit_up (c : UInt8) (b : Bool) (h : (b && letN c.toNat) = true) (h2 : 97 ≤ c.toNat) : (UInt8.ofNat (titN b c.toNat)).toNat = c.toNat - 32 := by
  unfold titN; rw [if_pos h, UInt8.toNat_ofNat']; have := c.toNat_lt; omega

set_option maxRecDepth 100000 in
set_option maxHeartbeats 4000000 in
theorem ref_fprint (n v : ByteArray) (w : World) (hn : n.size ≤ 1000000) (hv : v.size ≤ 1000000) :
    Calls Tryz.prog 133 #[.agg #[.string n, .string v]] w fun e w' => e = .returned (.tuple #[.string (bs (fieldS n.data.toList v.data.toList)), .int .i64 (fieldE n.data.toList v.data.toList)]) ∧ Below w.heap.size w w' := by
  have HNm := Lib.hid (fun w => ref_name n w (by omega))
  have HPl := Lib.hid (fun w => ref_fplain v w (by omega))
  obtain ⟨N, hN⟩ : ∃ N, N = n.data.toList := ⟨_, rfl⟩
  obtain ⟨V, hV⟩ : ∃ V, V = v.data.toList := ⟨_, rfl⟩
  rw [← hN] at HNm
  rw [← hV] at HPl
  rw [← hN, ← hV]
  have HNV := Lib.hid (And.intro hN hV)
  clear hN hV
  have box := box_cells w n v 139
  have hb0 := below_box2 w (.string n) (.string v) 139
  have hbl : w.heap.size < (w.alloc (.cells #[.string n, .string v] 139)).heap.size := by simp
  obtain ⟨k0, k1⟩ := box
  cases h1 : nameL N with
  | false =>
    have HF := Lib.hid (fieldE_not N V (by unfold printOk; rw [h1]; rfl))
    rw [h1] at HNm
    clear h1 HPl
    go_enter Tryz.func133, Tryz.ntmps133
    go_wp2_with (go_at_call 116; refine (HNm.out _).mono ?_; rintro e w' ⟨rfl, rfl⟩)
    go_ret2
    exact ⟨ret_pair (by rw [HF.out.2]; rfl) (by rw [HF.out.1]; rfl), hb0⟩
  | true =>
    rw [h1] at HNm
    have hn1 := Lib.hid h1
    clear h1
    cases h2 : (V.all fun c => plainB c.toNat) with
    | false =>
      have HF := Lib.hid (fieldE_not N V (by unfold printOk plainAll; rw [h2, Bool.and_false]; rfl))
      rw [h2] at HPl
      clear h2
      go_enter Tryz.func133, Tryz.ntmps133
      go_wp2_with (first
        | (go_at_call 116; refine (HNm.out _).mono ?_; rintro e w' ⟨rfl, rfl⟩)
        | (go_at_call 114; refine (HPl.out _).mono ?_; rintro e w' ⟨rfl, rfl⟩))
      go_ret2
      exact ⟨ret_pair (by rw [HF.out.2]; rfl) (by rw [HF.out.1]; rfl), hb0⟩
    | true =>
      rw [h2] at HPl
      have hp1 := Lib.hid h2
      clear h2
      by_cases hpos : 0 < v.size
      case' pos =>
        obtain ⟨m, hm⟩ : ∃ m, v.size = m + 1 := ⟨v.size - 1, by omega⟩
        have hlm : m < v.size := by omega
        have hmi : ((v.size : Int) - 1) = (m : Int) := by omega
        have hg0 : headGap V = gapB v[0] := by rw [HNV.out.2, drop_one v hpos]; rfl
        have hgm : headGap V.reverse = gapB v[m] := by rw [HNV.out.2, drop_last v m hm, List.reverse_append]; rfl
        have HG0 := Lib.hid (fun w => ref_gap v[0] w)
        have HGm := Lib.hid (fun w => ref_gap v[m] w)
        have HM := Lib.hid hm
        clear hm
        rw [← hg0] at HG0
        rw [← hgm] at HGm
        clear hg0 hgm
        cases h3 : headGap V
        case true =>
          have HF := Lib.hid (fieldE_not N V (by unfold printOk noGap; rw [h3]; simp))
          rw [h3] at HG0
          clear h3
          go_enter Tryz.func133, Tryz.ntmps133
          go_wp2_with (first
            | (go_at_call 116; refine (HNm.out _).mono ?_; rintro e w' ⟨rfl, rfl⟩)
            | (go_at_call 114; refine (HPl.out _).mono ?_; rintro e w' ⟨rfl, rfl⟩)
            | (go_at_call 117; refine (HG0.out _).mono ?_; rintro e w' ⟨rfl, rfl⟩))
          go_ret2
          exact ⟨ret_pair (by rw [HF.out.2]; rfl) (by rw [HF.out.1]; rfl), hb0⟩
        case' false =>
          rw [h3] at HG0
          cases h4 : headGap V.reverse
          case true =>
            have HF := Lib.hid (fieldE_not N V (by unfold printOk noGap; rw [h4]; simp))
            rw [h4] at HGm
            clear h3 h4
            go_enter Tryz.func133, Tryz.ntmps133
            go_wp2_with (first
              | (go_at_call 116; refine (HNm.out _).mono ?_; rintro e w' ⟨rfl, rfl⟩)
              | (go_at_call 114; refine (HPl.out _).mono ?_; rintro e w' ⟨rfl, rfl⟩)
              | fail)
            refine (HG0.out _).mono ?_
            rintro e w' ⟨rfl, rfl⟩
            go_wp2_with fail
            refine (HGm.out _).mono ?_
            rintro e w' ⟨rfl, rfl⟩
            go_wp2_with fail
            go_ret2
            exact ⟨ret_pair (by rw [HF.out.2]; rfl) (by rw [HF.out.1]; rfl), hb0⟩
          case' false =>
            rw [h4] at HGm
            have hok : Hid (printOk N V = true) := Lib.hid (by unfold printOk noGap; rw [hn1.out, h3, h4]; rw [show plainAll V = true from hp1.out]; rfl)
            clear h3 h4
            go_enter Tryz.func133, Tryz.ntmps133
            go_wp2_with (first
              | (go_at_call 116; refine (HNm.out _).mono ?_; rintro e w' ⟨rfl, rfl⟩)
              | (go_at_call 114; refine (HPl.out _).mono ?_; rintro e w' ⟨rfl, rfl⟩)
              | fail)
            refine (HG0.out _).mono ?_
            rintro e w' ⟨rfl, rfl⟩
            go_wp2_with fail
            refine (HGm.out _).mono ?_
            rintro e w' ⟨rfl, rfl⟩
            go_wp2_with fail
            clear HG0 HGm hmi HM
      case' neg =>
        have hok : Hid (printOk N V = true) := Lib.hid (by
          have hV0 : V = [] := List.length_eq_zero_iff.1 (by rw [HNV.out.2, size_len]; omega)
          unfold printOk; rw [hn1.out, show plainAll V = true from hp1.out, hV0]; rfl)
        have t0 : decide ((v.size : Int) > 0) = false := decide_eq_false (by omega)
        go_enter Tryz.func133, Tryz.ntmps133
        go_wp2_with (first
          | (go_at_call 116; refine (HNm.out _).mono ?_; rintro e w' ⟨rfl, rfl⟩)
          | (go_at_call 114; refine (HPl.out _).mono ?_; rintro e w' ⟨rfl, rfl⟩))
        clear t0
      all_goals
        clear HPl HNm
        have H5 := fieldE_yes N V hok.out
        have HY := Lib.hid H5
        clear H5
        have hlN : N.length = n.size := by rw [HNV.out.1]; exact size_len n
        have hlV : V.length = v.size := by rw [HNV.out.2]; exact size_len v
        go_loopw [5, 6] (fun s i wr => ∃ k : Nat, k ≤ n.size ∧ i = .int .i64 k ∧ s = .string (bs (titL true (N.take k))) ∧ Below (w.alloc (.cells #[.string n, .string v] 139)).heap.size (w.alloc (.cells #[.string n, .string v] 139)) wr) (fun _ i _ => n.size - (intOf i).toNat)
        case atStart => exact ⟨0, by omega, rfl, rfl, Below.refl _ _⟩
        case round =>
          obtain ⟨k, hk, rfl, rfl, hb⟩ := hrel
          have k0' := (hb.cell (p := ⟨w.heap.size, 0, none⟩) hbl).trans k0
          by_cases hlt : k < n.size
          · have hNk : N[k]'(by omega) = n[k] := by have := HNV.out.1; subst this; rfl
            have hX := titL_succ N k (by omega)
            rw [hNk] at hX
            have hsz : (bs (titL true (N.take k))).size + 1 ≤ 9223372036854775807 := by rw [bs_size, titL_len, List.length_take]; omega
            have hst : Hid (bs (titL true (N.take k)) ++ ⟨#[UInt8.ofNat (titN (begAt N k) n[k].toNat)]⟩ = bs (titL true (N.take (k + 1)))) := Lib.hid (by rw [hX, bs_snoc])
            clear hX hNk
            have hone : ∀ X : UInt8, (ByteArray.mk #[X]).size = 1 := fun _ => rfl
            obtain ⟨S, hS⟩ : ∃ S, S = bs (titL true (N.take k)) := ⟨_, rfl⟩
            rw [← hS] at hst hsz ⊢
            clear hS
            by_cases c1 : n[k].toNat < 97
            case' pos =>
              have e := tit_keep n[k] (begAt N k) (by rw [letN_lo _ c1, Bool.and_false])
              rw [e] at hst
              have hcv := conv_one wr n[k]
              have t1 : decide ((n[k].toNat : Int) ≥ 97) = false := decide_eq_false (by omega)
              clear e
            case' neg =>
              by_cases c2 : 122 < n[k].toNat
              case' pos =>
                have e := tit_keep n[k] (begAt N k) (by rw [letN_hi _ c2, Bool.and_false])
                rw [e] at hst
                have hcv := conv_one wr n[k]
                have t1 : decide ((n[k].toNat : Int) ≤ 122) = false := decide_eq_false (by omega)
                clear e
              case' neg =>
                have hlet := letN_in n[k].toNat (by omega) (by omega)
                have t1 : decide ((n[k].toNat : Int) ≤ 122) = true := decide_eq_true (by omega)
                have t0 : 97 ≤ n[k].toNat := by omega
                rcases Nat.eq_zero_or_pos k with hz | hp
                case' inl =>
                  subst hz
                  have e := tit_up n[0] true (by rw [hlet]; rfl) t0
                  have hcv := conv_int wr ((n[0].toNat : Int) - 32) (UInt8.ofNat (titN true n[0].toNat)) (by rw [e]; omega)
                  change Hid (S ++ ⟨#[UInt8.ofNat (titN true n[0].toNat)]⟩ = _) at hst
                  clear e hlet
                case' inr =>
                  obtain ⟨m, rfl⟩ : ∃ m, k = m + 1 := ⟨k - 1, by omega⟩
                  have hm : m < n.size := by omega
                  have hbm : begAt N (m + 1) = stB n[m] := by
                    show (match N[m]? with | none => true | some c => stB c) = _
                    rw [List.getElem?_eq_getElem (by omega)]
                    have := HNV.out.1; subst this; rfl
                  rw [hbm] at hst
                  clear hbm hp
                  by_cases c45 : n[m].toNat = 45
                  case' pos =>
                    have hs : stB n[m] = true := by unfold stB; rw [c45]; rfl
                    have t2 : ((n[m].toNat : Int) == 45) = true := by rw [c45]; rfl
                    rw [hs] at hst
                    have e := tit_up n[m + 1] true (by rw [hlet]; rfl) t0
                    have hcv := conv_int wr ((n[m + 1].toNat : Int) - 32) (UInt8.ofNat (titN true n[m + 1].toNat)) (by rw [e]; omega)
                    clear e hlet hs c45
                  case' neg =>
                    have t2 : ((n[m].toNat : Int) == 45) = false := by rw [beq_eq_false_iff_ne]; omega
                    have hs : stB n[m] = false := t2
                    rw [hs] at hst
                    have e := tit_keep n[m + 1] false rfl
                    rw [e] at hst
                    have hcv := conv_one wr n[m + 1]
                    clear e hlet hs c45
            all_goals
              go_wp2_with fail
              go_roundw
              case rel =>
                first
                  | exact ⟨k + 1, by omega, by go_num, by rw [hst.out], hb.trans (((Below.refl _ _).alloc (Nat.le_refl _) _).mono hb.size)⟩
                  | exact ⟨m + 1 + 1, by omega, by go_num, by rw [hst.out], hb.trans (((Below.refl _ _).alloc (Nat.le_refl _) _).mono hb.size)⟩
                  | exact ⟨1, by omega, by go_num, by rw [hst.out], hb.trans (((Below.refl _ _).alloc (Nat.le_refl _) _).mono hb.size)⟩
              case measure => simp [intOf]; omega
          · obtain rfl : k = n.size := by omega
            have hall : N.take n.size = N := List.take_of_length_le (by omega)
            rw [hall]
            have hlA : (bs (titL true N)).size = n.size := by rw [bs_size, titL_len, hlN]
            have hpL : (printL N V).length = n.size + 1 + (tailV V).length := by unfold printL; rw [List.length_append, titL_len, List.length_cons, hlN]; omega
            obtain ⟨A, hA⟩ : ∃ A, A = bs (titL true N) := ⟨_, rfl⟩
            rw [← hA] at hlA ⊢
            have hA1 : A.size ≤ 1000000 := by omega
            have z1 : (ByteArray.mk #[58]).size = 1 := rfl
            have z2 : (ByteArray.mk #[32]).size = 1 := rfl
            have zz : ∀ X Y : ByteArray, (X ++ Y).size = X.size + Y.size := fun X Y => ByteArray.size_append
            by_cases hv2 : 0 < v.size
            · first
                | (exfalso; omega)
                | (
                  have e : A ++ ⟨#[58]⟩ ++ ⟨#[32]⟩ ++ v = bs (printL N V) := by
                    have hv3 : v = bs V := by rw [HNV.out.2, bs_self]
                    rw [hA, bs_snoc, bs_snoc, hv3, bs_cat]
                    congr 1
                    unfold printL tailV
                    rw [show V.isEmpty = false from by rw [Bool.eq_false_iff, Ne, List.isEmpty_iff]; intro e; rw [e] at hlV; exact absurd hlV (by simp; omega)]
                    simp
                  have hsz : (A ++ ⟨#[58]⟩ ++ ⟨#[32]⟩ ++ v).size = A.size + 1 + 1 + v.size := by rw [zz, zz, zz]; rfl
                  have hle : (printL N V).length = A.size + 1 + 1 + v.size := by rw [← hsz, e, bs_size]
                  have HE := Lib.hid e
                  have t1 : decide ((v.size : Int) > 0) = true := decide_eq_true (by omega)
                  clear hA hall hlA e hsz hpL
                  have q1 : A.size + 1 ≤ 9223372036854775807 := by omega
                  have q2 : A.size + 1 + 1 ≤ 9223372036854775807 := by omega
                  have q3 : A.size + 1 + 1 + v.size ≤ 9223372036854775807 := by omega
                  by_cases hlong : 256 < A.size + 1 + 1 + v.size
                  · have HF := Lib.hid (HY.out.1 (by omega))
                    clear hle
                    go_wp2_with fail
                    go_ret2
                    exact ⟨ret_pair (by rw [HF.out.2]; rfl) (by rw [HF.out.1]; rfl), hb0.trans (hb.mono (by simp))⟩
                  · have HF := Lib.hid (HY.out.2 (by omega))
                    clear hle
                    go_wp2_with fail
                    go_ret2
                    exact ⟨ret_pair (by rw [HF.out.2, ← HE.out]) (by rw [HF.out.1]; rfl), hb0.trans (hb.mono (by simp))⟩)
            · first
                | (exfalso; omega)
                | (
                  have e : A ++ ⟨#[58]⟩ = bs (printL N V) := by
                    rw [hA, bs_snoc]
                    congr 1
                    unfold printL tailV
                    rw [show V = [] from List.length_eq_zero_iff.1 (by omega)]
                    rfl
                  have hsz : (A ++ ⟨#[58]⟩).size = A.size + 1 := by rw [zz]; rfl
                  have hle : (printL N V).length = A.size + 1 := by rw [← hsz, e, bs_size]
                  have HE := Lib.hid e
                  have t1 : decide ((v.size : Int) > 0) = false := decide_eq_false (by omega)
                  clear hA hall hlA e hsz hpL
                  have q1 : A.size + 1 ≤ 9223372036854775807 := by omega
                  by_cases hlong : 256 < A.size + 1
                  · have HF := Lib.hid (HY.out.1 (by omega))
                    clear hle
                    go_wp2_with fail
                    go_ret2
                    exact ⟨ret_pair (by rw [HF.out.2]; rfl) (by rw [HF.out.1]; rfl), hb0.trans (hb.mono (by simp))⟩
                  · have HF := Lib.hid (HY.out.2 (by omega))
                    clear hle
                    go_wp2_with fail
                    go_ret2
                    exact ⟨ret_pair (by rw [HF.out.2, ← HE.out]) (by rw [HF.out.1]; rfl), hb0.trans (hb.mono (by simp))⟩)
end Go.Proofs.YtbdmmgmcbecolaaGreatDoor
namespace Go.Proofs.YtbdmmgmcbecolaaGreatDoor
open Go.RowKit
end Go.Proofs.YtbdmmgmcbecolaaGreatDoor
namespace Go.Proofs.YtbdmmgmcbecolaaGreatDoor
open Go.RowKit
theorem below_r3 (w : World) (x y z : Value) : Below w.heap.size w (w.alloc (.cells #[x, y, z] 79)) := (Below.refl _ _).alloc (Nat.le_refl _) _
theorem repLines_take (c : Int) (fs : List (List UInt8 × List UInt8)) (n k : Nat) (hk : k < fs.length) : (repLines c fs n).take (k + 1 + 2) = (repLines c fs n).take (k + 2) ++ [printL fs[k].1 fs[k].2] := by
  have h : (repLines c fs n)[k + 2]? = some (printL fs[k].1 fs[k].2) := by unfold repLines; simp [hk]
  rw [show k + 1 + 2 = (k + 2) + 1 by omega, List.take_add_one, h]
  rfl
theorem repLines_two (c : Int) (fs : List (List UInt8 × List UInt8)) (n : Nat) : bs (body ((repLines c fs n).take 2)) = printOf c ++ ⟨#[13, 10, 67, 111, 110, 116, 101, 110, 116, 45, 76, 101, 110, 103, 116, 104, 58, 32]⟩ ++ bs (digL n) ++ ⟨#[13, 10]⟩ := by
  have e1 : (⟨#[13, 10, 67, 111, 110, 116, 101, 110, 116, 45, 76, 101, 110, 103, 116, 104, 58, 32]⟩ : ByteArray) = bs [13, 10, 67, 111, 110, 116, 101, 110, 116, 45, 76, 101, 110, 103, 116, 104, 58, 32] := rfl
  have e2 : (⟨#[13, 10]⟩ : ByteArray) = bs [13, 10] := rfl
  have hp : printL clen (digL n) = [67, 111, 110, 116, 101, 110, 116, 45, 76, 101, 110, 103, 116, 104, 58, 32] ++ digL n := by
    unfold printL tailV
    rw [digL_nat, if_neg (by have := decDigits_ne n; cases h : Go.Lib.decDigits n <;> simp_all), show titL true clen = [67, 111, 110, 116, 101, 110, 116, 45, 76, 101, 110, 103, 116, 104] by decide]
    rfl
  rw [e1, e2]
  conv => rhs; lhs; lhs; lhs; rw [← bs_self (printOf c)]
  rw [bs_cat, bs_cat, bs_cat]
  congr 1
  unfold repLines
  simp [body, hp]
set_option maxRecDepth 100000 in
set_option maxHeartbeats 4000000 in
theorem ref_rprint (c : Int) (fv : Value) (fs : List (List UInt8 × List UInt8)) (b : ByteArray) (w : World) (hc0 : -9223372036854775808 ≤ c) (hc1 : c ≤ 9223372036854775807)
    (hv : HoldsF w fv fs) (hl : fs.length ≤ 1000000) (hf : ∀ f ∈ fs, f.1.length ≤ 1000000 ∧ f.2.length ≤ 1000000) (hb : b.size ≤ 1000000) :
    Calls Tryz.prog 96 #[.agg #[.int .i64 c, fv, .string b]] w (RPost c fs b.data.toList w) := by
  have HS := Lib.hid (fun w => ref_print c w hc0 hc1)
  have B1 := below_r3 w (.int .i64 c) fv (.string b)
  have T1 := Three.new w (.int .i64 c) fv (.string b) 79
  have hv1 := hv.below B1
  have HB1 := Lib.hid B1
  obtain ⟨av, cv, rfl, hcv, hx⟩ := hv1
  have HX := Lib.hid hx
  clear hv B1 hx
  obtain ⟨l1, t0, t1, t2⟩ := T1
  by_cases he : printErr c = 0
  case neg =>
    have HR : Hid (repE c fs = printErr c ∧ repS c fs b.data.toList = []) := Lib.hid (by
      have : repE c fs = printErr c := if_pos he
      exact ⟨this, by unfold repS; rw [if_neg (by rw [this]; exact he)]⟩)
    have tz : ((printErr c : Int) != 0) = true := by rw [bne_iff_ne]; omega
    clear he hf
    go_enter Tryz.func96, Tryz.ntmps96
    go_wp2_with fail
    refine (HS.out _).mono ?_
    rintro e w1 ⟨rfl, hb1⟩
    have HB2 := Lib.hid (bstep HB1.out hb1)
    clear hb1 t0 t1 t2
    go_wp2_with fail
    go_ret2
    exact ⟨by rw [HR.out.1, HR.out.2]; rfl, HB2.out⟩
  have hcl : ¬ (c < 100 ∨ 599 < c) := fun e => by unfold printErr at he; rw [if_pos ((class_iff c).2 e)] at he; exact absurd he (by decide)
  have hps : (printOf c).size ≤ 40 := by
    obtain ⟨n, rfl⟩ : ∃ n : Nat, c = n := ⟨c.toNat, by omega⟩
    rw [printOf_line _ (by omega) (by omega), statusLine_len n (by omega) (by omega)]
    have := reason_size (n : Int)
    omega
  rw [he] at HS
  have hlI : (fs.length : Int) ≤ 1000000 := by omega
  by_cases hm : 15 < fs.length
  · have HR : Hid (repE c fs = 21 ∧ repS c fs b.data.toList = []) := Lib.hid (by
      have : repE c fs = 21 := by unfold repE; rw [if_neg (by rw [he]; simp), if_pos hm]
      exact ⟨this, by unfold repS; rw [if_neg (by rw [this]; simp)]⟩)
    have tm : decide ((fs.length : Int) > 15) = true := decide_eq_true (by omega)
    clear he hf hcl hps
    go_enter Tryz.func96, Tryz.ntmps96
    go_wp2_with fail
    refine (HS.out _).mono ?_
    rintro e w1 ⟨rfl, hb1⟩
    have HB2 := Lib.hid (bstep HB1.out hb1)
    obtain ⟨l2, u0, u1, u2⟩ := Three.below ⟨l1, t0, t1, t2⟩ hb1
    clear hb1 t0 t1 t2
    go_wp2_with fail
    go_ret2
    exact ⟨by rw [HR.out.1, HR.out.2]; rfl, HB2.out⟩
  have tm : decide ((fs.length : Int) > 15) = false := decide_eq_false (by omega)
  have HR : Hid (repE c fs = ownE fs) := Lib.hid (by unfold repE; rw [if_neg (by rw [he]; simp), if_neg hm])
  have hl15 : fs.length ≤ 15 := by omega
  have HD := Lib.hid (fun w => ref_digitsZ (b.size : Int) w (by omega))
  have hdl := digL_len (b.size : Int) (by omega)
  have HT := Lib.hid (repLines_two c fs b.size)
  have HTS := Lib.hid (fun k hk => repLines_take c fs b.size k hk)
  have HLL : Hid ((repLines c fs b.size).length = fs.length + 2) := Lib.hid (by unfold repLines; simp)
  obtain ⟨L, hL⟩ : ∃ L, repLines c fs b.size = L := ⟨_, rfl⟩
  have HL := Lib.hid hL
  rw [hL] at HT HTS HLL
  obtain ⟨D, hD⟩ : ∃ D, bs (digL (b.size : Int)) = D := ⟨_, rfl⟩
  rw [hD] at HD HT
  have hDs : D.size ≤ 20 := by rw [← hD, bs_size]; exact hdl
  obtain ⟨P0, hP0⟩ : ∃ P, printOf c = P := ⟨_, rfl⟩
  rw [hP0] at HS HT hps
  have zz : ∀ X Y : ByteArray, (X ++ Y).size = X.size + Y.size := fun X Y => ByteArray.size_append
  have q1 := fun w => run_string_add_sum (P := Tryz.prog) w P0 ⟨#[13, 10, 67, 111, 110, 116, 101, 110, 116, 45, 76, 101, 110, 103, 116, 104, 58, 32]⟩ (by show _ + 18 ≤ _; omega)
  have q2 := fun w => run_string_add_sum (P := Tryz.prog) w (P0 ++ ⟨#[13, 10, 67, 111, 110, 116, 101, 110, 116, 45, 76, 101, 110, 103, 116, 104, 58, 32]⟩) D (by rw [zz]; show _ + 18 + _ ≤ _; omega)
  have q3 := fun w => run_string_add_sum (P := Tryz.prog) w (P0 ++ ⟨#[13, 10, 67, 111, 110, 116, 101, 110, 116, 45, 76, 101, 110, 103, 116, 104, 58, 32]⟩ ++ D) ⟨#[13, 10]⟩ (by rw [zz, zz]; show _ + 18 + _ + 2 ≤ _; omega)
  have hs0 : (P0 ++ ⟨#[13, 10, 67, 111, 110, 116, 101, 110, 116, 45, 76, 101, 110, 103, 116, 104, 58, 32]⟩ ++ D ++ ⟨#[13, 10]⟩ : ByteArray).size ≤ 200 := by rw [zz, zz, zz]; show _ + 18 + _ + 2 ≤ _; omega
  have HS0 := Lib.hid hs0
  clear he hm hD hP0 hL hcl hdl hs0 zz
  go_enter Tryz.func96, Tryz.ntmps96
  go_wp2_with fail
  refine (HS.out _).mono ?_
  rintro e w1 ⟨rfl, hb1⟩
  have HB2 := Lib.hid (bstep HB1.out hb1)
  obtain ⟨l2, u0, u1, u2⟩ := Three.below ⟨l1, t0, t1, t2⟩ hb1
  have HX1 : Hid (fs ≠ [] → ∃ b o, av = some ⟨b, o, none⟩ ∧ b < w1.heap.size ∧ ∀ j (hj : j < fs.length), w1.cell? ⟨b, o + j * 2, none⟩ = some (.string (bs fs[j].1)) ∧ w1.cell? ⟨b, o + j * 2 + 1, none⟩ = some (.string (bs fs[j].2))) := Lib.hid (fun h => by
    obtain ⟨bb, o, h1, h2, h3⟩ := HX.out h
    exact ⟨bb, o, h1, Nat.lt_of_lt_of_le h2 hb1.size, fun j hj => ⟨(hb1.cell (p := ⟨bb, o + j * 2, none⟩) h2).trans (h3 j hj).1, (hb1.cell (p := ⟨bb, o + j * 2 + 1, none⟩) h2).trans (h3 j hj).2⟩⟩)
  have HU := Lib.hid (And.intro l2 (And.intro u1 u2))
  clear hb1 t0 t1 t2 l1 HB1 HX
  go_wp2_with fail
  refine (HD.out _).mono ?_
  rintro e w' ⟨rfl, hww⟩
  obtain rfl := hww.symm
  go_wp2_with fail
  clear q1 q2 q3 u0 u1 u2
  have HT0 : Hid ((P0 ++ ⟨#[13, 10, 67, 111, 110, 116, 101, 110, 116, 45, 76, 101, 110, 103, 116, 104, 58, 32]⟩ ++ D ++ ⟨#[13, 10]⟩) = bs (body (L.take (0 + 2)))) := Lib.hid HT.out.symm
  generalize (P0 ++ ⟨#[13, 10, 67, 111, 110, 116, 101, 110, 116, 45, 76, 101, 110, 103, 116, 104, 58, 32]⟩ ++ D ++ ⟨#[13, 10]⟩ : ByteArray) = O0 at HS0 HT0 ⊢
  go_loopg [4, 6] fs.length (fun gk s4 s6 wr => ∃ (k : Nat) (O : ByteArray), s4 = .string O ∧ s6 = .int .i64 (k : Int) ∧ k + gk = fs.length ∧ O.size ≤ 200 + k * 260 ∧ Hid (Below w1.heap.size w1 wr) ∧ Hid (O = bs (body (L.take (k + 2)))) ∧ Hid (∀ j (hj : j < fs.length), j < k → fs[j].1 ≠ clen ∧ fieldE fs[j].1 fs[j].2 = 0))
  case atStart => exact ⟨0, _, rfl, by simp, by omega, by have := HS0.out; omega, Lib.hid (Below.refl _ _), HT0, Lib.hid (fun j hj h => absurd h (Nat.not_lt_zero _))⟩
  case round =>
    obtain ⟨k, O, rfl, rfl, hgk, hOs, HBr, HO, HK⟩ := hrel
    have r1 := (HBr.out.cell (p := ⟨w.heap.size, 1, none⟩) HU.out.1).trans HU.out.2.1
    have r2 := (HBr.out.cell (p := ⟨w.heap.size, 2, none⟩) HU.out.1).trans HU.out.2.2
    by_cases hk : k < fs.length
    · obtain ⟨g', rfl⟩ : ∃ g', gk = g' + 1 := ⟨gk - 1, by omega⟩
      have hkI : decide ((k : Int) < (fs.length : Int)) = true := decide_eq_true (by omega)
      obtain ⟨bb, o, rfl, hbl, hcell⟩ := HX1.out (fun e => by rw [e] at hk; exact absurd hk (Nat.not_lt_zero _))
      have c0 := (HBr.out.cell (p := ⟨bb, o + k * 2, none⟩) hbl).trans (hcell k hk).1
      have c1 := (HBr.out.cell (p := ⟨bb, o + k * 2 + 1, none⟩) hbl).trans (hcell k hk).2
      obtain ⟨o1, o2⟩ := ownE_bad fs k hk (fun i hi hik => HK.out i hi hik)
      obtain ⟨y, hy⟩ : ∃ y, fs[k] = y := ⟨_, rfl⟩
      have hyl := hf _ (List.getElem_mem hk)
      have HTk := Lib.hid (HTS.out k hk)
      rw [hy] at c0 c1 o1 o2 hyl HTk
      have HP := Lib.hid (fun w => ref_fprint (bs y.1) (bs y.2) w (by rw [bs_size]; exact hyl.1) (by rw [bs_size]; exact hyl.2))
      rw [bs_data, bs_data] at HP
      have HOE := Lib.hid (And.intro o1 o2)
      have HY := Lib.hid hy
      have hcmp := bs_lit y.1 [99, 111, 110, 116, 101, 110, 116, 45, 108, 101, 110, 103, 116, 104]
      clear hcell o1 o2 hy hyl
      by_cases hnm : y.1 = clen
      · have HF : Hid (repE c fs = 22 ∧ repS c fs b.data.toList = []) := Lib.hid (by
          have : repE c fs = 22 := by rw [HR.out]; exact HOE.out.1 hnm
          exact ⟨this, by unfold repS; rw [if_neg (by rw [this]; simp)]⟩)
        rw [decide_eq_true (show y.1 = [99, 111, 110, 116, 101, 110, 116, 45, 108, 101, 110, 103, 116, 104] from hnm)] at hcmp
        clear hnm HK HY
        go_wp2_with fail
        go_ret2
        exact ⟨by rw [HF.out.1, HF.out.2]; rfl, bstep HB2.out HBr.out⟩
      · have HNM := Lib.hid hnm
        rw [decide_eq_false (show ¬ y.1 = [99, 111, 110, 116, 101, 110, 116, 45, 108, 101, 110, 103, 116, 104] from hnm)] at hcmp
        by_cases hz : fieldE y.1 y.2 = 0
        · have HK2 : Hid (∀ j (hj : j < fs.length), j < k + 1 → fs[j].1 ≠ clen ∧ fieldE fs[j].1 fs[j].2 = 0) := Lib.hid (fun j hj h => by
            by_cases e : j = k
            · subst e; rw [HY.out]; exact ⟨HNM.out, hz⟩
            · exact HK.out j hj (by omega))
          have hfs : fieldS y.1 y.2 = printL y.1 y.2 := if_pos hz
          have hpl : (printL y.1 y.2).length ≤ 256 := (fieldE_zero _ _ hz).2
          rw [hz, hfs] at HP
          obtain ⟨X, hX⟩ : ∃ X, bs (printL y.1 y.2) = X := ⟨_, rfl⟩
          have hXs : X.size ≤ 256 := by rw [← hX, bs_size]; exact hpl
          rw [hX] at HP
          have HOO : Hid (O ++ X ++ ⟨#[13, 10]⟩ = bs (body (L.take (k + 1 + 2)))) := Lib.hid (by
            rw [HO.out, ← hX, show (⟨#[13, 10]⟩ : ByteArray) = bs [13, 10] from rfl, bs_cat, bs_cat, HTk.out, body_append]
            simp [body])
          have hOk : O.size ≤ 200 + 15 * 260 := by omega
          have p1 := fun w => run_string_add_sum (P := Tryz.prog) w O X (by omega)
          have p2 := fun w => run_string_add_sum (P := Tryz.prog) w (O ++ X) ⟨#[13, 10]⟩ (by rw [ByteArray.size_append]; show _ + _ + 2 ≤ _; omega)
          clear hz hfs hpl hX hnm HK HY
          go_wp2_with fail
          refine (HP.out _).mono ?_
          rintro e w3 ⟨rfl, hb3⟩
          have HB3 := Lib.hid (bstep HBr.out hb3)
          clear hb3 c0 c1 r1 r2
          go_wp2_with fail
          go_roundg g'
          case measure => omega
          case rel => exact ⟨k + 1, _, rfl, by simp, by omega, by rw [ByteArray.size_append, ByteArray.size_append]; show _ + _ + 2 ≤ _; omega, HB3, HOO, HK2⟩
        · have HF : Hid (repE c fs = fieldE y.1 y.2 ∧ repS c fs b.data.toList = []) := Lib.hid (by
            have : repE c fs = fieldE y.1 y.2 := by rw [HR.out]; exact HOE.out.2 HNM.out hz
            exact ⟨this, by unfold repS; rw [if_neg (by rw [this]; exact hz)]⟩)
          have tz : ((fieldE y.1 y.2 : Int) != 0) = true := by rw [bne_iff_ne]; omega
          clear hz hnm HK HY
          go_wp2_with fail
          refine (HP.out _).mono ?_
          rintro e w3 ⟨rfl, hb3⟩
          have HB3 := Lib.hid (bstep HB2.out (bstep HBr.out hb3))
          clear hb3 c0 c1 r1 r2
          go_wp2_with fail
          go_ret2
          exact ⟨by rw [HF.out.1, HF.out.2]; rfl, HB3.out⟩
    · obtain rfl : k = fs.length := by omega
      have hkI : decide ((fs.length : Int) < (fs.length : Int)) = false := decide_eq_false (by omega)
      have hrz : repE c fs = 0 := by rw [HR.out]; exact ownE_good fs (fun i hi => HK.out i hi hi)
      have HF : Hid (repE c fs = 0 ∧ repS c fs b.data.toList = body L ++ 13 :: 10 :: b.data.toList) := Lib.hid ⟨hrz, by unfold repS; rw [if_pos hrz]; unfold repL; rw [size_len, HL.out]⟩
      have HOO : Hid (O ++ ⟨#[13, 10]⟩ ++ b = bs (repS c fs b.data.toList)) := Lib.hid (by
        rw [HF.out.2, HO.out, List.take_of_length_le (by rw [HLL.out]; omega), show (⟨#[13, 10]⟩ : ByteArray) = bs [13, 10] from rfl]
        conv => lhs; rhs; rw [← bs_self b]
        rw [bs_cat, bs_cat]
        congr 1
        simp)
      have hOk : O.size ≤ 200 + 15 * 260 := by omega
      have p1 := fun w => run_string_add_sum (P := Tryz.prog) w O ⟨#[13, 10]⟩ (by show _ + 2 ≤ _; omega)
      have p2 := fun w => run_string_add_sum (P := Tryz.prog) w (O ++ ⟨#[13, 10]⟩) b (by rw [ByteArray.size_append]; show _ + 2 + _ ≤ _; omega)
      clear hrz HK
      go_wp2_with fail
      go_ret2
      exact ⟨by rw [HF.out.1, ← HOO.out]; rfl, bstep HB2.out HBr.out⟩
end Go.Proofs.YtbdmmgmcbecolaaGreatDoor
