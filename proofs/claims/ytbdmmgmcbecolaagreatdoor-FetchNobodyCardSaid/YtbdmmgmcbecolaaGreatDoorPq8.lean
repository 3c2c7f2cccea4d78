/- What Print of package fields returns. What Print of package reply returns. Whether two replies of the document are the same. What Over and Print of the reference of reply return. What Parse of the reference of reply returns. What the laws' Own and Back make of replies. -/
import Derived.Test.YtbdmmgmcbecolaaGreatDoorPq7
import Derived.Deep.RegionWith
import Derived.Deep.RegionHeld3
import Derived.BigQuiet
import Derived.Outline
set_option linter.unusedVariables false
set_option linter.unusedSimpArgs false
namespace Go.Proofs.YtbdmmgmcbecolaaGreatDoor
open Go.RowKit

theorem c_trimR (s : ByteArray) (w : World) (hs : s.size ≤ 9223372036854775807) :
    Calls Tryz.prog 158 #[.string s, .string ⟨#[32, 9]⟩] w fun e w' => e = .returned (.string (bs (Go.Lib.trimRightS s.data.toList gapL))) ∧ Below w.heap.size w w' :=
  Any.strings_TrimRight_laid Tryz.lays162 (by kernel_rfl) s ⟨#[32, 9]⟩ w (by omega) (by decide) (Go.Proofs.ascii_of_all (by decide))

/-- a text of bs, whatever is told of the list -/
theorem ret_pair {x x' : ByteArray} {E E' : Int} (h : x = x') (h2 : E = E') : Ending.returned (.tuple #[.string x, .int .i64 E]) = .returned (.tuple #[.string x', .int .i64 E']) := by rw [h, h2]
theorem fieldE_not (n v : List UInt8) (h : printOk n v = false) : fieldE n v = 4 ∧ fieldS n v = [] := by
  have h1 : fieldE n v = 4 := by unfold fieldE; rw [h]; rfl
  exact ⟨h1, by unfold fieldS; rw [h1]; rfl⟩

theorem box_cells (w : World) (n v : ByteArray) (t : TypeId) : (w.alloc (.cells #[.string n, .string v] t)).cell? ⟨w.heap.size, 0, none⟩ = some (.string n) ∧ (w.alloc (.cells #[.string n, .string v] t)).cell? ⟨w.heap.size, 1, none⟩ = some (.string v) := by
  have hh := heap_alloc_new w (.cells #[.string n, .string v] t)
  exact ⟨by unfold World.cell?; rw [hh]; rfl, by unfold World.cell?; rw [hh]; rfl⟩
theorem below_box2 (w : World) (x y : Value) (t : TypeId) : Below w.heap.size w (w.alloc (.cells #[x, y] t)) := (Below.refl _ _).alloc (Nat.le_refl _) _
theorem fieldE_yes (n v : List UInt8) (h : printOk n v = true) : (256 < (printL n v).length → fieldE n v = 5 ∧ fieldS n v = []) ∧ ((printL n v).length ≤ 256 → fieldE n v = 0 ∧ fieldS n v = printL n v) := by
  constructor
  · intro hl
    have h1 : fieldE n v = 5 := by unfold fieldE; rw [h, if_pos rfl, if_pos hl]
    exact ⟨h1, by unfold fieldS; rw [h1]; rfl⟩
  · intro hl
    have h1 : fieldE n v = 0 := by unfold fieldE; rw [h, if_pos rfl, if_neg (by omega)]
    exact ⟨h1, by unfold fieldS; rw [h1]; rfl⟩

set_option maxRecDepth 100000 in
set_option maxHeartbeats 4000000 in
theorem fields_print (n v : ByteArray) (w : World) (hn : n.size ≤ 1000000) (hv : v.size ≤ 1000000) :
    Calls Tryz.prog 124 #[.agg #[.string n, .string v]] w fun e w' => e = .returned (.tuple #[.string (bs (fieldS n.data.toList v.data.toList)), .int .i64 (fieldE n.data.toList v.data.toList)]) ∧ Below w.heap.size w w' := by
  have HNm := Lib.hid (fun w => fields_name n w)
  have HPl := Lib.hid (fun w => fields_plain v w (by omega))
  have HTr := Lib.hid (fun w => c_trim v w hv)
  obtain ⟨N, hN⟩ : ∃ N, N = n.data.toList := ⟨_, rfl⟩
  obtain ⟨V, hV⟩ : ∃ V, V = v.data.toList := ⟨_, rfl⟩
  rw [← hN] at HNm
  rw [← hV] at HPl HTr
  rw [← hN, ← hV]
  have HNV := Lib.hid (And.intro hN hV)
  clear hN hV
  have box := box_cells w n v 161
  have hb0 := below_box2 w (.string n) (.string v) 161
  have hbl : w.heap.size < (w.alloc (.cells #[.string n, .string v] 161)).heap.size := by simp
  cases h1 : nameL N with
  | false =>
    have HF := Lib.hid (fieldE_not N V (by unfold printOk; rw [h1]; rfl))
    rw [h1] at HNm
    clear h1 HPl HTr
    go_enter Tryz.func124, Tryz.ntmps124
    go_wp2_with fail
    generalize hW0 : w.alloc (.cells #[.string n, .string v] 161) = W0 at box hb0 hbl ⊢
    clear hW0
    have k0 : ∀ p : BelowOf W0, p.world.cell? ⟨w.heap.size, 0, none⟩ = some (.string n) := fun p => cell_of p hbl box.1
    have k1 : ∀ p : BelowOf W0, p.world.cell? ⟨w.heap.size, 1, none⟩ = some (.string v) := fun p => cell_of p hbl box.2
    have hb0 := Lib.hid hb0
    clear box
    refine wp_region_quiet_below (by kernel_rfl) (by kernel_rfl) ?_
    repeat (go_big_quiet_step ((go_at_call 146; exact below_of (HNm.out _))))
    refine wpQuiet_nil ?_
    intro W1 hw'
    have hb1 := of_class hw'
    clear hw'
    go_wp2_with fail
    go_ret2
    exact ⟨ret_pair (by rw [HF.out.2]; rfl) (by rw [HF.out.1]; rfl), bstep hb0.out hb1⟩
  | true =>
    rw [h1] at HNm
    have hn1 := Lib.hid h1
    clear h1
    cases h2 : (V.all fun c => plainB c.toNat) with
    | false =>
      have HF := Lib.hid (fieldE_not N V (by unfold printOk plainAll; rw [h2, Bool.and_false]; rfl))
      rw [h2] at HPl
      clear h2 HTr
      go_enter Tryz.func124, Tryz.ntmps124
      go_wp2_with fail
      generalize hW0 : w.alloc (.cells #[.string n, .string v] 161) = W0 at box hb0 hbl ⊢
      clear hW0
      have k0 : ∀ p : BelowOf W0, p.world.cell? ⟨w.heap.size, 0, none⟩ = some (.string n) := fun p => cell_of p hbl box.1
      have k1 : ∀ p : BelowOf W0, p.world.cell? ⟨w.heap.size, 1, none⟩ = some (.string v) := fun p => cell_of p hbl box.2
      have hb0 := Lib.hid hb0
      clear box
      refine wp_region_quiet_below (by kernel_rfl) (by kernel_rfl) ?_
      repeat (go_big_quiet_step ((first
        | (go_at_call 146; exact below_of (HNm.out _))
        | (go_at_call 143; exact below_same (HPl.out _))
        | fail)))
      refine wpQuiet_nil ?_
      intro W1 hw'
      have hb1 := of_class hw'
      clear hw'
      go_wp2_with fail
      go_ret2
      exact ⟨ret_pair (by rw [HF.out.2]; rfl) (by rw [HF.out.1]; rfl), bstep hb0.out hb1⟩
    | true =>
      rw [h2] at HPl
      have hp1 := Lib.hid h2
      clear h2
      obtain ⟨T, hT⟩ : ∃ T, T = bs (Go.Lib.trimS V gapL) := ⟨_, rfl⟩
      rw [← hT] at HTr
      cases h3 : noGap V with
      | false =>
        have HF := Lib.hid (fieldE_not N V (by unfold printOk; rw [h3, Bool.and_false]))
        have hcmp : (v.toList == T.toList) = false := by
          rw [beq_eq_false_iff_ne, hT, ByteArray.toList_eq, ByteArray.toList_eq, bs_data, ← HNV.out.2]
          intro e
          have := (trimS_iff V).1 e.symm
          rw [h3] at this; exact absurd this (by decide)
        clear h3 hT
        go_enter Tryz.func124, Tryz.ntmps124
        go_wp2_with fail
        generalize hW0 : w.alloc (.cells #[.string n, .string v] 161) = W0 at box hb0 hbl ⊢
        clear hW0
        have k0 : ∀ p : BelowOf W0, p.world.cell? ⟨w.heap.size, 0, none⟩ = some (.string n) := fun p => cell_of p hbl box.1
        have k1 : ∀ p : BelowOf W0, p.world.cell? ⟨w.heap.size, 1, none⟩ = some (.string v) := fun p => cell_of p hbl box.2
        have hb0 := Lib.hid hb0
        clear box
        refine wp_region_quiet_below (by kernel_rfl) (by kernel_rfl) ?_
        repeat (go_big_quiet_step ((first
          | (go_at_call 146; exact below_of (HNm.out _))
          | (go_at_call 143; exact below_same (HPl.out _))
          | (go_at_call 147; exact below_of (HTr.out _)))))
        refine wpQuiet_nil ?_
        intro W1 hw'
        have hb1 := of_class hw'
        clear hw'
        go_wp2_with fail
        go_ret2
        exact ⟨ret_pair (by rw [HF.out.2]; rfl) (by rw [HF.out.1]; rfl), bstep hb0.out hb1⟩
      | true =>
        have hok : printOk N V = true := by unfold printOk; rw [hn1.out, h3]; rw [show plainAll V = true from hp1.out]; rfl
        have HF := Lib.hid (fieldE_yes N V hok)
        have hcmp : (v.toList == T.toList) = true := by
          rw [beq_iff_eq, hT, ByteArray.toList_eq, ByteArray.toList_eq, bs_data, ← HNV.out.2]
          exact ((trimS_iff V).2 h3).symm
        have hna := nameL_all N hn1.out
        have HTi := Lib.hid (fun w => fields_titled n w hn (fun j hj => by
          have := namedN_bd _ (hna.1 n[j] (by rw [HNV.out.1]; exact List.getElem_mem (by rw [size_len]; exact hj)))
          omega))
        obtain ⟨A, hA⟩ : ∃ A, A = bs (titL true n.data.toList) := ⟨_, rfl⟩
        have hAs : A.size ≤ 32 := by rw [hA, bs_size, titL_len, ← HNV.out.1]; exact hna.2.2
        have hs3 : (A ++ ⟨#[58, 32]⟩ ++ v).size ≤ 9223372036854775807 := by rw [ByteArray.size_append, ByteArray.size_append]; show A.size + 2 + v.size ≤ _; omega
        have HTR := Lib.hid (fun w => c_trimR (A ++ ⟨#[58, 32]⟩ ++ v) w hs3)
        obtain ⟨R, hR⟩ : ∃ R, R = bs (Go.Lib.trimRightS (A ++ ⟨#[58, 32]⟩ ++ v).data.toList gapL) := ⟨_, rfl⟩
        have hRv : R = bs (printL N V) := by
          rw [hR, data_cat, data_cat, hA, bs_data, ← HNV.out.1, ← HNV.out.2]
          exact congrArg bs (trimR_print (titL true N) V h3)
        have hRs : R.size = (printL N V).length := by rw [hRv, bs_size]
        rw [← hA] at HTi
        rw [← hR] at HTR
        have HRv := Lib.hid hRv
        have hc1 : A.size + 2 ≤ 9223372036854775807 := by omega
        have hc2 : A.size + 2 + v.size ≤ 9223372036854775807 := by omega
        clear h3 hT hna hok hA hR hRv
        by_cases hlong : 256 < R.size
        · have HF5 := Lib.hid (HF.out.1 (by rw [← hRs]; exact hlong))
          have tl : decide ((R.size : Int) > 256) = true := decide_eq_true (by omega)
          clear hRs
          go_enter Tryz.func124, Tryz.ntmps124
          go_wp2_with fail
          generalize hW0 : w.alloc (.cells #[.string n, .string v] 161) = W0 at box hb0 hbl ⊢
          clear hW0
          have k0 : ∀ p : BelowOf W0, p.world.cell? ⟨w.heap.size, 0, none⟩ = some (.string n) := fun p => cell_of p hbl box.1
          have k1 : ∀ p : BelowOf W0, p.world.cell? ⟨w.heap.size, 1, none⟩ = some (.string v) := fun p => cell_of p hbl box.2
          have hb0 := Lib.hid hb0
          clear box
          refine wp_region_quiet_below (by kernel_rfl) (by kernel_rfl) ?_
          repeat (go_big_quiet_step ((first
            | (go_at_call 146; exact below_of (HNm.out _))
            | (go_at_call 143; exact below_same (HPl.out _))
            | (go_at_call 147; exact below_of (HTr.out _)))))
          refine wpQuiet_nil ?_
          intro W1 hw'
          have hb1 := of_class hw'
          clear hw'
          go_wp2_with fail
          have k0 : ∀ p : BelowOf W1, p.world.cell? ⟨w.heap.size, 0, none⟩ = some (.string n) := fun p => (cell_of p (Nat.lt_of_lt_of_le hbl hb1.size) (k0 ⟨W1, hb1⟩))
          have k1 : ∀ p : BelowOf W1, p.world.cell? ⟨w.heap.size, 1, none⟩ = some (.string v) := fun p => (cell_of p (Nat.lt_of_lt_of_le hbl hb1.size) (k1 ⟨W1, hb1⟩))
          refine wp_region_quiet_below (by kernel_rfl) (by kernel_rfl) ?_
          repeat (go_big_quiet_step ((first
            | (go_at_call 159; exact below_of (HTi.out _))
            | (go_at_call 158; exact below_of (HTR.out _)))))
          refine wpQuiet_nil ?_
          intro W2 hw'
          have hb2 := of_class hw'
          clear hw'
          go_wp2_with fail
          go_ret2
          exact ⟨ret_pair (by rw [HF5.out.2]; rfl) (by rw [HF5.out.1]; rfl), bstep hb0.out (bstep hb1 hb2)⟩
        · have HF0 := Lib.hid (HF.out.2 (by rw [← hRs]; omega))
          have tl : decide ((R.size : Int) > 256) = false := decide_eq_false (by omega)
          clear hRs
          go_enter Tryz.func124, Tryz.ntmps124
          go_wp2_with fail
          generalize hW0 : w.alloc (.cells #[.string n, .string v] 161) = W0 at box hb0 hbl ⊢
          clear hW0
          have k0 : ∀ p : BelowOf W0, p.world.cell? ⟨w.heap.size, 0, none⟩ = some (.string n) := fun p => cell_of p hbl box.1
          have k1 : ∀ p : BelowOf W0, p.world.cell? ⟨w.heap.size, 1, none⟩ = some (.string v) := fun p => cell_of p hbl box.2
          have hb0 := Lib.hid hb0
          clear box
          refine wp_region_quiet_below (by kernel_rfl) (by kernel_rfl) ?_
          repeat (go_big_quiet_step ((first
            | (go_at_call 146; exact below_of (HNm.out _))
            | (go_at_call 143; exact below_same (HPl.out _))
            | (go_at_call 147; exact below_of (HTr.out _)))))
          refine wpQuiet_nil ?_
          intro W1 hw'
          have hb1 := of_class hw'
          clear hw'
          go_wp2_with fail
          have k0 : ∀ p : BelowOf W1, p.world.cell? ⟨w.heap.size, 0, none⟩ = some (.string n) := fun p => (cell_of p (Nat.lt_of_lt_of_le hbl hb1.size) (k0 ⟨W1, hb1⟩))
          have k1 : ∀ p : BelowOf W1, p.world.cell? ⟨w.heap.size, 1, none⟩ = some (.string v) := fun p => (cell_of p (Nat.lt_of_lt_of_le hbl hb1.size) (k1 ⟨W1, hb1⟩))
          refine wp_region_quiet_below (by kernel_rfl) (by kernel_rfl) ?_
          repeat (go_big_quiet_step ((first
            | (go_at_call 159; exact below_of (HTi.out _))
            | (go_at_call 158; exact below_of (HTR.out _)))))
          refine wpQuiet_nil ?_
          intro W2 hw'
          have hb2 := of_class hw'
          clear hw'
          go_wp2_with fail
          go_ret2
          exact ⟨ret_pair (by rw [HF0.out.2, HRv.out]) (by rw [HF0.out.1]; rfl), bstep hb0.out (bstep hb1 hb2)⟩
end Go.Proofs.YtbdmmgmcbecolaaGreatDoor
namespace Go.Proofs.YtbdmmgmcbecolaaGreatDoor
open Go.RowKit

theorem own_tagF {w : World} {base : Nat} {e : TypeId} {size : Nat} {v : Value} {n : Nat} {xs : List Value} (h : w.ownsRow base e size v n xs) (g : Nat) (hg : v.ownBlock = some g) : ∃ cur, w.heap[g]? = some (.cells cur e (0, 0)) := by
  rcases h.2 with ⟨rfl, _⟩ | ⟨g', cap, cur, rfl, _, hgg, _⟩
  · cases hg
  · obtain rfl : g' = g := by simpa [Value.ownBlock] using hg
    exact ⟨cur, hgg⟩
theorem own_apartF {w : World} {b1 b2 : Nat} {e1 e2 : TypeId} {s1 s2 n1 n2 : Nat} {v1 v2 : Value} {x1 x2 : List Value} (h1 : w.ownsRow b1 e1 s1 v1 n1 x1) (h2 : w.ownsRow b2 e2 s2 v2 n2 x2) (hne : e1 ≠ e2) : v1.ownBlock = none ∨ v1.ownBlock ≠ v2.ownBlock := by
  cases hv : v1.ownBlock with
  | none => exact .inl rfl
  | some g =>
    refine .inr (fun e => ?_)
    obtain ⟨c1, k1⟩ := own_tagF h1 g hv
    obtain ⟨c2, k2⟩ := own_tagF h2 g e.symm
    rw [k1] at k2
    simp only [Option.some.injEq, Obj.cells.injEq] at k2
    exact hne k2.2.1
/-- a row of fields stays behind an append to a row of texts -/
theorem own_stays {w w' : World} {b1 b2 : Nat} {e1 e2 : TypeId} {s1 s2 n1 n2 : Nat} {v1 v2 : Value} {x1 x2 : List Value} (h1 : w.ownsRow b1 e1 s1 v1 n1 x1) (h2 : w.ownsRow b2 e2 s2 v2 n2 x2) (hne : e1 ≠ e2) (g : w.grownBy w' v2.ownBlock) : w'.ownsRow b1 e1 s1 v1 n1 x1 := by
  refine ⟨h1.1, ?_⟩
  rcases h1.2 with h0 | ⟨b, cap, cur, e, e2', e3, e4⟩
  · exact .inl h0
  · refine .inr ⟨b, cap, cur, e, e2', (g.block b (Array.getElem?_eq_some_iff.1 e3).1 (fun hh => ?_)).trans e3, e4⟩
    rcases own_apartF h1 h2 hne with hx | hx
    · rw [e] at hx; cases hx
    · rw [e] at hx; exact hx hh
theorem own_mono {w : World} {b1 b2 : Nat} {e : TypeId} {s n : Nat} {v : Value} {x : List Value} (h : w.ownsRow b1 e s v n x) (hb : b2 ≤ b1) : w.ownsRow b2 e s v n x := by
  refine ⟨h.1, ?_⟩
  rcases h.2 with h0 | ⟨b, cap, cur, e1, e2, e3⟩
  · exact .inl h0
  · exact .inr ⟨b, cap, cur, e1, Nat.le_trans hb e2, e3⟩
theorem clone_own (v : Value) (fs : List (List UInt8 × List UInt8)) (B : Nat) (w : World) (h : w.ownsRow B 161 2 v fs.length (fcells fs)) (hl : fs.length ≤ 1000000) :
    Calls Tryz.prog 123 #[v] w fun e w' => ∃ v', e = .returned v' ∧ w'.ownsRow w.heap.size 161 2 v' fs.length (fcells fs) ∧ Below w.heap.size w w' := by
  by_cases hn : fs = []
  · subst hn
    rcases h.2 with ⟨rfl, -⟩ | ⟨g, cap, cur, rfl, -⟩
    · exact clone_empty none 0 w (fun p hp => by cases hp)
    · exact clone_empty _ cap w (fun p hp => ⟨g, 0, (Option.some.inj hp).symm⟩)
  · exact clone_fields v fs w (HoldsF.of_own h) hn hl
theorem own_fslice {w : World} {base : Nat} {e : TypeId} {size n : Nat} {v : Value} {xs : List Value} (h : w.ownsRow base e size v n xs) : ∃ a c, v = .slice a n c := by
  rcases h.2 with ⟨rfl, rfl⟩ | ⟨g, cap, cur, rfl, _⟩
  · exact ⟨_, _, rfl⟩
  · exact ⟨_, _, rfl⟩
theorem EnvF.env {w : World} (h : EnvF w) : Env w := ⟨h.m, h.pow, h.big⟩
theorem own_fcell {w : World} {base n g cap : Nat} {e : TypeId} {fs : List (List UInt8 × List UInt8)} (h : w.ownsRow base e 2 (.slice (some ⟨g, 0, none⟩) n cap) n (fcells fs)) (j : Nat) (hj : j < fs.length) :
    w.cell? ⟨g, j * 2, none⟩ = some (.string (bs fs[j].1)) ∧ w.cell? ⟨g, j * 2 + 1, none⟩ = some (.string (bs fs[j].2)) := by
  have h1 := h.cells (g := g) rfl (j * 2) _ (fcells_get fs j hj).1
  have h2 := h.cells (g := g) rfl (j * 2 + 1) _ (fcells_get fs j hj).2
  have e0 : ∀ k, (⟨g, 0, none⟩ : Addr).add k = ⟨g, k, none⟩ := fun k => by unfold Addr.add; split <;> simp_all
  rw [e0] at h1 h2
  exact ⟨h1, h2⟩
theorem own_scell {w : World} {base n g cap : Nat} {e : TypeId} {xs : List (List UInt8)} (h : w.ownsRow base e 1 (.slice (some ⟨g, 0, none⟩) n cap) n (strs xs)) (j : Nat) (hj : j < xs.length) :
    w.cell? ⟨g, j, none⟩ = some (.string (bs xs[j])) := by
  have h1 := h.cells (g := g) rfl j _ (strs_get xs j hj)
  have e0 : ∀ k, (⟨g, 0, none⟩ : Addr).add k = ⟨g, k, none⟩ := fun k => by unfold Addr.add; split <;> simp_all
  rw [e0] at h1
  exact h1
theorem own_block_lt {w : World} {base n : Nat} {e : TypeId} {size : Nat} {v : Value} {xs : List Value} (h : w.ownsRow base e size v n xs) : ∀ k, v.ownBlock = some k → k < w.heap.size := by
  intro k hk
  obtain ⟨cur, hc⟩ := own_tagF h k hk
  exact (Array.getElem?_eq_some_iff.1 hc).1
theorem own_form {w : World} {base n : Nat} {e : TypeId} {size : Nat} {v : Value} {xs : List Value} (h : w.ownsRow base e size v n xs) (hn : 0 < n) : ∃ g cap, v = .slice (some ⟨g, 0, none⟩) n cap ∧ base ≤ g := by
  rcases h.2 with ⟨-, h0⟩ | ⟨g, cap, cur, hv, hb, -⟩
  · omega
  · exact ⟨g, cap, hv, hb⟩
def InsPost (base N : Nat) (gs : List (List UInt8 × List UInt8)) (w : World) (e : Ending) (w' : World) : Prop :=
  ∃ g cap, e = .returned (.slice (some ⟨g, 0, none⟩) N cap) ∧ w'.ownsRow base 161 2 (.slice (some ⟨g, 0, none⟩) N cap) N (fcells gs) ∧ Below base w w'
theorem ins_any (vc : Value) (fs : List (List UInt8 × List UInt8)) (f : List UInt8 × List UInt8) (vb base B0 N : Nat) (W : World) (hN : fs.length + 1 = N) (hown : W.ownsRow B0 161 2 vc fs.length (fcells fs)) (hB : base ≤ B0) (hv : W.heap[vb]? = some (.cells #[.string (bs f.1), .string (bs f.2)] 161 (0, 0))) (hne : vc.ownBlock ≠ some vb) (hl : fs.length ≤ 1000000) (hbase : base ≤ W.heap.size) :
    Calls Tryz.prog 122 #[vc, .int .i64 0, .slice (some ⟨vb, 0, none⟩) 1 1] W (InsPost base N (f :: fs) W) := by
  subst hN
  have hown' := own_mono hown hB
  refine (insert_own vc fs f vb base W hown' hv hne hl hbase).mono ?_
  rintro e w' ⟨v', rfl, h1, h2⟩
  obtain ⟨g, cap, rfl, -⟩ := own_form h1 (by omega)
  exact ⟨g, cap, rfl, h1, (Below.refl _ _).grown h2 hbase (fun k hk => (hown'.lt k hk).1)⟩
theorem ins_one (vc : Value) (fs : List (List UInt8 × List UInt8)) (f : List UInt8 × List UInt8) (base B0 N : Nat) (wc wd : World) (hN : fs.length + 1 = N) (hown : wc.ownsRow B0 161 2 vc fs.length (fcells fs)) (hB : base ≤ B0) (hl : fs.length ≤ 1000000) (hbase : base ≤ wc.heap.size) (hbd : Below wc.heap.size wc wd) :
    Calls Tryz.prog 122 #[vc, .int .i64 0, .slice (some ⟨wd.heap.size, 0, none⟩) 1 1] (wd.alloc (.cells #[.string (bs f.1), .string (bs f.2)] 161)) (InsPost base N (f :: fs) (wd.alloc (.cells #[.string (bs f.1), .string (bs f.2)] 161))) := by
  have h1 := own_keep hown hbd
  have h2 := own_keep h1 ((Below.refl wd.heap.size wd).alloc (Nat.le_refl _) (.cells #[.string (bs f.1), .string (bs f.2)] 161))
  have hsz := hbd.size
  refine ins_any vc fs f wd.heap.size base B0 N _ hN h2 hB (heap_alloc_new wd _) (fun e => ?_) hl (by simp; omega)
  have := own_block_lt h1 _ e
  omega
theorem ins_two (vc : Value) (fs : List (List UInt8 × List UInt8)) (f : List UInt8 × List UInt8) (base N : Nat) (wd wc : World) (hN : fs.length + 1 = N) (hown : wc.ownsRow (wd.alloc (.cells #[.string (bs f.1), .string (bs f.2)] 161)).heap.size 161 2 vc fs.length (fcells fs)) (hl : fs.length ≤ 1000000) (hbase : base ≤ wd.heap.size) (hbc : Below (wd.alloc (.cells #[.string (bs f.1), .string (bs f.2)] 161)).heap.size (wd.alloc (.cells #[.string (bs f.1), .string (bs f.2)] 161)) wc) :
    Calls Tryz.prog 122 #[vc, .int .i64 0, .slice (some ⟨wd.heap.size, 0, none⟩) 1 1] wc (InsPost base N (f :: fs) wc) := by
  have hsz := hbc.size
  simp at hsz
  refine ins_any vc fs f wd.heap.size base _ N _ hN hown (by simp; omega) ((hbc.block wd.heap.size (by simp)).trans (heap_alloc_new wd _)) (fun e => ?_) hl (by omega)
  have := (hown.lt _ e).1
  simp at this
  omega
/-- append of one text, the new value written out -/
theorem append_strL {ops : Array Oper} {rest : List Oper} {o : Oper} {a : Act} {Q : Exit → Act → World → Prop} (w0 : World) (hgd : o.guard = none) (s x : Operand)
    (ho : o.op = .call { callee := .builtin .append, args := #[s, x], argTypes := #[131, 131] })
    (base n : Nat) (v : Value) (xs : List (List UInt8)) (hs : a.eval s = v) (hown : w0.ownsRow base 9 1 v n (strs xs))
    (b : ByteArray) (l : List UInt8) (hbl : b = bs l) (hx : a.eval x = .slice (some ⟨w0.heap.size, 0, none⟩) 1 1) (hn : n < 2147483648) (hbase : base ≤ w0.heap.size)
    (h : ∀ g cap w', w'.ownsRow base 9 1 (.slice (some ⟨g, 0, none⟩) (n + 1) cap) (n + 1) (strs (xs ++ [l])) → w0.grownBy w' v.ownBlock → wpList Tryz.prog ops Q rest (a.put o.dst (.slice (some ⟨g, 0, none⟩) (n + 1) cap)) w') :
    wpList Tryz.prog ops Q (o :: rest) a (w0.alloc (.cells #[.string b] 9)) := by
  obtain ⟨i0, hi, hz0, hz1, hz2⟩ := info_parts info_str
  subst hbl
  refine wpList_append_lies _ hgd s x 131 ho base 9 i0 _ 1 16 Tryz.underlying131 hi hz0 hz1 hz2 rfl (by decide) v n (strs xs) hs (hown.alloc _) ⟨w0.heap.size, 0, none⟩ 1 1 [.string (bs l)] hx rfl (cell_one_new w0 _ _) (by simp [Value.oneCell']) (by decide) (by unfold maxLen; omega) (by omega) (by simp; omega) _ rfl ?_
  intro g cap w' h2 h3 h4 h5
  refine h g cap w' ?_ ?_
  · rw [strs_append, strs_one]; exact h2
  · exact ⟨h3.os, h3.tape, h3.output, Nat.le_trans (by simp) h3.size, fun k hk hne => (h3.block k (by simp; omega) hne).trans (heap_alloc_old w0 _ hk)⟩
theorem ownE_bad (fs : List (List UInt8 × List UInt8)) (j : Nat) (hj : j < fs.length) (hok : ∀ i (hi : i < fs.length), i < j → fs[i].1 ≠ clen ∧ fieldE fs[i].1 fs[i].2 = 0) :
    (fs[j].1 = clen → ownE fs = 22) ∧ (fs[j].1 ≠ clen → fieldE fs[j].1 fs[j].2 ≠ 0 → ownE fs = fieldE fs[j].1 fs[j].2) := by
  rw [ownE_at fs j hok, List.drop_eq_getElem_cons hj]
  refine ⟨fun h => if_pos h, fun h1 h2 => ?_⟩
  unfold ownE
  rw [if_neg h1, if_pos h2]
theorem ownE_good (fs : List (List UInt8 × List UInt8)) (hok : ∀ i (hi : i < fs.length), fs[i].1 ≠ clen ∧ fieldE fs[i].1 fs[i].2 = 0) : ownE fs = 0 := by
  rw [ownE_at fs fs.length (fun j hj _ => hok j hj), List.drop_length]; rfl
def RPost (c : Int) (fs : List (List UInt8 × List UInt8)) (b : List UInt8) (w : World) (e : Ending) (w' : World) : Prop :=
  e = .returned (.tuple #[.string (bs (repS c fs b)), .int .i64 (repE c fs : Nat)]) ∧ Below w.heap.size w w'
set_option maxRecDepth 100000 in
set_option maxHeartbeats 4000000 in
theorem reply_print (c : Int) (fv : Value) (fs : List (List UInt8 × List UInt8)) (b : ByteArray) (B : Nat) (w : World) (hE : EnvF w) (hc0 : -9223372036854775808 ≤ c) (hc1 : c ≤ 9223372036854775807)
    (hown : w.ownsRow B 161 2 fv fs.length (fcells fs)) (hl : fs.length ≤ 1000000) (hf : ∀ f ∈ fs, f.1.length ≤ 1000000 ∧ f.2.length ≤ 1000000) (hb : b.size ≤ 1000000) :
    Calls Tryz.prog 92 #[.agg #[.int .i64 c, fv, .string b]] w (RPost c fs b.data.toList w) := by
  have HS := Lib.hid (fun w hE => status_print c w hE hc0 hc1)
  obtain ⟨av, cv, rfl⟩ := own_fslice hown
  have B1 := below_agg3 w (.int .i64 c) (.slice av fs.length cv) (.string b) 113
  have T1 := Three.new w (.int .i64 c) (.slice av fs.length cv) (.string b) 113
  have HE1 := Lib.hid (hE.below B1)
  have HO1 := Lib.hid (own_keep hown B1)
  have HB1 := Lib.hid B1
  clear hE hown B1
  obtain ⟨l1, t0, t1, t2⟩ := T1
  by_cases he : printErr c = 0
  case neg =>
    have HR : Hid (repE c fs = printErr c ∧ repS c fs b.data.toList = []) := Lib.hid (by
      have : repE c fs = printErr c := if_pos he
      exact ⟨this, by unfold repS; rw [if_neg (by rw [this]; exact he)]⟩)
    have tz : ((printErr c : Int) != 0) = true := by rw [bne_iff_ne]; omega
    clear he hf
    go_enter Tryz.func92, Tryz.ntmps92
    go_wp2_with fail
    refine (HS.out _ HE1.out.env).mono ?_
    rintro e w1 ⟨rfl, hb1⟩
    have HB2 := Lib.hid (bstep HB1.out hb1)
    clear hb1 t0 t1 t2
    go_wp2_with fail
    go_ret2
    exact ⟨by rw [HR.out.1, HR.out.2]; rfl, HB2.out⟩
  have HZ := Lib.hid he
  rw [he] at HS
  have hlI : (fs.length : Int) ≤ 1000000 := by omega
  by_cases hm : 15 < fs.length
  · have HR : Hid (repE c fs = 21 ∧ repS c fs b.data.toList = []) := Lib.hid (by
      have : repE c fs = 21 := by unfold repE; rw [if_neg (by rw [he]; simp), if_pos hm]
      exact ⟨this, by unfold repS; rw [if_neg (by rw [this]; simp)]⟩)
    have tm : decide ((fs.length : Int) > 15) = true := decide_eq_true (by omega)
    clear he hf
    go_enter Tryz.func92, Tryz.ntmps92
    go_wp2_with fail
    refine (HS.out _ HE1.out.env).mono ?_
    rintro e w1 ⟨rfl, hb1⟩
    have HB2 := Lib.hid (bstep HB1.out hb1)
    obtain ⟨l2, u0, u1, u2⟩ := Three.below ⟨l1, t0, t1, t2⟩ hb1
    clear hb1 t0 t1 t2
    go_wp2_with fail
    go_ret2
    exact ⟨by rw [HR.out.1, HR.out.2]; rfl, HB2.out⟩
  have tm : decide ((fs.length : Int) > 15) = false := decide_eq_false (by omega)
  have HR : Hid (repE c fs = ownE fs) := Lib.hid (by unfold repE; rw [if_neg (by rw [he]; simp), if_neg hm])
  have HD := Lib.hid (fun w hE => fields_digits (b.size : Int) (by omega) (by omega) w hE)
  obtain ⟨D, hD⟩ : ∃ D, digL (b.size : Int) = D := ⟨_, rfl⟩
  rw [hD] at HD
  have HDD := Lib.hid hD
  obtain ⟨P0, hP0⟩ : ∃ P, printOf c = P := ⟨_, rfl⟩
  rw [hP0] at HS
  have HP0 := Lib.hid hP0
  have HM : Hid (fs.length ≤ 15) := Lib.hid (by omega)
  clear he hm hD hP0
  go_enter Tryz.func92, Tryz.ntmps92
  go_wp2_with fail
  refine (HS.out _ HE1.out.env).mono ?_
  rintro e w1 ⟨rfl, hb1⟩
  have HB2 := Lib.hid (bstep HB1.out hb1)
  obtain ⟨l2, u0, u1, u2⟩ := Three.below ⟨l1, t0, t1, t2⟩ hb1
  have HE2 := Lib.hid (HE1.out.below hb1)
  have HO2 := Lib.hid (own_keep HO1.out hb1)
  have hsz1 := hb1.size
  clear hb1 t0 t1 t2 l1 HB1 HE1 HO1
  go_wp2_with fail
  have HB3 := Lib.hid (HB2.out.alloc (by have := HB2.out.size; omega) (.cells #[.string P0] 9))
  obtain ⟨l3, v0, v1, v2⟩ := Three.alloc ⟨l2, u0, u1, u2⟩ (.cells #[.string P0] 9)
  have HE3 := Lib.hid (HE2.out.below ((Below.refl _ _).alloc (Nat.le_refl _) (.cells #[.string P0] 9)))
  have HO3 := Lib.hid (own_keep HO2.out ((Below.refl _ _).alloc (Nat.le_refl _) (.cells #[.string P0] 9)))
  have HBK := Lib.hid (heap_alloc_new w1 (.cells #[.string P0] 9))
  have hA : w1.heap.size < (w1.alloc (.cells #[.string P0] 9)).heap.size := by simp
  generalize (w1.alloc (.cells #[.string P0] 9)) = W2 at HB3 HE3 HO3 HBK hA l3 v0 v1 v2 ⊢
  have HC := Lib.hid (fun W (h : Below W2.heap.size W2 W) => clone_own (.slice av fs.length cv) fs B W (own_keep HO3.out h) hl)
  have HDg := Lib.hid (fun W (h : Below W2.heap.size W2 W) => HD.out W (HE3.out.below h))
  have HS3 : Hid (∀ W, Below W2.heap.size W2 W → W.cell? ⟨w.heap.size, 1, none⟩ = some (.slice av fs.length cv) ∧ W.cell? ⟨w.heap.size, 2, none⟩ = some (.string b)) := Lib.hid (fun W hW => ⟨(hW.cell (p := ⟨w.heap.size, 1, none⟩) l3).trans v1, (hW.cell (p := ⟨w.heap.size, 2, none⟩) l3).trans v2⟩)
  obtain ⟨N, hN⟩ : ∃ N, fs.length + 1 = N := ⟨_, rfl⟩
  have HI1 : Hid (∀ (vc : Value) (B0 : Nat) (wc wd : World), wc.ownsRow B0 161 2 vc fs.length (fcells fs) → W2.heap.size ≤ B0 → W2.heap.size ≤ wc.heap.size → Below wc.heap.size wc wd →
      Calls Tryz.prog 122 #[vc, .int .i64 0, .slice (some ⟨wd.heap.size, 0, none⟩) 1 1] (wd.alloc (.cells #[.string ⟨#[99, 111, 110, 116, 101, 110, 116, 45, 108, 101, 110, 103, 116, 104]⟩, .string (bs D)] 161)) (InsPost W2.heap.size N ((clen, D) :: fs) (wd.alloc (.cells #[.string ⟨#[99, 111, 110, 116, 101, 110, 116, 45, 108, 101, 110, 103, 116, 104]⟩, .string (bs D)] 161)))) := Lib.hid (fun vc B0 wc wd h1 h2 h3 h4 => ins_one vc fs (clen, D) W2.heap.size B0 N wc wd hN h1 h2 hl h3 h4)
  have HI2 : Hid (∀ (vc : Value) (wd wc : World), wc.ownsRow (wd.alloc (.cells #[.string ⟨#[99, 111, 110, 116, 101, 110, 116, 45, 108, 101, 110, 103, 116, 104]⟩, .string (bs D)] 161)).heap.size 161 2 vc fs.length (fcells fs) → Below (wd.alloc (.cells #[.string ⟨#[99, 111, 110, 116, 101, 110, 116, 45, 108, 101, 110, 103, 116, 104]⟩, .string (bs D)] 161)).heap.size (wd.alloc (.cells #[.string ⟨#[99, 111, 110, 116, 101, 110, 116, 45, 108, 101, 110, 103, 116, 104]⟩, .string (bs D)] 161)) wc → W2.heap.size ≤ wd.heap.size →
      Calls Tryz.prog 122 #[vc, .int .i64 0, .slice (some ⟨wd.heap.size, 0, none⟩) 1 1] wc (InsPost W2.heap.size N ((clen, D) :: fs) wc)) := Lib.hid (fun vc wd wc h1 h2 h3 => ins_two vc fs (clen, D) W2.heap.size N wd wc hN h1 hl h3 h2)
  clear u0 u1 u2 l2 HB2 HE2 HO2
  go_region_held3 (fun w' => w'.cell? ⟨w.heap.size, 1, none⟩ = some (.slice av fs.length cv) ∧ w'.cell? ⟨w.heap.size, 2, none⟩ = some (.string b)) (first | exact HS3.out _ (Below.refl _ _).drew | exact HS3.out _ HA1.out | exact HS3.out _ HA2.out | exact HS3.out _ (HA1.out.alloc HA1.out.size _) | exact HS3.out _ (HA2.out.alloc HA2.out.size _) | exact HS3.out _ HA3.out)
    (first
      | (go_at_call 123; refine (HC.out _ (by first | exact (Below.refl _ _).drew | exact HA1.out | exact HA1.out.alloc HA1.out.size _)).mono ?_; rintro e wc ⟨vc, rfl, hoc, hbc⟩; (first | (have HA2 : Hid (Below W2.heap.size W2 wc) := Lib.hid (bstep HA1.out hbc)) | (have HA2 : Hid (Below W2.heap.size W2 wc) := Lib.hid (bstep (HA1.out.alloc HA1.out.size _) hbc)) | (have HA1 : Hid (Below W2.heap.size W2 wc) := Lib.hid (bstep (Below.refl _ _).drew hbc))); have HOC := Lib.hid hoc; have HBC := Lib.hid hbc; clear hoc hbc)
      | (go_at_call 118; refine (HDg.out _ (by first | exact (Below.refl _ _).drew | exact HA1.out)).mono ?_; rintro e wd ⟨rfl, hbd⟩; (first | (have HA2 : Hid (Below W2.heap.size W2 wd) := Lib.hid (bstep HA1.out hbd)) | (have HA1 : Hid (Below W2.heap.size W2 wd) := Lib.hid (bstep (Below.refl _ _).drew hbd))); have HBD := Lib.hid hbd; clear hbd)
      | (go_at_call 122; (first | refine (HI1.out _ _ _ _ HOC.out (Nat.le_refl _) HA1.out.size HBD.out).mono ?_ | refine (HI1.out _ _ _ _ HOC.out HA1.out.size HA2.out.size (Below.refl _ _)).mono ?_ | refine (HI2.out _ _ _ HOC.out HBC.out HA1.out.size).mono ?_); rintro e wi ⟨gi, ci, rfl, hoi, hbi⟩; (first | (have HA3 : Hid (Below W2.heap.size W2 wi) := Lib.hid ((HA2.out.alloc HA2.out.size _).trans hbi)) | (have HA3 : Hid (Below W2.heap.size W2 wi) := Lib.hid (HA2.out.trans hbi))); have HOI := Lib.hid hoi; clear hoi hbi))
  have hnl : ∀ f ∈ (clen, D) :: fs, f.1.length ≤ 1000000 ∧ f.2.length ≤ 1000000 := by
    intro f hfm
    rcases List.mem_cons.1 hfm with rfl | hfm
    · refine ⟨by show clen.length ≤ _; decide, ?_⟩
      have := digL_len (b.size : Int) (by omega)
      rw [HDD.out] at this
      show D.length ≤ _
      omega
    · exact hf f hfm
  have HNL := Lib.hid hnl
  have HCL : Hid (fieldE clen D = 0) := Lib.hid (by rw [← HDD.out]; exact clen_ok b.size (by omega))
  have HGS : Hid (∀ j (hj : j < ((clen, D) :: fs).length), 0 < j → ∃ h : j - 1 < fs.length, ((clen, D) :: fs)[j] = fs[j - 1]) := Lib.hid (fun j hj h0 => by
    obtain ⟨i, rfl⟩ : ∃ i, j = i + 1 := ⟨j - 1, by omega⟩
    exact ⟨by simpa using hj, rfl⟩)
  have HLN : Hid ((repLines c fs b.size) = P0.data.toList :: ((clen, D) :: fs).map (fun f => printL f.1 f.2)) := Lib.hid (by unfold repLines; rw [HP0.out, HDD.out]; rfl)
  have HG0 : Hid ((clen, D) :: fs ≠ [] ∧ ∀ h : 0 < ((clen, D) :: fs).length, ((clen, D) :: fs)[0] = (clen, D)) := Lib.hid ⟨by simp, fun _ => rfl⟩
  have hgl : ((clen, D) :: fs).length = N := hN
  generalize (clen, D) :: fs = gs at HOI HNL HGS HLN HG0 hgl
  have HOA : Hid (wi.ownsRow w1.heap.size 9 1 (.slice (some ⟨w1.heap.size, 0, none⟩) 1 1) 1 (strs [P0.data.toList])) := Lib.hid ⟨rfl, .inr ⟨w1.heap.size, 1, _, rfl, Nat.le_refl _, (HA3.out.block w1.heap.size hA).trans HBK.out, Nat.le_refl _, by decide, rfl, by rw [strs_one, bs_self]; rfl⟩⟩
  have HBI : Hid (Below w1.heap.size W2 wi) := Lib.hid (HA3.out.mono (Nat.le_of_lt hA))
  have hNl : N ≤ 1000001 := by omega
  have HW1 : Hid (w.heap.size < w1.heap.size ∧ w1.heap.size < W2.heap.size) := Lib.hid ⟨by have := hsz1; simp at this; omega, hA⟩
  have HNN := Lib.hid hN
  clear hnl hf hN HOC HBC HBD HA1 HA2 HI1 HI2 HC HDg HS3 HBK hA HO3 hsz1 HS HD
  go_wp2_with fail
  go_simp
  go_loopg [6, 44] N (fun gk s6 s44 wr => ∃ k : Nat, s44 = .int .i64 (k : Int) ∧ k + gk = N ∧ Hid (wr.ownsRow w1.heap.size 9 1 s6 (k + 1) (strs (P0.data.toList :: (gs.take k).map (fun f => printL f.1 f.2)))) ∧ Hid (wr.ownsRow W2.heap.size 161 2 (.slice (some ⟨gi, 0, none⟩) N ci) N (fcells gs)) ∧ Hid (Below w1.heap.size W2 wr) ∧ Hid (∀ j (hj : j < gs.length), j < k → (0 < j → gs[j].1 ≠ clen) ∧ fieldE gs[j].1 gs[j].2 = 0))
  case atStart => exact ⟨0, by simp, by omega, HOA, HOI, HBI, Lib.hid (fun j hj h => absurd h (Nat.not_lt_zero _))⟩
  case round =>
    obtain ⟨k, rfl, hgk, HOAr, HOFr, HBr, HK⟩ := hrel
    by_cases hk : k < N
    · obtain ⟨g', rfl⟩ : ∃ g', gk = g' + 1 := ⟨gk - 1, by omega⟩
      have hkl : k < gs.length := by omega
      obtain ⟨y, hy⟩ : ∃ y, gs[k] = y := ⟨_, rfl⟩
      obtain ⟨c0, c1⟩ := own_fcell HOFr.out k hkl
      rw [hy] at c0 c1
      have hyl := HNL.out _ (List.getElem_mem hkl)
      rw [hy] at hyl
      have HP := Lib.hid (fun w => fields_print (bs y.1) (bs y.2) w (by rw [bs_size]; exact hyl.1) (by rw [bs_size]; exact hyl.2))
      rw [bs_data, bs_data] at HP
      have HN := Lib.hid (fun w => reply_named y.1 y.2 w)
      have HY := Lib.hid hy
      have hkI : decide ((k : Int) < (N : Int)) = true := decide_eq_true (by omega)
      clear hy hyl
      have HST : Hid (P0.data.toList :: (gs.take (k + 1)).map (fun f => printL f.1 f.2) = (P0.data.toList :: (gs.take k).map (fun f => printL f.1 f.2)) ++ [printL y.1 y.2]) := Lib.hid (by
        rw [List.take_succ_eq_append_getElem hkl, List.map_append, HY.out]; rfl)
      by_cases hk0 : k = 0
      · have hy0 : y = (clen, D) := by rw [← HY.out]; subst hk0; exact HG0.out.2 hkl
        have hz : fieldE y.1 y.2 = 0 := by rw [hy0]; exact HCL.out
        have HK2 : Hid (∀ j (hj : j < gs.length), j < k + 1 → (0 < j → gs[j].1 ≠ clen) ∧ fieldE gs[j].1 gs[j].2 = 0) := Lib.hid (fun j hj h => by
          obtain rfl : j = k := by omega
          rw [HY.out]
          exact ⟨fun h => by omega, hz⟩)
        have hfs : fieldS y.1 y.2 = printL y.1 y.2 := if_pos hz
        rw [hz, hfs] at HP
        have tk0 : decide ((k : Int) > 0) = false := decide_eq_false (by omega)
        have tk1 : decide (0 < k) = false := decide_eq_false (by omega)
        have tk2 : ¬ (0 < k) := by omega
        clear hy0 hz hfs hk0 HK HY
        go_wp2_with fail
        refine (HP.out _).mono ?_
        rintro e w3 ⟨rfl, hb3⟩
        have hb03 := bstep ((Below.refl wr.heap.size wr).alloc (Nat.le_refl _) (.cells #[.string (bs y.1), .string (bs y.2)] 161)) hb3
        clear hb3 c0 c1
        have HOA3 := Lib.hid (own_keep HOAr.out hb03)
        have HOF3 := Lib.hid (own_keep HOFr.out hb03)
        have HB3r := Lib.hid (HBr.out.trans (hb03.mono (by have := HBr.out.size; have := HW1.out; omega)))
        have HS3 : Hid (k + 1 < 2147483648 ∧ w1.heap.size ≤ w3.heap.size) := Lib.hid ⟨by omega, by have := hb03.size; have := HBr.out.size; have := HW1.out; omega⟩
        clear hb03
        go_wp2_with (at_builtin; go_loud (refine append_strL w3 (by rfl) _ _ (by rfl) w1.heap.size (k + 1) _ _ (by rfl) HOA3.out _ (printL y.1 y.2) rfl (by rfl) HS3.out.1 HS3.out.2 ?_); intro g3 cap3 w4 hown4 hg4)
        go_roundg g'
        case measure => omega
        case rel =>
          refine ⟨k + 1, by simp, by omega, Lib.hid ?_, Lib.hid (own_stays HOF3.out HOA3.out (by decide) hg4), Lib.hid (below_own HB3r.out hg4 HOA3.out (Nat.le_refl _) HS3.out.2), HK2⟩
          rw [HST.out]; exact hown4
      · have tk0 : decide ((k : Int) > 0) = true := decide_eq_true (by omega)
        have tk1 : decide (0 < k) = true := decide_eq_true (by omega)
        have tk2 : 0 < k := by omega
        obtain ⟨hj1, hj2⟩ := HGS.out k hkl (by omega)
        have hyf : fs[k - 1] = y := by rw [← hj2, HY.out]
        have hokf : ∀ i (hi : i < fs.length), i < k - 1 → fs[i].1 ≠ clen ∧ fieldE fs[i].1 fs[i].2 = 0 := by
          intro i hi hik
          obtain ⟨q1, q2⟩ := HK.out (i + 1) (by omega) (by omega)
          obtain ⟨r1, r2⟩ := HGS.out (i + 1) (by omega) (by omega)
          rw [r2] at q1 q2
          exact ⟨q1 (by omega), q2⟩
        obtain ⟨o1, o2⟩ := ownE_bad fs (k - 1) hj1 hokf
        rw [hyf] at o1 o2
        have HOE := Lib.hid (And.intro o1 o2)
        clear hj2 hyf hokf o1 o2 hk0
        by_cases hnm : y.1 = clen
        · have HF : Hid (repE c fs = 22 ∧ repS c fs b.data.toList = []) := Lib.hid (by
            have : repE c fs = 22 := by rw [HR.out]; exact HOE.out.1 hnm
            exact ⟨this, by unfold repS; rw [if_neg (by rw [this]; simp)]⟩)
          rw [decide_eq_true hnm] at HN
          clear hnm HK HY
          go_wp2_with fail
          refine (HN.out _).mono ?_
          rintro e w3 ⟨rfl, hb3⟩
          have hb03 := bstep ((Below.refl wr.heap.size wr).alloc (Nat.le_refl _) (.cells #[.string (bs y.1), .string (bs y.2)] 161)) hb3
          have HBF := Lib.hid (HB3.out.trans ((HBr.out.trans (hb03.mono (by have := HBr.out.size; have := HW1.out; omega))).mono (Nat.le_of_lt HW1.out.1)))
          clear hb3 c0 c1 hb03
          go_wp2_with fail
          go_ret2
          exact ⟨by rw [HF.out.1, HF.out.2]; rfl, HBF.out⟩
        · rw [decide_eq_false hnm] at HN
          have HNM := Lib.hid hnm
          by_cases hz : fieldE y.1 y.2 = 0
          · have HK2 : Hid (∀ j (hj : j < gs.length), j < k + 1 → (0 < j → gs[j].1 ≠ clen) ∧ fieldE gs[j].1 gs[j].2 = 0) := Lib.hid (fun j hj h => by
              by_cases e : j = k
              · subst e; rw [HY.out]; exact ⟨fun _ => HNM.out, hz⟩
              · exact HK.out j hj (by omega))
            have hfs : fieldS y.1 y.2 = printL y.1 y.2 := if_pos hz
            rw [hz, hfs] at HP
            clear hz hfs hnm HK HY
            go_wp2_with fail
            refine (HN.out _).mono ?_
            rintro e w2 ⟨rfl, hb2⟩
            have hb02 := bstep ((Below.refl wr.heap.size wr).alloc (Nat.le_refl _) (.cells #[.string (bs y.1), .string (bs y.2)] 161)) hb2
            have hk0 : w2.heap[wr.heap.size]? = some (.cells #[.string (bs y.1), .string (bs y.2)] 161 (0, 0)) := (hb2.block wr.heap.size (by simp)).trans (heap_alloc_new wr _)
            have k0 : w2.cell? ⟨wr.heap.size, 0, none⟩ = some (.string (bs y.1)) := by unfold World.cell?; rw [hk0]; rfl
            have k1 : w2.cell? ⟨wr.heap.size, 1, none⟩ = some (.string (bs y.2)) := by unfold World.cell?; rw [hk0]; rfl
            have HB02 := Lib.hid hb02
            clear hb2 c0 c1 hk0 hb02
            go_wp2_with fail
            refine (HP.out _).mono ?_
            rintro e w3 ⟨rfl, hb3⟩
            have hb03 := bstep HB02.out hb3
            clear hb3 k0 k1
            have HOA3 := Lib.hid (own_keep HOAr.out hb03)
            have HOF3 := Lib.hid (own_keep HOFr.out hb03)
            have HB3r := Lib.hid (HBr.out.trans (hb03.mono (by have := HBr.out.size; have := HW1.out; omega)))
            have HS3 : Hid (k + 1 < 2147483648 ∧ w1.heap.size ≤ w3.heap.size) := Lib.hid ⟨by omega, by have := hb03.size; have := HBr.out.size; have := HW1.out; omega⟩
            clear hb03
            go_wp2_with (at_builtin; go_loud (refine append_strL w3 (by rfl) _ _ (by rfl) w1.heap.size (k + 1) _ _ (by rfl) HOA3.out _ (printL y.1 y.2) rfl (by rfl) HS3.out.1 HS3.out.2 ?_); intro g3 cap3 w4 hown4 hg4)
            go_roundg g'
            case measure => omega
            case rel =>
              refine ⟨k + 1, by simp, by omega, Lib.hid ?_, Lib.hid (own_stays HOF3.out HOA3.out (by decide) hg4), Lib.hid (below_own HB3r.out hg4 HOA3.out (Nat.le_refl _) HS3.out.2), HK2⟩
              rw [HST.out]; exact hown4
          · have HF : Hid (repE c fs = fieldE y.1 y.2 ∧ repS c fs b.data.toList = []) := Lib.hid (by
              have : repE c fs = fieldE y.1 y.2 := by rw [HR.out]; exact HOE.out.2 HNM.out hz
              exact ⟨this, by unfold repS; rw [if_neg (by rw [this]; exact hz)]⟩)
            have tz : ((fieldE y.1 y.2 : Int) != 0) = true := by rw [bne_iff_ne]; omega
            clear hz hnm HK HY
            go_wp2_with fail
            refine (HN.out _).mono ?_
            rintro e w2 ⟨rfl, hb2⟩
            have hb02 := bstep ((Below.refl wr.heap.size wr).alloc (Nat.le_refl _) (.cells #[.string (bs y.1), .string (bs y.2)] 161)) hb2
            have hk0 : w2.heap[wr.heap.size]? = some (.cells #[.string (bs y.1), .string (bs y.2)] 161 (0, 0)) := (hb2.block wr.heap.size (by simp)).trans (heap_alloc_new wr _)
            have k0 : w2.cell? ⟨wr.heap.size, 0, none⟩ = some (.string (bs y.1)) := by unfold World.cell?; rw [hk0]; rfl
            have k1 : w2.cell? ⟨wr.heap.size, 1, none⟩ = some (.string (bs y.2)) := by unfold World.cell?; rw [hk0]; rfl
            have HB02 := Lib.hid hb02
            clear hb2 c0 c1 hk0 hb02
            go_wp2_with fail
            refine (HP.out _).mono ?_
            rintro e w3 ⟨rfl, hb3⟩
            have hb03 := bstep HB02.out hb3
            have HBF := Lib.hid (HB3.out.trans ((HBr.out.trans (hb03.mono (by have := HBr.out.size; have := HW1.out; omega))).mono (Nat.le_of_lt HW1.out.1)))
            clear hb3 k0 k1 hb03
            go_wp2_with fail
            go_ret2
            exact ⟨by rw [HF.out.1, HF.out.2]; rfl, HBF.out⟩
    · obtain rfl : k = N := by omega
      have hN := HNN.out
      have hkI : decide ((k : Int) < (k : Int)) = false := decide_eq_false (by omega)
      have hN17 : k ≤ 16 := by have := HM.out; omega
      have hOE : ownE fs = 0 := ownE_good fs (fun i hi => by
        obtain ⟨q1, q2⟩ := HK.out (i + 1) (by omega) (by omega)
        obtain ⟨r1, r2⟩ := HGS.out (i + 1) (by omega) (by omega)
        rw [r2] at q1 q2
        exact ⟨q1 (by omega), q2⟩)
      have hrz : repE c fs = 0 := by rw [HR.out]; exact hOE
      have HF : Hid (repE c fs = 0 ∧ repS c fs b.data.toList = body (repLines c fs b.size) ++ 13 :: 10 :: b.data.toList) := Lib.hid ⟨hrz, by unfold repS; rw [if_pos hrz]; unfold repL; rw [size_len]⟩
      have hall : P0.data.toList :: (gs.take k).map (fun f => printL f.1 f.2) = repLines c fs b.size := by rw [HLN.out, List.take_of_length_le (by omega)]
      have hgood := good_lines c fs b.size hrz (by omega)
      obtain ⟨L, hL⟩ : ∃ L, repLines c fs b.size = L := ⟨_, rfl⟩
      rw [hall, hL] at HOAr
      rw [hL] at HF hgood
      have hLl : L.length = k + 1 := by rw [← hL, HLN.out, List.length_cons, List.length_map]; omega
      have HPut : Hid (∀ j (hj : j < (L ++ [[]]).length), (L ++ [[]])[j].length ≤ 256 ∧ putErr (L ++ [[]])[j] = 0) := Lib.hid (fun j hj => by
        by_cases hjl : j < L.length
        · rw [List.getElem_append_left hjl]
          obtain ⟨-, g1, g2⟩ := hgood.1 _ (List.getElem_mem hjl)
          exact ⟨g2, put_of _ g1 g2⟩
        · rw [List.getElem_append_right (by omega)]
          have : j - L.length = 0 := by simp at hj; omega
          simp only [this, List.getElem_cons_zero]
          exact ⟨by decide, by decide⟩)
      have HLL := Lib.hid hLl
      have HS3 : Hid (k + 1 < 2147483648 ∧ w1.heap.size ≤ wr.heap.size) := Lib.hid ⟨by omega, by have := HBr.out.size; have := HW1.out; omega⟩
      clear hOE hrz hall hgood hL hLl HK hN
      go_wp2_with (at_builtin; go_loud (refine append_strL wr (by rfl) _ _ (by rfl) w1.heap.size (k + 1) _ _ (by rfl) HOAr.out _ [] rfl (by rfl) HS3.out.1 HS3.out.2 ?_); intro g3 cap3 w4 hown4 hg4)
      have HB4 := Lib.hid (below_own HBr.out hg4 HOAr.out (Nat.le_refl _) HS3.out.2)
      have HO4 := Lib.hid hown4
      have hbody : w4.cell? ⟨w.heap.size, 2, none⟩ = some (.string b) := (HB4.out.cell (p := ⟨w.heap.size, 2, none⟩) HW1.out.1).trans v2
      have HBD := Lib.hid hbody
      clear hown4 hg4 hbody HOAr HOFr
      go_loopg [11, 72] (k + 2) (fun gk s11 s72 wy => ∃ (j : Nat) (O : ByteArray), s11 = .string O ∧ s72 = .int .i64 (j : Int) ∧ wy = w4 ∧ j + gk = k + 2 ∧ O.size ≤ j * 260 ∧ Hid (O = bs (body ((L ++ [[]]).take j))))
      case atStart => exact ⟨0, ⟨#[]⟩, rfl, by simp, rfl, by omega, by decide, Lib.hid rfl⟩
      case round =>
        obtain ⟨j, O, rfl, rfl, rfl, hgj, hOs, HO⟩ := hrel
        by_cases hj : j < k + 2
        · obtain ⟨g', rfl⟩ : ∃ g', gk = g' + 1 := ⟨gk - 1, by omega⟩
          have hjl : j < (L ++ [[]]).length := by have := HLL.out; simp; omega
          have tk : decide ((j : Int) < (k : Int) + 1 + 1) = true := decide_eq_true (by omega)
          have hc := own_scell HO4.out j hjl
          obtain ⟨p1, p2⟩ := HPut.out j hjl
          obtain ⟨x, hx⟩ : ∃ x, (L ++ [[]])[j] = x := ⟨_, rfl⟩
          rw [hx] at hc p1 p2
          obtain ⟨X, hX⟩ : ∃ X, bs x = X := ⟨_, rfl⟩
          have hXs : X.size ≤ 256 := by rw [← hX, bs_size]; exact p1
          have HPP := Lib.hid (fun w => put_good X w hXs (by rw [← hX, bs_data]; exact p2))
          rw [hX] at hc
          have HOO : Hid (O ++ (X ++ ⟨#[13, 10]⟩) = bs (body ((L ++ [[]]).take (j + 1)))) := Lib.hid (by
            rw [HO.out, ← hX, show (⟨#[13, 10]⟩ : ByteArray) = bs [13, 10] from rfl, bs_cat, bs_cat, List.take_succ_eq_append_getElem hjl, hx, body_append]
            rfl)
          have padd := fun w => run_string_add_sum (P := Tryz.prog) w O (X ++ ⟨#[13, 10]⟩) (by rw [ByteArray.size_append]; show _ + (_ + 2) ≤ _; omega)
          clear p1 p2 hx hX
          go_wp2_with fail
          refine (HPP.out _).mono ?_
          rintro e w' ⟨rfl, rfl⟩
          go_wp2_with fail
          go_roundg g'
          case measure => omega
          case rel => exact ⟨j + 1, _, rfl, by simp, rfl, by omega, by rw [ByteArray.size_append, ByteArray.size_append]; show _ + (_ + 2) ≤ _; omega, Lib.hid HOO.out⟩
        · obtain rfl : j = k + 2 := by omega
          have hbd := HBD.out
          have tk : decide (((k : Int) + 2) < (k : Int) + 1 + 1) = false := decide_eq_false (by omega)
          have padd := fun w => run_string_add_sum (P := Tryz.prog) w O b (by omega)
          have HRR : Hid (O ++ b = bs (repS c fs b.data.toList)) := Lib.hid (by
            rw [HO.out, HF.out.2]
            conv => lhs; rhs; rw [← bs_self b]
            rw [bs_cat, List.take_of_length_le (by have := HLL.out; simp; omega), body_append]
            congr 1
            simp [body])
          go_wp2_with fail
          go_ret2
          exact ⟨by rw [HF.out.1, ← HRR.out]; rfl, HB3.out.trans (HB4.out.mono (Nat.le_of_lt HW1.out.1))⟩
end Go.Proofs.YtbdmmgmcbecolaaGreatDoor
namespace Go.Proofs.YtbdmmgmcbecolaaGreatDoor
open Go.RowKit
end Go.Proofs.YtbdmmgmcbecolaaGreatDoor
namespace Go.Proofs.YtbdmmgmcbecolaaGreatDoor
open Go.RowKit
theorem below_r3 (w : World) (x y z : Value) : Below w.heap.size w (w.alloc (.cells #[x, y, z] 79)) := (Below.refl _ _).alloc (Nat.le_refl _) _
end Go.Proofs.YtbdmmgmcbecolaaGreatDoor
namespace Go.Proofs.YtbdmmgmcbecolaaGreatDoor
open Go.RowKit
theorem load_rrep (w : World) (b : Nat) (t : TypeId) (x y z : Value) (h : w.heap[b]? = some (.cells #[x, y, z] t (0, 0))) : (loadVar 79 ⟨b, 0, none⟩).run Tryz.prog w = .ok (.agg #[x, y, z]) w :=
  run_loadVar_row w b t 79 #[x, y, z] (0, 0) _ h Tryz.underlying79 rfl (by kernel_rfl)
/-- the block of a reply of the document's -/
def RqB (w : World) (R : Nat) (c f b : Value) : Prop := w.heap[R]? = some (.cells #[c, f, b] 79 (0, 0))
theorem RqB.below {w w' : World} {R : Nat} {c f b : Value} (k : RqB w R c f b) (hb : Below w.heap.size w w') : RqB w' R c f b :=
  (hb.block R (Array.getElem?_eq_some_iff.1 k).1).trans k
theorem RqB.lt {w : World} {R : Nat} {c f b : Value} (k : RqB w R c f b) : R < w.heap.size := (Array.getElem?_eq_some_iff.1 k).1
theorem RqB.set1 {w : World} {R : Nat} {c f b : Value} (k : RqB w R c f b) (v : Value) : RqB (w.setCell ⟨R, 1, none⟩ v) R c v b := by
  unfold RqB at k ⊢; simp [World.setCell, Array.getElem?_modify, k]
theorem step_appG {ops : Array Oper} {o : Oper} {a : Act} {K : Act → World → Prop} {Q : Exit → Act → World → Prop} {E : Prop} (W : World) (hgd : o.guard = none) (s x : Operand)
    (ho : o.op = .call { callee := .builtin .append, args := #[s, x], argTypes := #[77, 77] })
    (base : Nat) (v : Value) (fs : List (List UInt8 × List UInt8)) (hs : a.eval s = v) (hown : W.ownsRow base 139 2 v fs.length (fcells fs))
    (B : Nat) (f : List UInt8 × List UInt8) (hB : W.heap[B]? = some (.cells #[.string (bs f.1), .string (bs f.2)] 139 (0, 0))) (hx : a.eval x = .slice (some ⟨B, 0, none⟩) 1 1) (hn : fs.length < 2147483648) (hbase : base ≤ W.heap.size)
    (h : ∀ g cap w', w'.ownsRow base 139 2 (.slice (some ⟨g, 0, none⟩) (fs.length + 1) cap) (fs ++ [f]).length (fcells (fs ++ [f])) → W.grownBy w' v.ownBlock → K (a.put o.dst (.slice (some ⟨g, 0, none⟩) (fs.length + 1) cap)) w') :
    if Region.wanted o (yielded ops a.tmps) = true then Oper.wp Tryz.prog o a W K Q else E := by
  obtain ⟨i0, hi, hz0, hz1, hz2⟩ := info_parts info_rfield
  refine step_append_lies W hgd s x 77 ho base 139 i0 _ 2 32 Tryz.underlying77 hi hz0 hz1 hz2 rfl (by decide) v fs.length (fcells fs) hs hown ⟨B, 0, none⟩ 1 1 [.string (bs f.1), .string (bs f.2)] hx rfl (World.news_of_block hB) (by simp [Value.oneCell']) (by decide) (by unfold maxLen; omega) (by omega) hbase _ rfl ?_
  intro g cap w' h1 h2 _ _
  refine h g cap w' ?_ h2
  rw [List.length_append, fcells_append]; exact h1
def AfterAppQ (R : Nat) (W w' : World) (c v b : Value) : Prop := RqB w' R c v b ∧ W.grownBy w' (some R)
theorem step_appQ {ops : Array Oper} {o : Oper} {a : Act} {K : Act → World → Prop} {Q : Exit → Act → World → Prop} {E : Prop} {R base : Nat} (w0 : World) (hw0 : w0.heap.size = base) (hR0 : R < base) {c v b : Value} {W2 : World} {fs : List (List UInt8 × List UInt8)} (W : World) (hgd : o.guard = none) (s z : Operand)
    (ho : o.op = .call { callee := .builtin .append, args := #[s, z], argTypes := #[77, 77] })
    (hR2 : RqB W2 R c v b) (hown : W2.ownsRow base 139 2 v fs.length (fcells fs)) (hg0 : w0.grownBy W2 (some R)) (hs : a.eval s = v) (hn : fs.length < 2147483648) (hbW : Below W2.heap.size W2 W)
    (B : Nat) (f : List UInt8 × List UInt8) (hB : W.heap[B]? = some (.cells #[.string (bs f.1), .string (bs f.2)] 139 (0, 0))) (hx : a.eval z = .slice (some ⟨B, 0, none⟩) 1 1)
    (hK : ∀ g cap w', w'.ownsRow base 139 2 (.slice (some ⟨g, 0, none⟩) (fs.length + 1) cap) (fs ++ [f]).length (fcells (fs ++ [f])) → w'.cell? ⟨R, 1, none⟩ = some v → w'.frozen? ⟨R, 1, none⟩ = false → AfterAppQ R w0 w' c v b → K (a.put o.dst (.slice (some ⟨g, 0, none⟩) (fs.length + 1) cap)) w') :
    if Region.wanted o (yielded ops a.tmps) = true then Oper.wp Tryz.prog o a W K Q else E := by
  have hoW := own_keep hown hbW
  have hlt := hR2.lt
  have hsz := hbW.size
  have hs0 := hg0.size
  refine step_appG W hgd s z ho base v fs hs hoW B f hB hx hn (by omega) (fun g cap w' h1 h2 => ?_)
  have hR3 : RqB w' R c v b := (grow_block h2 hoW hR0 (by omega)).trans (hR2.below hbW)
  have hg1 := hg0.below hbW
  have hb3 : w0.grownBy w' (some R) := ⟨h2.os.trans hg1.os, h2.tape.trans hg1.tape, h2.output.trans hg1.output, Nat.le_trans hg1.size h2.size, fun k hk hne =>
    (h2.block k (Nat.lt_of_lt_of_le hk hg1.size) (fun h => by have := (hoW.lt k h.symm).1; omega)).trans (hg1.block k hk hne)⟩
  obtain ⟨-, k1, -, -, f1, -⟩ := three_facts hR3
  exact hK g cap w' h1 k1 f1 ⟨hR3, hb3⟩
def RefPost (s : ByteArray) (most : Int) (w : World) (e : Ending) (w' : World) : Prop :=
  ∃ fv, e = .returned (RepV s most fv) ∧ (∃ B, w'.ownsRow B 139 2 fv (takF s most).length (fcells (takF s most))) ∧ Below w.heap.size w w'
theorem rparse_bad (s : ByteArray) (most : Int) (e : Nat) (h : takE s most = e) (h0 : e ≠ 0) (w w' : World) (hb : Below w.heap.size w w') :
    RefPost s most w (.returned (.tuple #[.agg #[.int .i64 0, .slice none 0 0, .string ⟨#[]⟩], .int .i64 0, .int .i64 (e : Nat)])) w' := by
  obtain ⟨h1, h2, h3, h4⟩ := tak_bad s most (by rw [h]; exact h0)
  refine ⟨.slice none 0 0, ?_, ?_, hb⟩
  · unfold RepV; rw [h1, h3, h4, h]; rfl
  · rw [h2]; exact ⟨0, World.ownsRow_nil _ _ _ _⟩
theorem rparse_good (s : ByteArray) (most : Int) (h : takE s most = 0) (w w' : World) (fv : Value) (hown : ∃ B, w'.ownsRow B 139 2 fv (takF s most).length (fcells (takF s most))) (hb : Below w.heap.size w w') (C n : Int) (B : ByteArray) (h1 : takC s most = C) (h2 : takN s most = n) (h3 : bs (takB s most) = B) :
    RefPost s most w (.returned (.tuple #[.agg #[.int .i64 C, fv, .string B], .int .i64 n, .int .i64 0])) w' := by
  refine ⟨fv, ?_, hown, hb⟩
  unfold RepV; rw [h1, h2, h3, h]; rfl
theorem res3 {w w1 : World} (hb : Below (w.alloc (.cells #[.int .i64 0, .slice none 0 0, .string ⟨#[]⟩] 79)).heap.size (w.alloc (.cells #[.int .i64 0, .slice none 0 0, .string ⟨#[]⟩] 79)) w1) :
    w1.heap[w.heap.size]? = some (.cells #[.int .i64 0, .slice none 0 0, .string ⟨#[]⟩] 79 (0, 0)) := (hb.block w.heap.size (by simp)).trans (heap_alloc_new w _)
theorem restF_take (fs : List (List UInt8 × List UInt8)) (k : Nat) (hk : k < fs.length) : restF (fs.take (k + 1)) = restF (fs.take k) ++ (if fs[k].1 = clen then [] else [fs[k]]) := by
  unfold restF
  rw [List.take_succ_eq_append_getElem hk, List.filter_append]
  congr 1
  by_cases h : fs[k].1 = clen
  · rw [if_pos h, List.filter_cons_of_neg (by simp [h])]; rfl
  · rw [if_neg h, List.filter_cons_of_pos (by simp [h])]; rfl
theorem restF_len (fs : List (List UInt8 × List UInt8)) : (restF fs).length ≤ fs.length := List.length_filter_le _ _
theorem hdE_split (x : List UInt8) (xs : List (List UInt8)) : hdE (x :: xs) = if (statusOf x).2 ≠ 0 then (statusOf x).2 else if fldE xs ≠ 0 then fldE xs else if getE (fldL xs) clen ≠ 0 then getE (fldL xs) clen else numE (getS (fldL xs) clen) := by
  unfold hdE
  rw [if_neg (by simp)]; rfl
set_option maxRecDepth 100000 in
set_option maxHeartbeats 4000000 in
theorem ref_rparse (s : ByteArray) (most : Int) (w : World) (hs : s.size ≤ 1000000) :
    Calls Tryz.prog 28 #[.string s, .int .i64 most] w (RefPost s most w) := by
  have HH := Lib.hid (ref_head s (w.alloc (.cells #[.int .i64 0, .slice none 0 0, .string ⟨#[]⟩] 79)) (by omega))
  have hbd := headOf_bound s
  have hbd2 := headOf_bd s
  unfold HeadPost at HH
  obtain ⟨⟨ls, n, e⟩, hh⟩ : ∃ T, headOf s = T := ⟨_, rfl⟩
  rw [hh] at HH hbd hbd2
  have HHd := Lib.hid hh
  change (∀ x ∈ ls, x.length ≤ 256) ∧ ls.length ≤ 17 at hbd
  change e = 0 → 0 < n ∧ n ≤ (s.size : Int) at hbd2
  change Hid (Calls _ _ _ _ fun r w' => ∃ v, r = .returned (.tuple #[v, .int .i64 n, .int .i64 (e : Nat)]) ∧ w'.ownsRow _ 9 1 v ls.length (strs ls) ∧ _) at HH
  have HBD := Lib.hid hbd
  have HB0 := Lib.hid (below_r3 w (.int .i64 0) (.slice none 0 0) (.string ⟨#[]⟩))
  clear hbd hh
  by_cases he : e = 0
  case neg =>
    have HV : Hid (takE s most = e ∧ e ≠ 0) := Lib.hid ⟨by unfold takE; rw [HHd.out]; exact if_pos he, he⟩
    have tz : ((e : Int) != 0) = true := by rw [bne_iff_ne]; omega
    clear he hbd2
    go_enter Tryz.func28, Tryz.ntmps28
    go_wp2_with fail
    refine HH.out.mono ?_
    rintro r w1 ⟨v, rfl, -, hb1⟩
    have HB1 := Lib.hid hb1
    obtain ⟨d0, d1, d2, g0, g1, g2⟩ := three_facts (res3 hb1)
    clear hb1
    go_wp2_with fail
    refine ret_cell3 (A := ⟨w.heap.size, 0, none⟩) rfl (load_rrep _ _ _ _ _ _ (three_set (res3 HB1.out) _ _ _)) rfl rfl rfl rfl ?_
    exact rparse_bad s most e HV.out.1 HV.out.2 w _ (three_below (bstep HB0.out HB1.out) _ (Nat.le_refl _) _ _ _)
  subst he
  obtain ⟨n1, n2⟩ := hbd2 rfl
  obtain ⟨nx, rfl⟩ : ∃ nx : Nat, n = nx := ⟨n.toNat, by omega⟩
  have hh2 : Hid (∀ q, takE s most = q ↔ (if hdE ls ≠ 0 then hdE ls else if most < (hdN ls : Int) then 5 else if (s.size : Int) - nx < (hdN ls : Int) then 3 else 0) = q) := Lib.hid (fun q => by unfold takE; rw [HHd.out]; rfl)
  clear hbd2
  cases ls with
  | nil =>
    have HV : Hid (takE s most = 4) := Lib.hid ((hh2.out 4).2 rfl)
    go_enter Tryz.func28, Tryz.ntmps28
    go_wp2_with fail
    refine HH.out.mono ?_
    rintro e w1 ⟨v, rfl, hown, hb1⟩
    obtain ⟨av, cv, rfl⟩ := slice_of_own hown
    have HB1 := Lib.hid hb1
    obtain ⟨d0, d1, d2, g0, g1, g2⟩ := three_facts (res3 hb1)
    clear hb1 hown
    go_wp2_with fail
    refine ret_cell3 (A := ⟨w.heap.size, 0, none⟩) rfl (load_rrep _ _ _ _ _ _ (three_set (res3 HB1.out) _ _ _)) rfl rfl rfl rfl ?_
    exact rparse_bad s most 4 HV.out (by decide) w _ (three_below (bstep HB0.out HB1.out) _ (Nat.le_refl _) _ _ _)
  | cons x xs =>
    have hxl : x.length ≤ 256 := HBD.out.1 x (List.mem_cons_self ..)
    have HS := Lib.hid (fun w => ref_status_parse (bs x) w (by rw [bs_size]; omega))
    rw [bs_data] at HS
    have HXS : Hid (∀ y ∈ xs, y.length ≤ 256) := Lib.hid (fun y hy => HBD.out.1 y (List.mem_cons_of_mem _ hy))
    have hxn : xs.length ≤ 16 := by have := HBD.out.2; simp at this; omega
    have HSp := Lib.hid (hdE_split x xs)
    have HCN : Hid (hdC (x :: xs) = (statusOf x).1 ∧ hdN (x :: xs) = numV (getS (fldL xs) clen)) := Lib.hid ⟨rfl, rfl⟩
    obtain ⟨⟨C, e0⟩, hst⟩ : ∃ T, statusOf x = T := ⟨_, rfl⟩
    rw [hst] at HS HSp HCN
    clear hst
    go_enter Tryz.func28, Tryz.ntmps28
    go_wp2_with fail
    refine HH.out.mono ?_
    rintro e w1 ⟨v, rfl, hown, hb1⟩
    have hSS := HoldsS.of_own hown
    obtain ⟨av, cv, hv, hcv, hhv⟩ := hSS
    subst hv
    obtain ⟨B, o, rfl, hBl, hcell⟩ := hhv (by simp)
    have c0 := hcell 0 (by simp)
    rw [Nat.add_zero] at c0
    change w1.cell? ⟨B, o, none⟩ = some (.string (bs x)) at c0
    have HST : Hid (HoldsS w1 (.slice (some ⟨B, o, none⟩) (x :: xs).length cv) (x :: xs)) := Lib.hid (HoldsS.of_own hown)
    have HB1 := Lib.hid hb1
    have hll : ((x :: xs).length : Nat) = xs.length + 1 := rfl
    rw [hll] at hcv ⊢
    have tl : (((xs.length : Int) + 1) == 0) = false := by rw [beq_eq_false_iff_ne]; omega
    clear hb1 hown hcell hhv hll HH
    go_wp2_with fail
    refine (HS.out _).mono ?_
    rintro e w2 ⟨rfl, hww⟩
    obtain rfl := hww.symm
    by_cases h1 : e0 = 0
    case neg =>
      have HV : Hid (takE s most = e0 ∧ e0 ≠ 0) := Lib.hid ⟨(hh2.out e0).2 (by rw [HSp.out, if_pos h1, if_pos h1]), h1⟩
      have tz : ((e0 : Int) != 0) = true := by rw [bne_iff_ne]; omega
      obtain ⟨d0, d1, d2, g0, g1, g2⟩ := three_facts (res3 HB1.out)
      clear h1 c0
      go_wp2_with fail
      refine ret_cell3 (A := ⟨w.heap.size, 0, none⟩) rfl (load_rrep _ _ _ _ _ _ (three_set (res3 HB1.out) _ _ _)) rfl rfl rfl rfl ?_
      exact rparse_bad s most _ HV.out.1 HV.out.2 w _ (three_below (bstep HB0.out HB1.out) _ (Nat.le_refl _) _ _ _)
    subst h1
    rw [if_neg (by simp)] at HSp
    clear HS c0
    by_cases hx0 : xs = []
    · subst hx0
      have HV : Hid (takE s most = 6) := Lib.hid ((hh2.out 6).2 (by rw [HSp.out]; rfl))
      have HFE : Hid (∀ a c w, Calls Tryz.prog 55 #[.slice a 0 c] w (FieldsPost [] w)) := Lib.hid (fun a c w => ref_fields w (.slice a 0 c) [] (HoldsS.empty w a c) (by decide) (fun x h => by simp at h))
      by_cases hc : cv = 1
      all_goals
        go_wp2_with fail
        refine (HFE.out _ _ _).mono ?_
        rintro e w3 ⟨v3, rfl, ⟨a3, c3, n3, rfl⟩, hf3, hb3⟩
        have HF3 := Lib.hid (hf3 rfl)
        have HB3 := Lib.hid (bstep HB1.out hb3)
        clear hf3 hb3
        go_wp2_with fail
        refine (get_rk _ _ ⟨#[99, 111, 110, 116, 101, 110, 116, 45, 108, 101, 110, 103, 116, 104]⟩ clen rfl _ HF3.out (by decide)).mono ?_
        rintro e w3 ⟨rfl, rfl⟩
        obtain ⟨d0, d1, d2, g0, g1, g2⟩ := three_facts (res3 HB3.out)
        rw [show getE (fldL []) clen = 6 from rfl]
        go_wp2_with fail
        refine ret_cell3 (A := ⟨w.heap.size, 0, none⟩) rfl (load_rrep _ _ _ _ _ _ (three_set (res3 HB3.out) _ _ _)) rfl rfl rfl rfl ?_
        exact rparse_bad s most 6 HV.out (by decide) w _ (three_below (bstep HB0.out HB3.out) _ (Nat.le_refl _) _ _ _)
    · have hyp : 0 < xs.length := List.length_pos_iff.2 hx0
      have hc : 1 < cv := by omega
      have HT : Hid (HoldsS w1 (.slice (some ⟨B, o + 1, none⟩) xs.length (cv - 1)) xs) := Lib.hid (HST.out.tail hc)
      have HFE := Lib.hid (ref_fields w1 _ xs HT.out (by omega) (fun y hy => by have := HXS.out y hy; omega))
      obtain ⟨fs, hfs⟩ : ∃ fs, fldL xs = fs := ⟨_, rfl⟩
      have hfl : fs.length ≤ 16 := by rw [← hfs]; unfold fldL; rw [List.length_map]; omega
      have hgl : (getS fs clen).length ≤ 256 := by rw [← hfs]; exact getS_len xs clen HXS.out
      have HTL : Hid (restF (fldL (x :: xs).tail) = restF fs) := Lib.hid (by rw [List.tail_cons, hfs])
      have HFS := Lib.hid hfs
      rw [hfs] at HSp HCN
      clear hfs hx0
      go_wp2_with fail
      refine HFE.out.mono ?_
      rintro e w3 ⟨v3, rfl, ⟨a3, c3, n3, rfl⟩, hf3, hb3⟩
      have HB3 := Lib.hid (bstep HB1.out hb3)
      have HF3 := Lib.hid hf3
      clear hf3 hb3
      by_cases h2 : fldE xs = 0
      case neg =>
        have HV : Hid (takE s most = fldE xs ∧ fldE xs ≠ 0) := Lib.hid ⟨(hh2.out _).2 (by rw [HSp.out, if_pos h2, if_pos h2]), h2⟩
        have tz : ((fldE xs : Int) != 0) = true := by rw [bne_iff_ne]; omega
        obtain ⟨d0, d1, d2, g0, g1, g2⟩ := three_facts (res3 HB3.out)
        clear h2
        go_wp2_with fail
        refine ret_cell3 (A := ⟨w.heap.size, 0, none⟩) rfl (load_rrep _ _ _ _ _ _ (three_set (res3 HB3.out) _ _ _)) rfl rfl rfl rfl ?_
        exact rparse_bad s most _ HV.out.1 HV.out.2 w _ (three_below (bstep HB0.out HB3.out) _ (Nat.le_refl _) _ _ _)
      have HF : Hid (HoldsF w3 (.slice a3 n3 c3) fs) := Lib.hid (by have := HF3.out h2; rwa [HFS.out] at this)
      rw [h2, if_neg (by simp)] at HSp
      rw [h2]
      have HG := Lib.hid (get_rk _ fs ⟨#[99, 111, 110, 116, 101, 110, 116, 45, 108, 101, 110, 103, 116, 104]⟩ clen rfl _ HF.out (by omega))
      clear h2 HF3
      go_wp2_with fail
      refine HG.out.mono ?_
      rintro e w4 ⟨rfl, hww⟩
      obtain rfl := hww.symm
      by_cases h3 : getE fs clen = 0
      case neg =>
        have HV : Hid (takE s most = getE fs clen ∧ getE fs clen ≠ 0) := Lib.hid ⟨(hh2.out _).2 (by rw [HSp.out, if_pos h3, if_pos h3]), h3⟩
        have tz : ((getE fs clen : Int) != 0) = true := by rw [bne_iff_ne]; omega
        obtain ⟨d0, d1, d2, g0, g1, g2⟩ := three_facts (res3 HB3.out)
        clear h3
        go_wp2_with fail
        refine ret_cell3 (A := ⟨w.heap.size, 0, none⟩) rfl (load_rrep _ _ _ _ _ _ (three_set (res3 HB3.out) _ _ _)) rfl rfl rfl rfl ?_
        exact rparse_bad s most _ HV.out.1 HV.out.2 w _ (three_below (bstep HB0.out HB3.out) _ (Nat.le_refl _) _ _ _)
      rw [h3, if_neg (by simp)] at HSp
      rw [h3]
      have HN := Lib.hid (fun w => ref_number (bs (getS fs clen)) w (by rw [bs_size]; omega))
      rw [bs_data] at HN
      clear h3 HG
      go_wp2_with fail
      refine (HN.out _).mono ?_
      rintro e w4 ⟨rfl, hww⟩
      obtain rfl := hww.symm
      by_cases h4 : numE (getS fs clen) = 0
      case neg =>
        have HV : Hid (takE s most = numE (getS fs clen) ∧ numE (getS fs clen) ≠ 0) := Lib.hid ⟨(hh2.out _).2 (by rw [HSp.out, if_pos h4]), h4⟩
        have tz : ((numE (getS fs clen) : Int) != 0) = true := by rw [bne_iff_ne]; omega
        obtain ⟨d0, d1, d2, g0, g1, g2⟩ := three_facts (res3 HB3.out)
        clear h4
        go_wp2_with fail
        refine ret_cell3 (A := ⟨w.heap.size, 0, none⟩) rfl (load_rrep _ _ _ _ _ _ (three_set (res3 HB3.out) _ _ _)) rfl rfl rfl rfl ?_
        exact rparse_bad s most _ HV.out.1 HV.out.2 w _ (three_below (bstep HB0.out HB3.out) _ (Nat.le_refl _) _ _ _)
      have HZ : Hid (hdE (x :: xs) = 0) := Lib.hid (by rw [HSp.out]; exact h4)
      rw [h4]
      obtain ⟨N, hN⟩ : ∃ N, numV (getS fs clen) = N := ⟨_, rfl⟩
      rw [hN] at HCN ⊢
      obtain ⟨d0, d1, d2, g0, g1, g2⟩ := three_facts (res3 HB3.out)
      clear h4 hN HN HSp
      by_cases hm : most < (N : Int)
      · have HV : Hid (takE s most = 5) := Lib.hid ((hh2.out 5).2 (by rw [if_neg (by rw [HZ.out]; simp), HCN.out.2, if_pos hm]))
        have tm : decide ((N : Int) > most) = true := decide_eq_true (by omega)
        clear hm
        go_wp2_with fail
        refine ret_cell3 (A := ⟨w.heap.size, 0, none⟩) rfl (load_rrep _ _ _ _ _ _ (three_set (res3 HB3.out) _ _ _)) rfl rfl rfl rfl ?_
        exact rparse_bad s most 5 HV.out (by decide) w _ (three_below (bstep HB0.out HB3.out) _ (Nat.le_refl _) _ _ _)
      have tm : decide ((N : Int) > most) = false := decide_eq_false (by omega)
      have tw : IntKind.i64.wrap ((s.size : Int) - (nx : Int)) = (s.size : Int) - (nx : Int) := by rw [IntKind.wrap_i64]; omega
      by_cases hsh : (s.size : Int) - (nx : Int) < (N : Int)
      · have HV : Hid (takE s most = 3) := Lib.hid ((hh2.out 3).2 (by rw [if_neg (by rw [HZ.out]; simp), HCN.out.2, if_neg hm, if_pos hsh]))
        have ts : decide ((s.size : Int) - (nx : Int) < (N : Int)) = true := decide_eq_true hsh
        clear hm hsh
        go_wp2_with fail
        refine ret_cell3 (A := ⟨w.heap.size, 0, none⟩) rfl (load_rrep _ _ _ _ _ _ (three_set (res3 HB3.out) _ _ _)) rfl rfl rfl rfl ?_
        exact rparse_bad s most 3 HV.out (by decide) w _ (three_below (bstep HB0.out HB3.out) _ (Nat.le_refl _) _ _ _)
      have hz : takE s most = 0 := (hh2.out 0).2 (by rw [if_neg (by rw [HZ.out]; simp), HCN.out.2, if_neg hm, if_neg hsh])
      have HV : Hid (takE s most = 0 ∧ takC s most = C ∧ takF s most = restF fs ∧ takN s most = (nx : Int) + (N : Int) ∧ bs (takB s most) = s.extract nx (nx + N)) := Lib.hid ⟨hz, by unfold takC; rw [if_pos hz, HHd.out]; exact HCN.out.1, by unfold takF; rw [if_pos hz, HHd.out]; exact HTL.out, by unfold takN; rw [if_pos hz, HHd.out]; exact congrArg (fun q : Nat => (nx : Int) + (q : Int)) HCN.out.2, by
        unfold takB; rw [if_pos hz, HHd.out, extract_bs]
        show bs ((s.data.toList.take ((nx : Int).toNat + hdN (x :: xs))).drop (nx : Int).toNat) = _
        rw [HCN.out.2, Int.toNat_natCast]⟩
      have ts : decide ((s.size : Int) - (nx : Int) < (N : Int)) = false := decide_eq_false hsh
      have ta : IntKind.i64.wrap ((nx : Int) + (N : Int)) = (nx : Int) + (N : Int) := by rw [IntKind.wrap_i64]; omega
      have hle : nx + N ≤ s.size := by omega
      have hle2 : (nx : Int) + (N : Int) ≤ (s.size : Int) := by omega
      have hf := HF.out
      obtain ⟨aa, cc, hfe, hfc, hfx⟩ := hf
      injection hfe with q1 q2 q3
      subst q1 q2 q3
      have HX := Lib.hid hfx
      clear hm hsh hz hfx d0 d1 d2 g0 g1 g2 HT HST hBl
      go_wp2_with fail
      have hR0 : RqB (w3.alloc (.cells #[.int .i64 C, .slice none 0 0, .string (s.extract nx (nx + N))] 79)) w3.heap.size (.int .i64 C) (.slice none 0 0) (.string (s.extract nx (nx + N))) := heap_alloc_new w3 _
      have hW0 : (w3.alloc (.cells #[.int .i64 C, .slice none 0 0, .string (s.extract nx (nx + N))] 79)).heap.size = w3.heap.size + 1 := by simp
      have hA0 := (Below.refl w3.heap.size w3).alloc (Nat.le_refl _) (.cells #[.int .i64 C, .slice none 0 0, .string (s.extract nx (nx + N))] 79)
      generalize w3.alloc (.cells #[.int .i64 C, .slice none 0 0, .string (s.extract nx (nx + N))] 79) = W0 at hR0 hW0 hA0 ⊢
      obtain ⟨BD, hBD⟩ : ∃ BD, s.extract nx (nx + N) = BD := ⟨_, rfl⟩
      rw [hBD] at hR0 HV
      have hsz3 : w.heap.size < w3.heap.size := by have := HB3.out.size; simp at this; omega
      obtain ⟨R, hRe⟩ : ∃ R, w3.heap.size = R := ⟨_, rfl⟩
      rw [hRe] at hR0 hW0 hsz3
      have HW0 := Lib.hid (And.intro hR0 (And.intro hW0 hA0))
      have HRE := Lib.hid hRe
      rw [hRe]
      clear hR0 hA0 hBD hRe
      have hR0l : R < W0.heap.size := by omega
      have HW0s := Lib.hid hW0
      clear hW0
      go_loopg [15] fs.length (fun gk s15 wr => ∃ (k : Nat) (fv : Value), s15 = .int .i64 (k : Int) ∧ k + gk = fs.length ∧ Hid (RqB wr R (.int .i64 C) fv (.string BD)) ∧ Hid (wr.ownsRow W0.heap.size 139 2 fv (restF (fs.take k)).length (fcells (restF (fs.take k)))) ∧ Hid (W0.grownBy wr (some R)))
      case atStart => exact ⟨0, _, by simp, by omega, Lib.hid HW0.out.1, Lib.hid (by rw [List.take_zero]; exact World.ownsRow_nil _ _ _ _), Lib.hid (GR.refl _ _)⟩
      case round =>
        obtain ⟨k, fv, rfl, hgk, HRr, HOr, HGr⟩ := hrel
        obtain ⟨avv, cvv, rfl⟩ := own_fslice HOr.out
        have hRl := HRr.out.lt
        obtain ⟨r0, r1, r2, -, f1, -⟩ := three_facts HRr.out
        by_cases hk : k < fs.length
        · obtain ⟨g', rfl⟩ : ∃ g', gk = g' + 1 := ⟨gk - 1, by omega⟩
          have hkI : decide ((k : Int) < (fs.length : Int)) = true := decide_eq_true (by omega)
          have hkI2 : (k : Int) < (fs.length : Int) := by omega
          obtain ⟨bb, o', rfl, hbl, hcell⟩ := HX.out (fun e => by rw [e] at hk; exact absurd hk (Nat.not_lt_zero _))
          have HBR : Hid (Below R W0 wr) := Lib.hid (HGr.out.toBelow (Nat.le_of_lt hR0l))
          have hbR : bb < R := by have := HRE.out; omega
          have c0 := (HBR.out.cell (p := ⟨bb, o' + k * 2, none⟩) hbR).trans ((HW0.out.2.2.cell (p := ⟨bb, o' + k * 2, none⟩) hbl).trans (hcell k hk).1)
          have c1 := (HBR.out.cell (p := ⟨bb, o' + k * 2 + 1, none⟩) hbR).trans ((HW0.out.2.2.cell (p := ⟨bb, o' + k * 2 + 1, none⟩) hbl).trans (hcell k hk).2)
          have HTk := Lib.hid (restF_take fs k hk)
          obtain ⟨y, hy⟩ : ∃ y, fs[k] = y := ⟨_, rfl⟩
          rw [hy] at c0 c1 HTk
          have hcmp := bs_lit y.1 [99, 111, 110, 116, 101, 110, 116, 45, 108, 101, 110, 103, 116, 104]
          have hkl : Hid ((restF (fs.take k)).length < 2147483648) := Lib.hid (by have := restF_len (fs.take k); rw [List.length_take] at this; omega)
          obtain ⟨rk, hrk⟩ : ∃ rk, restF (fs.take k) = rk := ⟨_, rfl⟩
          rw [hrk] at HOr HTk hkl HRr r1
          clear hcell hy hrk
          by_cases hnm : y.1 = clen
          · have HTS : Hid (restF (fs.take (k + 1)) = rk) := Lib.hid (by rw [HTk.out, if_pos hnm, List.append_nil])
            rw [decide_eq_true (show y.1 = [99, 111, 110, 116, 101, 110, 116, 45, 108, 101, 110, 103, 116, 104] from hnm)] at hcmp
            have hcmp2 : ((bs y.1).toList != [99, 111, 110, 116, 101, 110, 116, 45, 108, 101, 110, 103, 116, 104]) = false := by unfold bne; rw [hcmp]; rfl
            clear hnm
            go_wp2_with fail
            go_roundg g'
            case measure => omega
            case rel => exact ⟨k + 1, _, by simp, by omega, HRr, by rw [HTS.out]; exact HOr, HGr⟩
          · have HTS : Hid (restF (fs.take (k + 1)) = rk ++ [y]) := Lib.hid (by rw [HTk.out, if_neg hnm])
            rw [decide_eq_false (show ¬ y.1 = [99, 111, 110, 116, 101, 110, 116, 45, 108, 101, 110, 103, 116, 104] from hnm)] at hcmp
            have hcmp2 : ((bs y.1).toList != [99, 111, 110, 116, 101, 110, 116, 45, 108, 101, 110, 103, 116, 104]) = true := by unfold bne; rw [hcmp]; rfl
            clear hnm
            go_wp2_with fail
            go_region_law (refine step_appQ W0 rfl hR0l _ rfl _ _ rfl HRr.out HOr.out HGr.out rfl hkl.out ?_ wr.heap.size y ?_ rfl ?_; exact ((Below.refl _ _).alloc (Nat.le_refl _) _).drew; exact heap_alloc_new wr _; intro g cap w4 hown4 hc4 hf4 haf)
            all_goals
              go_wp2_with fail
              go_roundg g'
              case measure => omega
              case rel =>
                refine ⟨k + 1, _, by simp, by omega, Lib.hid (haf.1.set1 _), Lib.hid ?_, Lib.hid (haf.2.set 1 _)⟩
                rw [HTS.out]; exact ownsRow_setCell_below hown4 (a := ⟨R, 1, none⟩) hR0l _
        · obtain rfl : k = fs.length := by omega
          have hkI : decide ((fs.length : Int) < (fs.length : Int)) = false := decide_eq_false (by omega)
          have HBR : Hid (Below R W0 wr) := Lib.hid (HGr.out.toBelow (Nat.le_of_lt hR0l))
          have HBW : Hid (Below w3.heap.size w3 wr) := Lib.hid (by have h1 := HW0.out.2.2; have h2 := HBR.out; rw [← HRE.out] at h2; exact h1.trans h2)
          have HRES : Hid (wr.heap[w.heap.size]? = some (.cells #[.int .i64 0, .slice none 0 0, .string ⟨#[]⟩] 79 (0, 0))) := Lib.hid (by
            have hl : w.heap.size < w3.heap.size := by rw [HRE.out]; exact hsz3
            exact (HBW.out.block w.heap.size hl).trans (res3 HB3.out))
          obtain ⟨d0, d1, d2, g0, g1, g2⟩ := three_facts HRES.out
          have hFl : Hid ((restF (fs.take fs.length)) = restF fs) := Lib.hid (by rw [List.take_length])
          rw [hFl.out] at HOr HRr r1
          obtain ⟨rk, hrk⟩ : ∃ rk, restF fs = rk := ⟨_, rfl⟩
          rw [hrk] at HOr HRr r1 HV
          clear hrk hFl
          go_wp2_with fail
          refine ret_cell3 (A := ⟨w.heap.size, 0, none⟩) rfl (load_rrep _ _ _ _ _ _ (three_set HRES.out _ _ _)) rfl rfl rfl rfl ?_
          refine rparse_good s most HV.out.1 w _ _ ?_ (three_below (bstep HB0.out (HB3.out.trans (HBW.out.mono HB3.out.size))) _ (Nat.le_refl _) _ _ _) _ _ _ HV.out.2.1 HV.out.2.2.2.1 HV.out.2.2.2.2
          rw [HV.out.2.2.1]
          have hl : w.heap.size < W0.heap.size := by omega
          exact ⟨_, (ownsRow_setCell_below (ownsRow_setCell_below (ownsRow_setCell_below HOr.out (a := ⟨w.heap.size, 0, none⟩) hl _) (a := ⟨w.heap.size, 1, none⟩) hl _) (a := ⟨w.heap.size, 2, none⟩) hl _)⟩
end Go.Proofs.YtbdmmgmcbecolaaGreatDoor
namespace Go.Proofs.YtbdmmgmcbecolaaGreatDoor
open Go.RowKit
end Go.Proofs.YtbdmmgmcbecolaaGreatDoor
