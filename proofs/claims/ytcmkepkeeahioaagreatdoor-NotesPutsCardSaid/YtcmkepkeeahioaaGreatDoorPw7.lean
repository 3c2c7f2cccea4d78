/- What Light of the document's notes returns. What Own of the law on notes returns. What Own of the law on notes returns: objects, and all (printed by wip/genown2.py). What equal of the law on notes returns (printed by wip/genequal.py). What Bytes and Rune of the reference of jtext return. What Rune and Count of the reference of jtext return. -/
import Derived.Test.YtcmkepkeeahioaaGreatDoorPw6
import Derived.Deep.LoopGhost
import Derived.OpenShut
import Derived.OrdersHeld
set_option linter.unusedVariables false
set_option linter.unusedSimpArgs false
namespace Go.Proofs.YtcmkepkeeahioaaGreatDoor
open Go.RowKit
/-- the cells of one node -/
theorem five_new (w : World) (x0 x1 x2 x3 x4 : Value) (t : TypeId) : w.heap.size < (w.alloc (.cells #[x0, x1, x2, x3, x4] t)).heap.size ∧ (w.alloc (.cells #[x0, x1, x2, x3, x4] t)).cell? ⟨w.heap.size, 0, none⟩ = some x0 ∧ (w.alloc (.cells #[x0, x1, x2, x3, x4] t)).cell? ⟨w.heap.size, 1, none⟩ = some x1 ∧ (w.alloc (.cells #[x0, x1, x2, x3, x4] t)).cell? ⟨w.heap.size, 2, none⟩ = some x2 ∧ (w.alloc (.cells #[x0, x1, x2, x3, x4] t)).cell? ⟨w.heap.size, 3, none⟩ = some x3 ∧ (w.alloc (.cells #[x0, x1, x2, x3, x4] t)).cell? ⟨w.heap.size, 4, none⟩ = some x4 := by
  have h := heap_alloc_new w (.cells #[x0, x1, x2, x3, x4] t)
  refine ⟨by simp, ?_, ?_, ?_, ?_, ?_⟩ <;> (unfold World.cell?; rw [h]; rfl)
theorem below_five (w : World) (x0 x1 x2 x3 x4 : Value) (t : TypeId) : Below w.heap.size w (w.alloc (.cells #[x0, x1, x2, x3, x4] t)) := (Below.refl _ _).alloc (Nat.le_refl _) _
/-- a node's cells in its own block, in a world behind -/
structure NB (w W : World) (x0 x1 x2 x3 x4 : Value) : Prop where
  b : Below w.heap.size w W
  lt : w.heap.size < W.heap.size
  c0 : W.cell? ⟨w.heap.size, 0, none⟩ = some x0
  c1 : W.cell? ⟨w.heap.size, 1, none⟩ = some x1
  c2 : W.cell? ⟨w.heap.size, 2, none⟩ = some x2
  c3 : W.cell? ⟨w.heap.size, 3, none⟩ = some x3
  c4 : W.cell? ⟨w.heap.size, 4, none⟩ = some x4
theorem NB.new (w : World) (x0 x1 x2 x3 x4 : Value) (t : TypeId) : NB w (w.alloc (.cells #[x0, x1, x2, x3, x4] t)) x0 x1 x2 x3 x4 := by
  obtain ⟨h1, h2, h3, h4, h5, h6⟩ := five_new w x0 x1 x2 x3 x4 t
  exact ⟨below_five _ _ _ _ _ _ _, h1, h2, h3, h4, h5, h6⟩
theorem NB.below {w W W' : World} {x0 x1 x2 x3 x4 : Value} (h : NB w W x0 x1 x2 x3 x4) (hb : Below W.heap.size W W') : NB w W' x0 x1 x2 x3 x4 :=
  ⟨bstep h.b hb, Nat.lt_of_lt_of_le h.lt hb.size, (hb.cell (p := ⟨w.heap.size, 0, none⟩) h.lt).trans h.c0, (hb.cell (p := ⟨w.heap.size, 1, none⟩) h.lt).trans h.c1, (hb.cell (p := ⟨w.heap.size, 2, none⟩) h.lt).trans h.c2, (hb.cell (p := ⟨w.heap.size, 3, none⟩) h.lt).trans h.c3, (hb.cell (p := ⟨w.heap.size, 4, none⟩) h.lt).trans h.c4⟩
theorem sizeN_mem : ∀ (l : List ND) (v : ND), v ∈ l → sizeN v ≤ sizeL l
  | [], v, h => by cases h
  | a :: t, v, h => by
    rw [sizeL]
    rcases List.mem_cons.1 h with rfl | h2
    · omega
    · have := sizeN_mem t v h2; omega
theorem weighL_drop (kids : List ND) (i : Nat) (hk : i < kids.length) (left : Int) : weighL (kids.drop i) left = if weighN kids[i] left < 0 then -1 else weighL (kids.drop (i + 1)) (weighN kids[i] left) := by
  rw [List.drop_eq_getElem_cons hk, weighL]
set_option maxRecDepth 100000 in
set_option maxHeartbeats 2000000 in
theorem ref_weigh (m : Nat) : ∀ (v : ND) (left : Int) (x0 x1 x2 x3 x4 : Value) (w : World), sizeN v ≤ m → NAt w v x0 x1 x2 x3 x4 → wfN v → left ≤ 1000000 → -1 ≤ left →
    Calls Tryz.prog 22 #[.agg #[x0, x1, x2, x3, x4], .int .i64 left] w fun e w' => e = .returned (.int .i64 (weighN v left)) ∧ Below w.heap.size w w' := by
  induction m with
  | zero =>
    intro v left x0 x1 x2 x3 x4 w hm
    cases v with
    | mk k n s names kids => rw [sizeN] at hm; omega
  | succ m ih =>
    intro v left x0 x1 x2 x3 x4 w hm hv hwf hl1 hl0
    cases v with
    | mk k n s names kids =>
    obtain ⟨A, hA⟩ : ∃ A, weighN (.mk k n s names kids) left = A := ⟨_, rfl⟩
    rw [hA]
    rw [weighN] at hA
    rw [sizeN] at hm
    rw [NAt] at hv
    rw [wfN] at hwf
    obtain ⟨e0, e1, e2, ⟨an, cn, e3, hcn, hn⟩, ak, ck, e4, hck, hk⟩ := hv
    obtain ⟨f1, f2, f3, f4, f5, f6, f7⟩ := hwf
    unfold maxLen at f3 f5 f6
    obtain ⟨N, hN⟩ : ∃ N, names.length = N := ⟨_, rfl⟩
    obtain ⟨K, hK⟩ : ∃ K, kids.length = K := ⟨_, rfl⟩
    rw [hN] at e3 hA f5
    rw [hK] at e4 hA f6
    subst e0 e1 e2 e3 e4
    have hNB := NB.new w (.int .u8 k) (.int .i64 n) (.string s) (.slice an N cn) (.slice ak K ck) 25
    have HF7 := Lib.hid f7
    have HK := Lib.hid hk
    have HN := Lib.hid hn
    have HNB := Lib.hid hNB
    have HNN := Lib.hid hN
    have HKK := Lib.hid hK
    have IH := Lib.hid (fun (u : ND) (hu : u ∈ kids) left x0 x1 x2 x3 x4 w => ih u left x0 x1 x2 x3 x4 w (by have := sizeN_mem kids u hu; omega))
    obtain ⟨b0, lt0, c0, c1, c2, c3, c4⟩ := hNB
    clear hk hn ih f4 f7 hm b0 hcn hck f1 f2 hN hK
    by_cases q1 : left < 1
    · rw [if_pos (.inl q1)] at hA
      have t1 : decide (left < 1) = true := decide_eq_true q1
      have HA := Lib.hid hA
      clear hA
      go_enter Tryz.func22, Tryz.ntmps22
      go_wp2_with fail
      go_ret
      exact ⟨ret_int HA.out, HNB.out.b⟩
    have t1 : decide (left < 1) = false := decide_eq_false q1
    by_cases q2 : 300 < s.size
    · rw [if_pos (.inr (.inl q2))] at hA
      have t2 : decide ((s.size : Int) > 300) = true := decide_eq_true (by omega)
      have HA := Lib.hid hA
      clear hA
      go_enter Tryz.func22, Tryz.ntmps22
      go_wp2_with fail
      go_ret
      exact ⟨ret_int HA.out, HNB.out.b⟩
    have t2 : decide ((s.size : Int) > 300) = false := decide_eq_false (by omega)
    by_cases q3 : k = 6 ∧ N ≠ K
    · rw [if_pos (.inr (.inr (.inl q3)))] at hA
      have t3 : (k == 6) = true := by rw [beq_iff_eq]; exact q3.1
      have t4 : ((N : Int) != (K : Int)) = true := by rw [bne_iff_ne]; have := q3.2; omega
      have HA := Lib.hid hA
      clear hA q3
      go_enter Tryz.func22, Tryz.ntmps22
      go_wp2_with fail
      go_ret
      exact ⟨ret_int HA.out, HNB.out.b⟩
    by_cases q5 : n < -4611686018427387904
    · rw [if_pos (.inr (.inr (.inr q5)))] at hA
      have t5 : decide (n < -4611686018427387904) = true := decide_eq_true q5
      have HA := Lib.hid hA
      clear hA
      by_cases q4 : k = 6
      · have t3 : (k == 6) = true := by rw [beq_iff_eq]; exact q4
        have t4 : ((N : Int) != (K : Int)) = false := by
          rw [bne_eq_false_iff_eq]; have : N = K := Classical.byContradiction fun e => q3 ⟨q4, e⟩
          omega
        clear q3 q4
        go_enter Tryz.func22, Tryz.ntmps22
        go_wp2_with fail
        go_ret
        exact ⟨ret_int HA.out, HNB.out.b⟩
      · have t3 : (k == 6) = false := by rw [beq_eq_false_iff_ne]; exact q4
        clear q3 q4
        go_enter Tryz.func22, Tryz.ntmps22
        go_wp2_with fail
        go_ret
        exact ⟨ret_int HA.out, HNB.out.b⟩
    rw [if_neg (show ¬ (left < 1 ∨ 300 < s.size ∨ (k = 6 ∧ N ≠ K) ∨ n < -4611686018427387904) from fun h => h.elim q1 fun h => h.elim q2 fun h => h.elim q3 q5)] at hA
    have t5 : decide (n < -4611686018427387904) = false := decide_eq_false q5
    have HAA := Lib.hid hA
    clear hA
    by_cases q4 : k = 6
    case' pos =>
      have t3 : (k == 6) = true := by rw [beq_iff_eq]; exact q4
      have t4 : ((N : Int) != (K : Int)) = false := by
        rw [bne_eq_false_iff_eq]; have : N = K := Classical.byContradiction fun e => q3 ⟨q4, e⟩
        omega
    case' neg =>
      have t3 : (k == 6) = false := by rw [beq_eq_false_iff_ne]; exact q4
    all_goals
      clear q3 q4 q5 q2
      have tw : IntKind.i64.wrap (left - 1) = left - 1 := by rw [IntKind.wrap_i64]; omega
      go_enter Tryz.func22, Tryz.ntmps22
      go_wp2_with fail
      go_loopg [5] N (fun gk s5 wx => ∃ i : Nat, s5 = .int .i64 (i : Int) ∧ wx = w.alloc (.cells #[.int .u8 k, .int .i64 n, .string s, .slice an N cn, .slice ak K ck] 25) ∧ i + gk = N ∧ Hid (∀ j (hj : j < names.length), j < i → names[j].size ≤ 300))
      case atStart => exact ⟨0, by simp, rfl, by omega, Lib.hid (fun j hj h => absurd h (Nat.not_lt_zero _))⟩
      case round =>
        obtain ⟨i, rfl, rfl, hgk, HI⟩ := hrel
        by_cases hi : i < N
        · have ti : decide ((i : Int) < (N : Int)) = true := decide_eq_true (by omega)
          have hin : i < names.length := by rw [HNN.out]; exact hi
          obtain ⟨b, o, rfl, hbl, hcell⟩ := HN.out (fun e => by rw [e] at hin; exact absurd hin (Nat.not_lt_zero _))
          have ci := (HNB.out.b.cell (p := ⟨b, o + i, none⟩) hbl).trans (hcell i hin)
          obtain ⟨X, hX⟩ : ∃ X, names[i] = X := ⟨_, rfl⟩
          rw [hX] at ci
          clear hcell
          by_cases hx : 300 < X.size
          · have tx : decide ((X.size : Int) > 300) = true := decide_eq_true (by omega)
            have HA : Hid (-1 = A) := Lib.hid (by
              rw [← HAA.out, if_pos (List.any_eq_true.2 ⟨names[i], List.getElem_mem hin, by rw [hX]; exact decide_eq_true hx⟩)])
            clear hX hx
            go_wp2_with fail
            go_ret
            exact ⟨ret_int HA.out, HNB.out.b⟩
          · have tx : decide ((X.size : Int) > 300) = false := decide_eq_false (by omega)
            obtain ⟨g', rfl⟩ : ∃ g', gk = g' + 1 := ⟨gk - 1, by omega⟩
            have HI2 : Hid (∀ j (hj : j < names.length), j < i + 1 → names[j].size ≤ 300) := Lib.hid (fun j hj h => by
              by_cases e : j = i
              · subst e; rw [hX]; omega
              · exact HI.out j hj (by omega))
            clear hX hx HI
            go_wp2_with fail
            go_roundg g'
            case measure => omega
            case rel => exact ⟨i + 1, by simp, rfl, by omega, HI2⟩
        · have ti : decide ((i : Int) < (N : Int)) = false := decide_eq_false (by omega)
          have hiN : i = N := by omega
          have HA2 : Hid (weighL kids (left - 1) = A) := Lib.hid (by
            rw [← HAA.out, if_neg]
            intro h
            obtain ⟨x, hx, h2⟩ := List.any_eq_true.1 h
            obtain ⟨j, hj, rfl⟩ := List.getElem_of_mem hx
            have := HI.out j hj (by rw [hiN, ← HNN.out]; exact hj)
            have h3 := of_decide_eq_true h2
            omega)
          clear HI HAA hiN
          go_wp2_with fail
          go_loopg [1, 6] K (fun gk s1 s6 wx => ∃ (i : Nat) (lf : Int), s1 = .int .i64 lf ∧ s6 = .int .i64 (i : Int) ∧ i + gk = K ∧ lf ≤ 1000000 ∧ -1 ≤ lf ∧ Hid (NB w wx (.int .u8 k) (.int .i64 n) (.string s) (.slice an N cn) (.slice ak K ck)) ∧ Hid (weighL (kids.drop i) lf = A))
          case atStart => exact ⟨0, left - 1, by simp, by simp, by omega, by omega, by omega, HNB, HA2⟩
          case round =>
            obtain ⟨i2, lf, rfl, rfl, hgk2, hlf1, hlf0, HNB2, HW⟩ := hrel
            obtain ⟨-, lt2, c0, c1, c2, c3, c4⟩ := HNB2.out
            by_cases hi2 : i2 < K
            · have ti2 : decide ((i2 : Int) < (K : Int)) = true := decide_eq_true (by omega)
              have hik : i2 < kids.length := by rw [HKK.out]; exact hi2
              obtain ⟨b, o, rfl, hbl, hcell⟩ := HK.out (fun e => by rw [e] at hik; exact absurd hik (Nat.not_lt_zero _))
              obtain ⟨y0, y1, y2, y3, y4, ⟨d0, d1, d2, d3, d4⟩, hat⟩ := hcell.get o kids i2 hik
              have e0 := (HNB2.out.b.cell (p := ⟨b, o + i2 * 5, none⟩) hbl).trans d0
              have e1 := (HNB2.out.b.cell (p := ⟨b, o + i2 * 5 + 1, none⟩) hbl).trans d1
              have e2 := (HNB2.out.b.cell (p := ⟨b, o + i2 * 5 + 2, none⟩) hbl).trans d2
              have e3 := (HNB2.out.b.cell (p := ⟨b, o + i2 * 5 + 3, none⟩) hbl).trans d3
              have e4 := (HNB2.out.b.cell (p := ⟨b, o + i2 * 5 + 4, none⟩) hbl).trans d4
              have hst := weighL_drop kids i2 hik lf
              rw [HW.out] at hst
              have hle := weigh_le kids[i2] lf
              have HC := Lib.hid (IH.out kids[i2] (List.getElem_mem hik) lf y0 y1 y2 y3 y4 wr (hat.below HNB2.out.b) (wfL_mem kids HF7.out _ (List.getElem_mem hik)) hlf1 hlf0)
              generalize weighN kids[i2] lf = R at hst HC hle
              have HST := Lib.hid hst
              clear hst d0 d1 d2 d3 d4 hat hcell HW
              go_wp2_with fail
              refine HC.out.mono ?_
              rintro e w3 ⟨rfl, hb3⟩
              have HNB3 := Lib.hid (HNB2.out.below hb3)
              clear hb3
              by_cases hneg : R < 0
              · have tn : decide (R < 0) = true := decide_eq_true hneg
                have HR : Hid (-1 = A) := Lib.hid (by rw [HST.out, if_pos hneg])
                clear HST hneg hle
                go_wp2_with fail
                go_ret
                exact ⟨ret_int HR.out, HNB3.out.b⟩
              · have tn : decide (R < 0) = false := decide_eq_false hneg
                have HR : Hid (weighL (kids.drop (i2 + 1)) R = A) := Lib.hid (by rw [HST.out, if_neg hneg])
                obtain ⟨g', rfl⟩ : ∃ g', gk = g' + 1 := ⟨gk - 1, by omega⟩
                clear HST
                go_wp2_with fail
                go_roundg g'
                case measure => omega
                case rel => exact ⟨i2 + 1, R, by simp, by simp, by omega, by omega, by omega, HNB3, HR⟩
            · have ti2 : decide ((i2 : Int) < (K : Int)) = false := decide_eq_false (by omega)
              have HR : Hid (lf = A) := Lib.hid (by rw [← HW.out, List.drop_eq_nil_of_le (by rw [HKK.out]; omega), weighL])
              clear HW
              go_wp2_with fail
              go_ret
              exact ⟨ret_int HR.out, HNB2.out.b⟩
set_option maxRecDepth 100000 in
theorem ref_light (v : ND) (x0 x1 x2 x3 x4 : Value) (most : Int) (w : World) (hv : NAt w v x0 x1 x2 x3 x4) (hwf : wfN v) (h1 : most ≤ 1000000) (h0 : -1 ≤ most) :
    Calls Tryz.prog 6 #[.agg #[x0, x1, x2, x3, x4], .int .i64 most] w fun e w' => e = .returned (.bool (decide (weighN v most ≥ 0))) ∧ Below w.heap.size w w' := by
  have hNB := NB.new w x0 x1 x2 x3 x4 25
  have HC := Lib.hid (ref_weigh (sizeN v) v most x0 x1 x2 x3 x4 _ (Nat.le_refl _) (hv.below hNB.b) hwf h1 h0)
  obtain ⟨b0, lt0, c0, c1, c2, c3, c4⟩ := hNB
  have HB := Lib.hid b0
  generalize weighN v most = R at HC ⊢
  clear hv b0
  go_enter Tryz.func6, Tryz.ntmps6
  go_wp2_with fail
  refine HC.out.mono ?_
  rintro e w3 ⟨rfl, hb3⟩
  go_wp2_with fail
  go_ret
  exact ⟨rfl, bstep HB.out hb3⟩
end Go.Proofs.YtcmkepkeeahioaaGreatDoor
namespace Go.Proofs.YtcmkepkeeahioaaGreatDoor
open Go.RowKit
/-- what Own leaves -/
def OwnP (v : ND) (w : World) (e : Ending) (w' : World) : Prop := ∃ y S, e = .returned y ∧ AV S w' (valN v) y ∧ (∀ i, S i → w.heap.size ≤ i ∧ i < w'.heap.size) ∧ Below w.heap.size w w'
/-- the row so far -/
def OL (W0 : World) (base : Nat) (W : World) (va : Value) (l : List JV) : Prop := OwnL (fun i => base ≤ i ∧ i < W.heap.size ∧ va.ownBlock ≠ some i) W base va l ∧ Below base W0 W ∧ base ≤ W.heap.size
def OP (W0 : World) (base : Nat) (W : World) (va : Value) (l : List (List UInt8 × JV)) : Prop := OwnO (fun i => base ≤ i ∧ i < W.heap.size ∧ va.ownBlock ≠ some i) W base va l ∧ Below base W0 W ∧ base ≤ W.heap.size
/-- the row behind a call -/
theorem OL.keep {W0 W W' : World} {base : Nat} {va : Value} {l : List JV} (h : OL W0 base W va l) (hb : Below W.heap.size W W') : OL W0 base W' va l := by
  obtain ⟨⟨xs, h1, h2⟩, h3, h4⟩ := h
  exact ⟨OwnL.keep ⟨xs, h1, h2⟩ (fun i hi => ⟨hi.1, Nat.lt_of_lt_of_le hi.2.1 hb.size, hi.2.2⟩) (fun i hi => hb.block i hi.2.1) (fun g hg => hb.block g (h1.lt g hg).2), h3.trans (hb.mono h4), Nat.le_trans h4 hb.size⟩
theorem OP.keep {W0 W W' : World} {base : Nat} {va : Value} {l : List (List UInt8 × JV)} (h : OP W0 base W va l) (hb : Below W.heap.size W W') : OP W0 base W' va l := by
  obtain ⟨⟨xs, h1, h2⟩, h3, h4⟩ := h
  exact ⟨OwnO.keep ⟨xs, h1, h2⟩ (fun i hi => ⟨hi.1, Nat.lt_of_lt_of_le hi.2.1 hb.size, hi.2.2⟩) (fun i hi => hb.block i hi.2.1) (fun g hg => hb.block g (h1.lt g hg).2), h3.trans (hb.mono h4), Nat.le_trans h4 hb.size⟩
theorem grown_low {W0 w3 w5 : World} {base : Nat} {row : Option Nat} (h : Below base W0 w3) (hb : base ≤ w3.heap.size) (hg : w3.grownBy w5 row) (hr : ∀ g, row = some g → base ≤ g) : Below base W0 w5 :=
  ⟨hg.os.trans h.os, hg.tape.trans h.tape, hg.output.trans h.output, Nat.le_trans h.size hg.size, fun i hi => (hg.block i (Nat.lt_of_lt_of_le hi hb) (fun e => absurd (hr i e.symm) (by omega))).trans (h.block i hi)⟩
/-- one value more -/
theorem OL.push {W0 w3 w5 : World} {base g cap : Nat} {va : Value} {l : List JV} {u : JV} {x : Value} {xs : List Value} {S' : Nat → Prop} (h3 : Below base W0 w3) (hbs : base ≤ w3.heap.size)
    (hel : ∀ (j : Nat) (hj : j < l.length), ∃ y, xs[j]? = some y ∧ AV (fun i => base ≤ i ∧ i < w3.heap.size ∧ va.ownBlock ≠ some i) w3 l[j] y) (hrow : w3.ownsRow base 20 1 va l.length xs)
    (hx : AV S' w3 u x) (hS' : ∀ i, S' i → base ≤ i ∧ i < w3.heap.size ∧ va.ownBlock ≠ some i)
    (ho : w5.ownsRow base 20 1 (.slice (some ⟨g, 0, none⟩) (l.length + 1) cap) (l.length + 1) (xs ++ [x])) (hg : w3.grownBy w5 va.ownBlock) (hd : va.ownBlock = some g ∨ w3.heap.size ≤ g) : OL W0 base w5 (.slice (some ⟨g, 0, none⟩) (l.length + 1) cap) (l ++ [u]) := by
  have hk : ∀ i, base ≤ i ∧ i < w3.heap.size ∧ va.ownBlock ≠ some i → w5.heap[i]? = w3.heap[i]? := fun i hi => hg.block i hi.2.1 (fun e => hi.2.2 e.symm)
  refine ⟨?_, grown_low h3 hbs hg (fun i hi => (hrow.lt i hi).1), Nat.le_trans hbs hg.size⟩
  have hsn := OwnL.snoc (S := fun i => base ≤ i ∧ i < w3.heap.size ∧ va.ownBlock ≠ some i) hel (hx.kept hS' (KeptS.refl _ _)) (by have := hrow.1; omega) ho hk
  refine OwnL.keep hsn (fun i hi => ⟨hi.1, Nat.lt_of_lt_of_le hi.2.1 hg.size, fun e => ?_⟩) (fun _ _ => rfl) (fun _ _ => rfl)
  have e' : g = i := by injection e
  rcases hd with h' | h'
  · exact hi.2.2 (e' ▸ h')
  · have := hi.2.1; omega
theorem OP.push {W0 w3 w5 : World} {base g cap : Nat} {va : Value} {l : List (List UInt8 × JV)} {q : List UInt8} {u : JV} {x : Value} {xs : List Value} {S' : Nat → Prop} (h3 : Below base W0 w3) (hbs : base ≤ w3.heap.size)
    (hel : ∀ (j : Nat) (hj : j < l.length), xs[2 * j]? = some (.string (bs l[j].1)) ∧ ∃ y, xs[2 * j + 1]? = some y ∧ AV (fun i => base ≤ i ∧ i < w3.heap.size ∧ va.ownBlock ≠ some i) w3 l[j].2 y) (hrow : w3.ownsRow base 56 2 va l.length xs)
    (hx : AV S' w3 u x) (hS' : ∀ i, S' i → base ≤ i ∧ i < w3.heap.size ∧ va.ownBlock ≠ some i)
    (ho : w5.ownsRow base 56 2 (.slice (some ⟨g, 0, none⟩) (l.length + 1) cap) (l.length + 1) (xs ++ [.string (bs q), x])) (hg : w3.grownBy w5 va.ownBlock) (hd : va.ownBlock = some g ∨ w3.heap.size ≤ g) : OP W0 base w5 (.slice (some ⟨g, 0, none⟩) (l.length + 1) cap) (l ++ [(q, u)]) := by
  have hk : ∀ i, base ≤ i ∧ i < w3.heap.size ∧ va.ownBlock ≠ some i → w5.heap[i]? = w3.heap[i]? := fun i hi => hg.block i hi.2.1 (fun e => hi.2.2 e.symm)
  refine ⟨?_, grown_low h3 hbs hg (fun i hi => (hrow.lt i hi).1), Nat.le_trans hbs hg.size⟩
  have hsn := OwnO.snoc (S := fun i => base ≤ i ∧ i < w3.heap.size ∧ va.ownBlock ≠ some i) hel (hx.kept hS' (KeptS.refl _ _)) (by have := hrow.1; omega) ho hk
  refine OwnO.keep hsn (fun i hi => ⟨hi.1, Nat.lt_of_lt_of_le hi.2.1 hg.size, fun e => ?_⟩) (fun _ _ => rfl) (fun _ _ => rfl)
  have e' : g = i := by injection e
  rcases hd with h' | h'
  · exact hi.2.2 (e' ▸ h')
  · have := hi.2.1; omega
theorem valL_take (kids : List ND) (i : Nat) (hk : i < kids.length) : valL (kids.take (i + 1)) = valL (kids.take i) ++ [valN kids[i]] := by
  have hv : ∀ l : List ND, valL l = l.map valN := by
    intro l
    induction l with
    | nil => rw [valL]; rfl
    | cons a t ih => rw [valL, ih]; rfl
  rw [hv, hv, List.take_succ_eq_append_getElem hk, List.map_append]; rfl
theorem valL_take_len (kids : List ND) (i : Nat) (hk : i ≤ kids.length) : (valL (kids.take i)).length = i := by rw [valL_len, List.length_take]; omega
set_option maxRecDepth 100000 in
set_option maxHeartbeats 2000000 in
/-- a node of no list -/
theorem own_flat (k n : Int) (s : ByteArray) (names : List ByteArray) (kids : List ND) (hk0 : 0 ≤ k) (h5 : k ≠ 5) (h6 : k ≠ 6) (x0 x1 x2 x3 x4 : Value) (w : World) (hv : NAt w (.mk k n s names kids) x0 x1 x2 x3 x4) :
    Calls Tryz.prog 8 #[.agg #[x0, x1, x2, x3, x4]] w (OwnP (.mk k n s names kids) w) := by
  rw [NAt] at hv
  obtain ⟨e0, e1, e2, ⟨an, cn, e3, hcn, hn⟩, ak, ck, e4, hckk, hk⟩ := hv
  obtain ⟨N, hN⟩ : ∃ N, names.length = N := ⟨_, rfl⟩
  obtain ⟨K, hK⟩ : ∃ K, kids.length = K := ⟨_, rfl⟩
  rw [hN] at e3
  rw [hK] at e4
  subst e0 e1 e2 e3 e4
  have hNB := NB.new w (.int .u8 k) (.int .i64 n) (.string s) (.slice an N cn) (.slice ak K ck) 25
  have HNB := Lib.hid hNB
  obtain ⟨b0, lt0, c0, c1, c2, c3, c4⟩ := hNB
  obtain ⟨V, hV⟩ : ∃ V, valN (.mk k n s names kids) = V := ⟨_, rfl⟩
  have HP : Hid (∀ y, AV (fun _ => False) w V y → OwnP (.mk k n s names kids) w (.returned y) (w.alloc (.cells #[.int .u8 k, .int .i64 n, .string s, .slice an N cn, .slice ak K ck] 25))) := Lib.hid (fun y hy => ⟨y, fun _ => False, rfl, by rw [hV]; exact hy.kept (fun _ h => h) (fun i hi => hi.elim), fun i hi => hi.elim, b0⟩)
  rw [valN] at hV
  clear hn hk hcn hckk hN hK b0
  by_cases k0 : k = 0
  · subst k0
    rw [if_pos rfl] at hV
    have HV := Lib.hid hV
    clear hV
    go_enter Tryz.func8, Tryz.ntmps8
    go_wp2_with fail
    go_ret
    exact HP.out _ (by rw [← HV.out, AV]; rfl)
  rw [if_neg k0] at hV
  by_cases k1 : k = 1
  · subst k1
    rw [if_pos rfl] at hV
    have HV := Lib.hid hV
    clear hV k0
    go_enter Tryz.func8, Tryz.ntmps8
    go_wp2_with fail
    go_ret
    exact HP.out _ (by rw [← HV.out, AV]; rfl)
  rw [if_neg k1] at hV
  by_cases k2 : k = 2
  · subst k2
    rw [if_pos rfl] at hV
    have HV := Lib.hid hV
    clear hV k0 k1
    go_enter Tryz.func8, Tryz.ntmps8
    go_wp2_with fail
    go_ret
    exact HP.out _ (by rw [← HV.out, AV]; rfl)
  rw [if_neg k2] at hV
  by_cases k3 : k = 3
  · subst k3
    rw [if_pos rfl] at hV
    have HV := Lib.hid hV
    clear hV k0 k1 k2
    go_enter Tryz.func8, Tryz.ntmps8
    go_wp2_with fail
    go_ret
    exact HP.out _ (by rw [← HV.out, AV]; rfl)
  rw [if_neg k3] at hV
  by_cases k4 : k = 4
  · subst k4
    rw [if_pos rfl] at hV
    have HV := Lib.hid hV
    clear hV k0 k1 k2 k3
    go_enter Tryz.func8, Tryz.ntmps8
    go_wp2_with fail
    go_ret
    exact HP.out _ (by rw [← HV.out, AV, bs_self]; rfl)
  rw [if_neg k4, if_neg h5, if_neg h6] at hV
  have HV := Lib.hid hV
  have t0 : (k == 0) = false := by rw [beq_eq_false_iff_ne]; exact k0
  have t1 : (k == 1) = false := by rw [beq_eq_false_iff_ne]; exact k1
  have t2 : (k == 2) = false := by rw [beq_eq_false_iff_ne]; exact k2
  have t3 : (k == 3) = false := by rw [beq_eq_false_iff_ne]; exact k3
  have t4 : (k == 4) = false := by rw [beq_eq_false_iff_ne]; exact k4
  have t5 : (k == 5) = false := by rw [beq_eq_false_iff_ne]; exact h5
  have t6 : (k == 6) = false := by rw [beq_eq_false_iff_ne]; exact h6
  clear hV k0 k1 k2 k3 k4 h5 h6
  go_enter Tryz.func8, Tryz.ntmps8
  go_wp2_with fail
  go_ret
  exact HP.out _ (by rw [← HV.out, AV]; rfl)
set_option maxRecDepth 100000 in
set_option maxHeartbeats 4000000 in
theorem own_list (n : Int) (s : ByteArray) (names : List ByteArray) (kids : List ND) (hkl : kids.length ≤ 250) (IH : ∀ u ∈ kids, ∀ (x0 x1 x2 x3 x4 : Value) (w : World), NAt w u x0 x1 x2 x3 x4 → Calls Tryz.prog 8 #[.agg #[x0, x1, x2, x3, x4]] w (OwnP u w))
    (x0 x1 x2 x3 x4 : Value) (w : World) (hv : NAt w (.mk 5 n s names kids) x0 x1 x2 x3 x4) :
    Calls Tryz.prog 8 #[.agg #[x0, x1, x2, x3, x4]] w (OwnP (.mk 5 n s names kids) w) := by
  rw [NAt] at hv
  obtain ⟨e0, e1, e2, ⟨an, cn, e3, hcn, hn⟩, ak, ck, e4, hckk, hk⟩ := hv
  obtain ⟨N, hN⟩ : ∃ N, names.length = N := ⟨_, rfl⟩
  obtain ⟨K, hK⟩ : ∃ K, kids.length = K := ⟨_, rfl⟩
  rw [hN] at e3
  rw [hK] at e4 hkl
  subst e0 e1 e2 e3 e4
  have hNB := NB.new w (.int .u8 5) (.int .i64 n) (.string s) (.slice an N cn) (.slice ak K ck) 25
  have HNB := Lib.hid hNB
  have HK := Lib.hid hk
  have HKK := Lib.hid hK
  have HIH := Lib.hid IH
  have HB00 := Lib.hid hNB.b
  obtain ⟨b0, lt0, c0, c1, c2, c3, c4⟩ := hNB
  have HV : Hid (valN (.mk 5 n s names kids) = .lst (valL kids)) := Lib.hid (by rw [valN, if_neg (by decide), if_neg (by decide), if_neg (by decide), if_neg (by decide), if_neg (by decide), if_pos rfl])
  clear hn hk hcn hckk hN hK b0 IH
  obtain ⟨W0, hW0⟩ : ∃ W0, w.alloc (.cells #[.int .u8 5, .int .i64 n, .string s, .slice an N cn, .slice ak K ck] 25) = W0 := ⟨_, rfl⟩
  rw [hW0] at HNB HB00 lt0 c0 c1 c2 c3 c4
  go_enter Tryz.func8, Tryz.ntmps8
  go_wp2_with fail
  try rw [hW0]
  clear hW0
  go_loopg [3, 4] K (fun gk s3 s4 wx => ∃ (i : Nat) (va : Value), va = s3 ∧ s4 = .int .i64 (i : Int) ∧ i + gk = K ∧ Hid (OL W0 W0.heap.size wx va (valL (kids.take i))))
  case atStart => exact ⟨0, _, rfl, by simp, by omega, Lib.hid ⟨by rw [List.take_zero, valL]; exact OwnL.nil _ _ _, Below.refl _ _, Nat.le_refl _⟩⟩
  case round =>
    obtain ⟨i, va, rfl, rfl, hgk, HO⟩ := hrel
    have HN2 := Lib.hid (HNB.out.below HO.out.2.1)
    obtain ⟨-, lt2, c0, c1, c2, c3, c4⟩ := HNB.out.below HO.out.2.1
    by_cases hi : i < K
    · have ti : decide ((i : Int) < (K : Int)) = true := decide_eq_true (by omega)
      have hik : i < kids.length := by rw [HKK.out]; exact hi
      obtain ⟨b, o, rfl, hbl, hcell⟩ := HK.out (fun e => by rw [e] at hik; exact absurd hik (Nat.not_lt_zero _))
      obtain ⟨y0, y1, y2, y3, y4, ⟨d0, d1, d2, d3, d4⟩, hat⟩ := hcell.get o kids i hik
      have e0 := (HN2.out.b.cell (p := ⟨b, o + i * 5, none⟩) hbl).trans d0
      have e1 := (HN2.out.b.cell (p := ⟨b, o + i * 5 + 1, none⟩) hbl).trans d1
      have e2 := (HN2.out.b.cell (p := ⟨b, o + i * 5 + 2, none⟩) hbl).trans d2
      have e3 := (HN2.out.b.cell (p := ⟨b, o + i * 5 + 3, none⟩) hbl).trans d3
      have e4 := (HN2.out.b.cell (p := ⟨b, o + i * 5 + 4, none⟩) hbl).trans d4
      have HC := Lib.hid (HIH.out kids[i] (List.getElem_mem hik) y0 y1 y2 y3 y4 wr (hat.below HN2.out.b))
      have HT := Lib.hid (valL_take kids i hik)
      have HTL := Lib.hid (valL_take_len kids i (Nat.le_of_lt hik))
      generalize kids[i] = u at HC HT
      obtain ⟨g', rfl⟩ : ∃ g', gk = g' + 1 := ⟨gk - 1, by omega⟩
      clear d0 d1 d2 d3 d4 hat hcell
      go_wp2_with fail
      refine HC.out.mono ?_
      rintro e w3 ⟨x, S', rfl, hx, hS', hb3⟩
      have hsh := hx.shape
      have HO3 := Lib.hid (HO.out.keep hb3)
      have HX := Lib.hid (And.intro hx hS')
      have HLT := Lib.hid HO.out.2.2
      obtain ⟨xs, hrow, hel⟩ := HO3.out.1
      have hown0 := HO.out.1
      have HOW : Hid (∀ g, va.ownBlock = some g → g < wr.heap.size) := Lib.hid (by obtain ⟨ys, r1, -⟩ := HO.out.1; exact fun g hg => (r1.lt g hg).2)
      rw [HTL.out] at hrow
      have HEL := Lib.hid hel
      clear hel hx hS' hb3 hown0
      rcases hsh with rfl | ⟨tx, ux, rfl⟩
      all_goals
        go_wp2_with (at_builtin; go_loud (refine append1 57 20 _ 16 Tryz.underlying57 info_any rfl (by decide) w3 _ rfl (by rfl) _ _ (by rfl) W0.heap.size _ i _ (by rfl) hrow (by rfl) (by omega) HO3.out.2.2 ?_); intro g cap w5 hown1 hg1 hd1)
        have HP := Lib.hid (OL.push (u := valN u) HO3.out.2.1 HO3.out.2.2 HEL.out (by rw [HTL.out]; exact hrow) HX.out.1 (fun j hj => ⟨Nat.le_trans HLT.out (HX.out.2 j hj).1, (HX.out.2 j hj).2, fun e => by have := HOW.out j e; have := (HX.out.2 j hj).1; omega⟩) (by rw [HTL.out]; exact hown1) hg1 hd1)
        rw [HTL.out, ← HT.out] at HP
        clear hown1 hg1 hd1 hrow
        go_wp2_with fail
        go_roundg g'
        case measure => omega
        case rel => exact ⟨i + 1, _, rfl, by simp, by omega, HP⟩
    · have ti : decide ((i : Int) < (K : Int)) = false := decide_eq_false (by omega)
      have hT : kids.take i = kids := List.take_of_length_le (by rw [HKK.out]; omega)
      have HO2 : Hid (OL W0 W0.heap.size wr va (valL kids)) := Lib.hid (by have := HO.out; rw [hT] at this; exact this)
      clear HO hT
      go_wp2_with fail
      go_ret
      exact ⟨_, fun i => W0.heap.size ≤ i ∧ i < wr.heap.size, rfl, by rw [HV.out]; exact OwnL.value HO2.out.1 (fun i hi => ⟨hi.1, hi.2.1⟩) (fun g hg => by obtain ⟨ys, r1, -⟩ := HO2.out.1; exact ⟨(r1.lt g hg).1, (r1.lt g hg).2⟩), fun i hi => ⟨Nat.le_trans HB00.out.size hi.1, hi.2⟩, HN2.out.b⟩
end Go.Proofs.YtcmkepkeeahioaaGreatDoor
namespace Go.Proofs.YtcmkepkeeahioaaGreatDoor
open Go.RowKit
theorem valO_take (names : List ByteArray) (kids : List ND) (i : Nat) (hn : i < names.length) (hk : i < kids.length) : valO (names.take (i + 1)) (kids.take (i + 1)) = valO (names.take i) (kids.take i) ++ [(names[i].data.toList, valN kids[i])] := by
  have hv : ∀ (a : List ByteArray) (l : List ND), valO a l = (a.zip l).map (fun p => (p.1.data.toList, valN p.2)) := by
    intro a
    induction a with
    | nil => intro l; rw [valO_nil]; rfl
    | cons x t ih => intro l; cases l with
      | nil => rw [valO_nil2]; rfl
      | cons v u => rw [valO, ih]; rfl
  rw [hv, hv, List.take_succ_eq_append_getElem hn, List.take_succ_eq_append_getElem hk, List.zip_append (by rw [List.length_take, List.length_take]; omega), List.map_append]; rfl
theorem valO_take_len (names : List ByteArray) (kids : List ND) (i : Nat) (hn : i ≤ names.length) (hk : i ≤ kids.length) : (valO (names.take i) (kids.take i)).length = i := by rw [valO_len _ _ (by rw [List.length_take, List.length_take]; omega), List.length_take]; omega
set_option maxRecDepth 100000 in
set_option maxHeartbeats 8000000 in
theorem own_obj (n : Int) (s : ByteArray) (names : List ByteArray) (kids : List ND) (hkl : kids.length ≤ 250) (hnk : names.length = kids.length) (IH : ∀ u ∈ kids, ∀ (x0 x1 x2 x3 x4 : Value) (w : World), NAt w u x0 x1 x2 x3 x4 → Calls Tryz.prog 8 #[.agg #[x0, x1, x2, x3, x4]] w (OwnP u w))
    (x0 x1 x2 x3 x4 : Value) (w : World) (hv : NAt w (.mk 6 n s names kids) x0 x1 x2 x3 x4) :
    Calls Tryz.prog 8 #[.agg #[x0, x1, x2, x3, x4]] w (OwnP (.mk 6 n s names kids) w) := by
  rw [NAt] at hv
  obtain ⟨e0, e1, e2, ⟨an, cn, e3, hcn, hn⟩, ak, ck, e4, hckk, hk⟩ := hv
  obtain ⟨K, hK⟩ : ∃ K, kids.length = K := ⟨_, rfl⟩
  have hN : names.length = K := hnk.trans hK
  rw [hN] at e3 hcn
  rw [hK] at e4 hkl hckk
  subst e0 e1 e2 e3 e4
  have hNB := NB.new w (.int .u8 6) (.int .i64 n) (.string s) (.slice an K cn) (.slice ak K ck) 25
  have HNB := Lib.hid hNB
  have HK := Lib.hid hk
  have HN := Lib.hid hn
  have HKK := Lib.hid hK
  have HNN := Lib.hid hN
  have HIH := Lib.hid IH
  have HB00 := Lib.hid hNB.b
  obtain ⟨b0, lt0, c0, c1, c2, c3, c4⟩ := hNB
  have HV : Hid (valN (.mk 6 n s names kids) = .obj (valO names kids)) := Lib.hid (by rw [valN, if_neg (by decide), if_neg (by decide), if_neg (by decide), if_neg (by decide), if_neg (by decide), if_neg (by decide), if_pos rfl])
  clear hn hk hcn hckk hN hK b0 IH hnk
  obtain ⟨W0, hW0⟩ : ∃ W0, w.alloc (.cells #[.int .u8 6, .int .i64 n, .string s, .slice an K cn, .slice ak K ck] 25) = W0 := ⟨_, rfl⟩
  rw [hW0] at HNB HB00 lt0 c0 c1 c2 c3 c4
  go_enter Tryz.func8, Tryz.ntmps8
  go_wp2_with fail
  try rw [hW0]
  clear hW0
  go_loopg [5, 6] K (fun gk s5 s6 wx => ∃ (i : Nat) (va : Value), va = s5 ∧ s6 = .int .i64 (i : Int) ∧ i + gk = K ∧ Hid (OP W0 W0.heap.size wx va (valO (names.take i) (kids.take i))))
  case atStart => exact ⟨0, _, rfl, by simp, by omega, Lib.hid ⟨by rw [List.take_zero, valO_nil]; exact OwnO.nil _ _ _, Below.refl _ _, Nat.le_refl _⟩⟩
  case round =>
    obtain ⟨i, va, rfl, rfl, hgk, HO⟩ := hrel
    have HN2 := Lib.hid (HNB.out.below HO.out.2.1)
    obtain ⟨-, lt2, c0, c1, c2, c3, c4⟩ := HNB.out.below HO.out.2.1
    by_cases hi : i < K
    · have ti : decide ((i : Int) < (K : Int)) = true := decide_eq_true (by omega)
      have hik : i < kids.length := by rw [HKK.out]; exact hi
      have hin : i < names.length := by rw [HNN.out]; exact hi
      obtain ⟨b, o, rfl, hbl, hcell⟩ := HK.out (fun e => by rw [e] at hik; exact absurd hik (Nat.not_lt_zero _))
      obtain ⟨bn, on, rfl, hbn, hname⟩ := HN.out (fun e => by rw [e] at hin; exact absurd hin (Nat.not_lt_zero _))
      obtain ⟨y0, y1, y2, y3, y4, ⟨d0, d1, d2, d3, d4⟩, hat⟩ := hcell.get o kids i hik
      have hnm := hname i hin
      have HT := Lib.hid (valO_take names kids i hin hik)
      have HTL := Lib.hid (valO_take_len names kids i (Nat.le_of_lt hin) (Nat.le_of_lt hik))
      have HC : Hid (∀ W, Below w.heap.size w W → Calls Tryz.prog 8 #[.agg #[y0, y1, y2, y3, y4]] W (OwnP kids[i] W)) := Lib.hid (fun W hW => HIH.out kids[i] (List.getElem_mem hik) y0 y1 y2 y3 y4 W (hat.below hW))
      generalize kids[i] = u at HC HT
      generalize names[i] = X at HT hnm
      have HS : Hid (∀ W, Below W0.heap.size W0 W → (fun (W : World) => W.cell? ⟨w.heap.size, 3, none⟩ = some (.slice (some ⟨bn, on, none⟩) K cn) ∧ W.cell? ⟨w.heap.size, 4, none⟩ = some (.slice (some ⟨b, o, none⟩) K ck) ∧ W.cell? ⟨bn, on + i, none⟩ = some (.string X) ∧ W.cell? ⟨b, o + i * 5, none⟩ = some y0 ∧ W.cell? ⟨b, o + i * 5 + 1, none⟩ = some y1 ∧ W.cell? ⟨b, o + i * 5 + 2, none⟩ = some y2 ∧ W.cell? ⟨b, o + i * 5 + 3, none⟩ = some y3 ∧ W.cell? ⟨b, o + i * 5 + 4, none⟩ = some y4) W) := Lib.hid (fun W hW => by
        have hB := bstep HB00.out hW
        have hN := HNB.out.below hW
        exact ⟨hN.c3, hN.c4, (hB.cell (p := ⟨bn, on + i, none⟩) hbn).trans hnm, (hB.cell (p := ⟨b, o + i * 5, none⟩) hbl).trans d0, (hB.cell (p := ⟨b, o + i * 5 + 1, none⟩) hbl).trans d1, (hB.cell (p := ⟨b, o + i * 5 + 2, none⟩) hbl).trans d2, (hB.cell (p := ⟨b, o + i * 5 + 3, none⟩) hbl).trans d3, (hB.cell (p := ⟨b, o + i * 5 + 4, none⟩) hbl).trans d4⟩)
      obtain ⟨g', rfl⟩ : ∃ g', gk = g' + 1 := ⟨gk - 1, by omega⟩
      clear d0 d1 d2 d3 d4 hat hcell hname hnm
      go_wp2_with fail
      refine wp_region_noPanic ?_
      refine wp_region_held_drew (S := fun (W : World) => W.cell? ⟨w.heap.size, 3, none⟩ = some (.slice (some ⟨bn, on, none⟩) K cn) ∧ W.cell? ⟨w.heap.size, 4, none⟩ = some (.slice (some ⟨b, o, none⟩) K ck) ∧ W.cell? ⟨bn, on + i, none⟩ = some (.string X) ∧ W.cell? ⟨b, o + i * 5, none⟩ = some y0 ∧ W.cell? ⟨b, o + i * 5 + 1, none⟩ = some y1 ∧ W.cell? ⟨b, o + i * 5 + 2, none⟩ = some y2 ∧ W.cell? ⟨b, o + i * 5 + 3, none⟩ = some y3 ∧ W.cell? ⟨b, o + i * 5 + 4, none⟩ = some y4) (by kernel_rfl) (HS.out _ HO.out.2.1.drew) (fun hHeld => ?_)
      refine wpAnyH_take (i := 0) (v := ?v0) rfl (by kernel_rfl) (by kernel_rfl) (by kernel_rfl) (fun _ _ _ h => h) (Or.inl ⟨by rfl, ?y0⟩) (by assumption) ?z0
      case y0 => intro W hSw; (try dsimp only at hSw); go_simp <;> with_reducible rfl
      simp only [Act.put, List.getElem_toArray, List.getElem_cons_zero, List.getElem_cons_succ, List.setIfInBounds_toArray, List.set_cons_zero, List.set_cons_succ]
      refine wpAnyH_take (i := 1) (v := ?v1) rfl (by kernel_rfl) (by kernel_rfl) (by kernel_rfl) (fun _ _ _ h => h) (Or.inl ⟨by rfl, ?y1⟩) (by assumption) ?z1
      case y1 => intro W hSw; (try dsimp only at hSw); go_simp <;> with_reducible rfl
      simp only [Act.put, List.getElem_toArray, List.getElem_cons_zero, List.getElem_cons_succ, List.setIfInBounds_toArray, List.set_cons_zero, List.set_cons_succ]
      refine wpAnyH_take (i := 2) (v := ?v2) rfl (by kernel_rfl) (by kernel_rfl) (by kernel_rfl) (fun _ _ _ h => h) (Or.inl ⟨by rfl, ?y2⟩) (by assumption) ?z2
      case y2 => intro W hSw; (try dsimp only at hSw); go_simp <;> with_reducible rfl
      simp only [Act.put, List.getElem_toArray, List.getElem_cons_zero, List.getElem_cons_succ, List.setIfInBounds_toArray, List.set_cons_zero, List.set_cons_succ]
      refine wpAnyH_take (i := 3) (v := ?v3) rfl (by kernel_rfl) (by kernel_rfl) (by kernel_rfl) (fun _ _ _ h => h) (Or.inl ⟨by rfl, ?y3⟩) (by assumption) ?z3
      case y3 => intro W hSw; (try dsimp only at hSw); go_simp <;> with_reducible rfl
      simp only [Act.put, List.getElem_toArray, List.getElem_cons_zero, List.getElem_cons_succ, List.setIfInBounds_toArray, List.set_cons_zero, List.set_cons_succ]
      refine wpAnyH_take (i := 4) (v := ?v4) rfl (by kernel_rfl) (by kernel_rfl) (by kernel_rfl) (fun _ _ _ h => h) (Or.inl ⟨by rfl, ?y4⟩) (by assumption) ?z4
      case y4 => intro W hSw; (try dsimp only at hSw); go_simp <;> with_reducible rfl
      simp only [Act.put, List.getElem_toArray, List.getElem_cons_zero, List.getElem_cons_succ, List.setIfInBounds_toArray, List.set_cons_zero, List.set_cons_succ]
      refine wpAnyH_take (i := 5) (v := ?v5) rfl (by kernel_rfl) (by kernel_rfl) (by kernel_rfl) (fun _ _ _ h => h) (Or.inl ⟨by rfl, ?y5⟩) (by assumption) ?z5
      case y5 => intro W hSw; (try dsimp only at hSw); go_simp <;> with_reducible rfl
      simp only [Act.put, List.getElem_toArray, List.getElem_cons_zero, List.getElem_cons_succ, List.setIfInBounds_toArray, List.set_cons_zero, List.set_cons_succ]
      refine wpAnyH_take (i := 6) (v := ?v6) rfl (by kernel_rfl) (by kernel_rfl) (by kernel_rfl) (fun _ _ _ h => h) (Or.inl ⟨by rfl, ?y6⟩) (by assumption) ?z6
      case y6 => intro W hSw; (try dsimp only at hSw); go_simp <;> with_reducible rfl
      simp only [Act.put, List.getElem_toArray, List.getElem_cons_zero, List.getElem_cons_succ, List.setIfInBounds_toArray, List.set_cons_zero, List.set_cons_succ]
      refine wpAnyH_take (i := 7) (v := ?v7) rfl (by kernel_rfl) (by kernel_rfl) (by kernel_rfl) (fun _ _ _ h => h) (Or.inl ⟨by rfl, ?y7⟩) (by assumption) ?z7
      case y7 => intro W hSw; (try dsimp only at hSw); go_simp <;> with_reducible rfl
      simp only [Act.put, List.getElem_toArray, List.getElem_cons_zero, List.getElem_cons_succ, List.setIfInBounds_toArray, List.set_cons_zero, List.set_cons_succ]
      refine wpAnyH_take (i := 8) (v := ?v8) rfl (by kernel_rfl) (by kernel_rfl) (by kernel_rfl) (fun _ _ _ h => h) (Or.inl ⟨by rfl, ?y8⟩) (by assumption) ?z8
      case y8 => intro W hSw; (try dsimp only at hSw); go_simp <;> with_reducible rfl
      simp only [Act.put, List.getElem_toArray, List.getElem_cons_zero, List.getElem_cons_succ, List.setIfInBounds_toArray, List.set_cons_zero, List.set_cons_succ]
      refine wpAnyH_take (i := 9) (v := ?v9) rfl (by kernel_rfl) (by kernel_rfl) (by kernel_rfl) (fun _ _ _ h => h) (Or.inl ⟨by rfl, ?y9⟩) (by assumption) ?z9
      case y9 => intro W hSw; (try dsimp only at hSw); go_simp <;> with_reducible rfl
      simp only [Act.put, List.getElem_toArray, List.getElem_cons_zero, List.getElem_cons_succ, List.setIfInBounds_toArray, List.set_cons_zero, List.set_cons_succ]
      refine wpAnyH_take (i := 10) (v := ?v10) rfl (by kernel_rfl) (by kernel_rfl) (by kernel_rfl) (fun _ _ _ h => h) (Or.inl ⟨by rfl, ?y10⟩) (by assumption) ?z10
      case y10 => intro W hSw; (try dsimp only at hSw); go_simp <;> with_reducible rfl
      simp only [Act.put, List.getElem_toArray, List.getElem_cons_zero, List.getElem_cons_succ, List.setIfInBounds_toArray, List.set_cons_zero, List.set_cons_succ]
      refine wpAnyH_ready (rs := [11]) (by kernel_rfl) (by simp) ?_
      refine AllReadyH.cons rfl (fun K' hK => ?_) AllReadyH.nil
      go_simp
      refine (HC.out _ (bstep HN2.out.b (Below.refl _ wr).drew)).mono ?_
      rintro e w3 ⟨x, S', rfl, hx, hS', hb3⟩
      have hbx : Below wr.heap.size wr w3 := bstep (Below.refl _ wr).drew hb3
      have h1x := hx.one
      have HO3 := Lib.hid (HO.out.keep hbx)
      have HX : Hid (AV S' w3 (valN u) x ∧ ∀ i, S' i → wr.heap.size ≤ i ∧ i < w3.heap.size) := Lib.hid (And.intro hx hS')
      have HLT := Lib.hid HO.out.2.2
      obtain ⟨xs, hrow, hel⟩ := HO3.out.1
      have HOW : Hid (∀ g, va.ownBlock = some g → g < wr.heap.size) := Lib.hid (by obtain ⟨ys, r1, -⟩ := HO.out.1; exact fun g hg => (r1.lt g hg).2)
      rw [HTL.out] at hrow
      have HEL := Lib.hid hel
      have h3 : Below w3.heap.size w3 (w3.alloc (.cells #[.string X, x] 56)) := (Below.refl _ _).alloc (Nat.le_refl _) _
      have HO4 := Lib.hid (HO3.out.keep h3)
      go_wp2_with fail
      refine hK.out _ _ (HS.out _ HO3.out.2.1) (fun hHeld2 => ?_)
      clear hK K'
      try simp only [Act.put, List.getElem_toArray, List.getElem_cons_zero, List.getElem_cons_succ, List.setIfInBounds_toArray, List.set_cons_zero, List.set_cons_succ]
      refine wpAnyH_ready (rs := [12]) (by kernel_rfl) (by simp) ?_
      refine AllReadyH.cons rfl (fun K' hK => ?_) AllReadyH.nil
      refine step_build2 _ rfl _ _ rfl X x rfl rfl h1x ?_
      refine hK.out _ _ (HS.out _ HO3.out.2.1) (fun hHeld3 => ?_)
      clear hK K'
      try simp only [Act.put, List.getElem_toArray, List.getElem_cons_zero, List.getElem_cons_succ, List.setIfInBounds_toArray, List.set_cons_zero, List.set_cons_succ]
      refine wpAnyH_ready (rs := [13]) (by kernel_rfl) (by simp) ?_
      refine AllReadyH.cons rfl (fun K' hK => ?_) AllReadyH.nil
      refine step_build3 _ rfl _ rfl X x rfl ?_
      refine hK.out _ _ (HS.out _ HO4.out.2.1) (fun hHeld4 => ?_)
      clear hK K'
      try simp only [Act.put, List.getElem_toArray, List.getElem_cons_zero, List.getElem_cons_succ, List.setIfInBounds_toArray, List.set_cons_zero, List.set_cons_succ]
      refine wpAnyH_ready (rs := [14]) (by kernel_rfl) (by simp) ?_
      refine AllReadyH.cons rfl (fun K' hK => ?_) AllReadyH.nil
      refine step_append2 _ rfl _ _ rfl W0.heap.size va i xs rfl (own_of_block hrow (fun g hg => h3.block g (hrow.lt g hg).2)) w3.heap.size (.string X) x (heap_alloc_new w3 _) (fun y hy => ?_) rfl (by omega) HO4.out.2.2 (fun g cap w7 ho hg hg2 => ?_)
      · simp only [List.mem_cons, List.not_mem_nil, or_false] at hy
        rcases hy with rfl | rfl
        · rfl
        · exact h1x
      have hgr : w3.grownBy w7 va.ownBlock := ⟨hg.os.trans h3.os, hg.tape.trans h3.tape, hg.output.trans h3.output, Nat.le_trans h3.size hg.size, fun k hk hne => (hg.block k (Nat.lt_of_lt_of_le hk h3.size) hne).trans (h3.block k hk)⟩
      have HP := Lib.hid (OP.push (u := valN u) (q := X.data.toList) HO3.out.2.1 HO3.out.2.2 HEL.out (by rw [HTL.out]; exact hrow) HX.out.1 (fun j hj => ⟨Nat.le_trans HLT.out (HX.out.2 j hj).1, (HX.out.2 j hj).2, fun e => by have := HOW.out j e; have := (HX.out.2 j hj).1; omega⟩) (by rw [HTL.out, bs_self]; exact ho) hgr (hg2.imp id (fun h => by rw [h]; exact h3.size)))
      rw [HTL.out, ← HT.out] at HP
      clear hgr hg hg2 ho hrow hel
      refine hK.out _ _ (HS.out _ HP.out.2.1) (fun hHeld5 => ?_)
      clear hK K'
      try simp only [Act.put, List.getElem_toArray, List.getElem_cons_zero, List.getElem_cons_succ, List.setIfInBounds_toArray, List.set_cons_zero, List.set_cons_succ]
      refine wpAnyH_take (i := 15) (v := ?v15) rfl (by kernel_rfl) (by kernel_rfl) (by kernel_rfl) (fun _ _ _ h => h) (Or.inl ⟨by rfl, ?y15⟩) (by assumption) ?z15
      case y15 => intro W hSw; (try dsimp only at hSw); go_simp <;> with_reducible rfl
      simp only [Act.put, List.getElem_toArray, List.getElem_cons_zero, List.getElem_cons_succ, List.setIfInBounds_toArray, List.set_cons_zero, List.set_cons_succ]
      refine wpAnyH_done (by kernel_rfl) ?_ _
      refine NoPanic.normal ?_
      go_wp2_with fail
      go_roundg g'
      case measure => omega
      case rel => exact ⟨i + 1, _, rfl, by simp, by omega, HP⟩
    · have ti : decide ((i : Int) < (K : Int)) = false := decide_eq_false (by omega)
      have hT : kids.take i = kids := List.take_of_length_le (by rw [HKK.out]; omega)
      have hTn : names.take i = names := List.take_of_length_le (by rw [HNN.out]; omega)
      have HO2 : Hid (OP W0 W0.heap.size wr va (valO names kids)) := Lib.hid (by have := HO.out; rw [hT, hTn] at this; exact this)
      clear HO hT hTn
      go_wp2_with fail
      go_ret
      exact ⟨_, fun i => W0.heap.size ≤ i ∧ i < wr.heap.size, rfl, by rw [HV.out]; exact OwnO.value HO2.out.1 (fun i hi => ⟨hi.1, hi.2.1⟩) (fun g hg => by obtain ⟨ys, r1, -⟩ := HO2.out.1; exact ⟨(r1.lt g hg).1, (r1.lt g hg).2⟩), fun i hi => ⟨Nat.le_trans HB00.out.size hi.1, hi.2⟩, HN2.out.b⟩
theorem law_own (m : Nat) : ∀ (v : ND) (x0 x1 x2 x3 x4 : Value) (w : World), sizeN v ≤ m → m ≤ 250 → NAt w v x0 x1 x2 x3 x4 → goodN v → wfN v → Calls Tryz.prog 8 #[.agg #[x0, x1, x2, x3, x4]] w (OwnP v w) := by
  induction m with
  | zero =>
    intro v x0 x1 x2 x3 x4 w hm
    cases v with
    | mk k n s names kids => rw [sizeN] at hm; omega
  | succ m ih =>
    intro v x0 x1 x2 x3 x4 w hm hm2 hv hg hw
    cases v with
    | mk k n s names kids =>
    rw [goodN] at hg
    rw [wfN] at hw
    rw [sizeN] at hm
    have hl := sizeL_len kids
    obtain ⟨g1, g2, g3, g4, g5⟩ := hg
    obtain ⟨f1, f2, f3, f4, f5, f6, f7⟩ := hw
    have IH : ∀ u ∈ kids, ∀ (x0 x1 x2 x3 x4 : Value) (w : World), NAt w u x0 x1 x2 x3 x4 → Calls Tryz.prog 8 #[.agg #[x0, x1, x2, x3, x4]] w (OwnP u w) := fun u hu x0 x1 x2 x3 x4 w h => ih u x0 x1 x2 x3 x4 w (by have := sizeN_mem kids u hu; omega) (by omega) h (goodL_mem kids g5 u hu) (wfL_mem kids f7 u hu)
    by_cases h5 : k = 5
    · subst h5; exact own_list n s names kids (by omega) IH x0 x1 x2 x3 x4 w hv
    by_cases h6 : k = 6
    · subst h6; exact own_obj n s names kids (by omega) (g2 rfl) IH x0 x1 x2 x3 x4 w hv
    · exact own_flat k n s names kids (by have := (bounds_u8 f1).1; exact this) h5 h6 x0 x1 x2 x3 x4 w hv
end Go.Proofs.YtcmkepkeeahioaaGreatDoor
namespace Go.Proofs.YtcmkepkeeahioaaGreatDoor
open Go.RowKit
/-- equal is true of a value that is the node's -/
def EqOk (u : ND) : Prop := ∀ (x : Value) (S : Nat → Prop) (x0 x1 x2 x3 x4 : Value) (w : World), NAt w u x0 x1 x2 x3 x4 → AV S w (valN u) x → (∀ i, S i → i < w.heap.size) →
  Calls Tryz.prog 16 #[x, .agg #[x0, x1, x2, x3, x4]] w fun e w' => e = .returned (.bool true) ∧ Below w.heap.size w w'
set_option maxRecDepth 100000 in
set_option maxHeartbeats 2000000 in
theorem equal_flat (k n : Int) (s : ByteArray) (names : List ByteArray) (kids : List ND) (hk0 : 0 ≤ k) (h5 : k ≠ 5) (h6 : k ≠ 6) : EqOk (.mk k n s names kids) := by
  intro x S x0 x1 x2 x3 x4 w hv hx hS
  rw [NAt] at hv
  obtain ⟨e0, e1, e2, ⟨an, cn, e3, hcn, hn⟩, ak, ck, e4, hckk, hk⟩ := hv
  obtain ⟨N, hN⟩ : ∃ N, names.length = N := ⟨_, rfl⟩
  obtain ⟨K, hK⟩ : ∃ K, kids.length = K := ⟨_, rfl⟩
  rw [hN] at e3
  rw [hK] at e4
  subst e0 e1 e2 e3 e4
  have hNB := NB.new w (.int .u8 k) (.int .i64 n) (.string s) (.slice an N cn) (.slice ak K ck) 25
  have HNB := Lib.hid hNB
  obtain ⟨b0, lt0, c0, c1, c2, c3, c4⟩ := hNB
  rw [valN] at hx
  clear hn hk hcn hckk hN hK b0 hS
  by_cases k0 : k = 0
  · subst k0
    rw [if_pos rfl, AV] at hx
    subst hx
    obtain ⟨z1, z2, z3, z4, z5, z6⟩ := ta_nil
    clear  h5 h6
    go_enter Tryz.func16, Tryz.ntmps16
    go_wp2_with fail
    go_ret
    exact ⟨by first | rfl | simp, HNB.out.b⟩
  rw [if_neg k0] at hx
  by_cases k1 : k = 1
  · subst k1
    rw [if_pos rfl, AV] at hx
    subst hx
    obtain ⟨z1, z2, z3, z4, z5, z6⟩ := ta_bool (.bool false)
    clear k0 h5 h6
    go_enter Tryz.func16, Tryz.ntmps16
    go_wp2_with fail
    go_ret
    exact ⟨by first | rfl | simp, HNB.out.b⟩
  rw [if_neg k1] at hx
  by_cases k2 : k = 2
  · subst k2
    rw [if_pos rfl, AV] at hx
    subst hx
    obtain ⟨z1, z2, z3, z4, z5, z6⟩ := ta_bool (.bool true)
    clear k0 k1 h5 h6
    go_enter Tryz.func16, Tryz.ntmps16
    go_wp2_with fail
    go_ret
    exact ⟨by first | rfl | simp, HNB.out.b⟩
  rw [if_neg k2] at hx
  by_cases k3 : k = 3
  · subst k3
    rw [if_pos rfl, AV] at hx
    subst hx
    obtain ⟨z1, z2, z3, z4, z5, z6⟩ := ta_int (.int .i64 n)
    clear k0 k1 k2 h5 h6
    go_enter Tryz.func16, Tryz.ntmps16
    go_wp2_with fail
    go_ret
    exact ⟨by first | rfl | simp, HNB.out.b⟩
  rw [if_neg k3] at hx
  by_cases k4 : k = 4
  · subst k4
    rw [if_pos rfl, AV, bs_self] at hx
    subst hx
    obtain ⟨z1, z2, z3, z4, z5, z6⟩ := ta_str (.string s)
    clear k0 k1 k2 k3 h5 h6
    go_enter Tryz.func16, Tryz.ntmps16
    go_wp2_with fail
    go_ret
    exact ⟨by first | rfl | simp, HNB.out.b⟩
  rw [if_neg k4] at hx
  rw [if_neg h5, if_neg h6, AV] at hx
  subst hx
  obtain ⟨z1, z2, z3, z4, z5, z6⟩ := ta_flo (.float .f64 0x3FF8000000000000)
  have t6 : decide (k > 6) = true := decide_eq_true (by omega)
  go_enter Tryz.func16, Tryz.ntmps16
  go_wp2_with fail
  go_ret
  exact ⟨by first | rfl | simp, HNB.out.b⟩
set_option maxRecDepth 100000 in
set_option maxHeartbeats 8000000 in
theorem equal_list (n : Int) (s : ByteArray) (names : List ByteArray) (kids : List ND) (hkl : kids.length ≤ 250) (IH : ∀ u ∈ kids, EqOk u) : EqOk (.mk 5 n s names kids) := by
  intro x S x0 x1 x2 x3 x4 w hv hx hSw
  rw [NAt] at hv
  obtain ⟨e0, e1, e2, ⟨an, cn, e3, hcn, hn⟩, ak, ck, e4, hckk, hk⟩ := hv
  obtain ⟨N, hN⟩ : ∃ N, names.length = N := ⟨_, rfl⟩
  obtain ⟨K, hK⟩ : ∃ K, kids.length = K := ⟨_, rfl⟩
  rw [hN] at e3
  rw [hK] at e4 hkl hckk
  subst e0 e1 e2 e3 e4
  rw [valN, if_neg (by decide), if_neg (by decide), if_neg (by decide), if_neg (by decide), if_neg (by decide), if_pos rfl, AV, valL_len, hK] at hx
  obtain ⟨ax, cx, rfl, hcx, hxe⟩ := hx
  obtain ⟨z1, z2, z3, z4, z5, z6⟩ := ta_lst (.slice ax K cx)
  have hNB := NB.new w (.int .u8 5) (.int .i64 n) (.string s) (.slice an N cn) (.slice ak K ck) 25
  have HNB := Lib.hid hNB
  have HK := Lib.hid hk
  have HKK := Lib.hid hK
  have HX := Lib.hid hxe
  have HSS := Lib.hid hSw
  have HIH := Lib.hid IH
  obtain ⟨b0, lt0, c0, c1, c2, c3, c4⟩ := hNB
  clear hn hk hcn hN hK b0 IH hxe hSw
  go_enter Tryz.func16, Tryz.ntmps16
  go_wp2_with fail
  go_loopg [15] K (fun gk s15 wx => ∃ i : Nat, s15 = .int .i64 (i : Int) ∧ i + gk = K ∧ Hid (NB w wx (.int .u8 5) (.int .i64 n) (.string s) (.slice an N cn) (.slice ak K ck)))
  case atStart => exact ⟨0, by simp, by omega, HNB⟩
  case round =>
    obtain ⟨i, rfl, hgk, HNB2⟩ := hrel
    obtain ⟨-, lt2, c0, c1, c2, c3, c4⟩ := HNB2.out
    by_cases hi : i < K
    · have ti : decide ((i : Int) < (K : Int)) = true := decide_eq_true (by omega)
      have hik : i < kids.length := by rw [HKK.out]; exact hi
      obtain ⟨b, o, rfl, hbl, hcell⟩ := HK.out (fun e => by rw [e] at hik; exact absurd hik (Nat.not_lt_zero _))
      have hvi : i < (valL kids).length := by rw [valL_len]; exact hik
      obtain ⟨bx, ox, rfl, hbx, hxl⟩ := HX.out (fun e => by rw [e] at hvi; exact absurd hvi (Nat.not_lt_zero _))
      obtain ⟨y0, y1, y2, y3, y4, ⟨d0, d1, d2, d3, d4⟩, hat⟩ := hcell.get o kids i hik
      obtain ⟨x, hxc, hxa⟩ := hxl.get ox (valL kids) i hvi
      have hvv : (valL kids)[i] = valN kids[i] := by
        have := valL_get kids i hik
        rw [List.getElem?_eq_getElem hvi] at this
        injection this
      rw [hvv] at hxa
      have hbs := HSS.out bx hbx
      have HC : Hid (∀ W, Below w.heap.size w W → Calls Tryz.prog 16 #[x, .agg #[y0, y1, y2, y3, y4]] W fun e w' => e = .returned (.bool true) ∧ Below W.heap.size W w') := Lib.hid (fun W hW => HIH.out kids[i] (List.getElem_mem hik) x S y0 y1 y2 y3 y4 W (hat.below hW) (hxa.kept (fun _ h => h) (KeptS.of_below hW HSS.out)) (fun j hj => Nat.lt_of_lt_of_le (HSS.out j hj) hW.size))
      have HS : Hid (∀ W, Below w.heap.size w W → W.cell? ⟨w.heap.size, 4, none⟩ = some (.slice (some ⟨b, o, none⟩) K ck) → (fun (W : World) => W.cell? ⟨w.heap.size, 4, none⟩ = some (.slice (some ⟨b, o, none⟩) K ck) ∧ W.cell? ⟨bx, ox + i, none⟩ = some x ∧ W.cell? ⟨b, o + i * 5, none⟩ = some y0 ∧ W.cell? ⟨b, o + i * 5 + 1, none⟩ = some y1 ∧ W.cell? ⟨b, o + i * 5 + 2, none⟩ = some y2 ∧ W.cell? ⟨b, o + i * 5 + 3, none⟩ = some y3 ∧ W.cell? ⟨b, o + i * 5 + 4, none⟩ = some y4) W) := Lib.hid (fun W hW h4 => ⟨h4, (hW.cell (p := ⟨bx, ox + i, none⟩) hbs).trans hxc, (hW.cell (p := ⟨b, o + i * 5, none⟩) hbl).trans d0, (hW.cell (p := ⟨b, o + i * 5 + 1, none⟩) hbl).trans d1, (hW.cell (p := ⟨b, o + i * 5 + 2, none⟩) hbl).trans d2, (hW.cell (p := ⟨b, o + i * 5 + 3, none⟩) hbl).trans d3, (hW.cell (p := ⟨b, o + i * 5 + 4, none⟩) hbl).trans d4⟩)
      have HD : Hid (Below w.heap.size w wr.drew) := Lib.hid (bstep HNB2.out.b (Below.refl _ wr).drew)
      obtain ⟨g', rfl⟩ : ∃ g', gk = g' + 1 := ⟨gk - 1, by omega⟩
      clear d0 d1 d2 d3 d4 hat hcell hxl hxc hxa hvv
      go_wp2_with fail
      refine wp_region_noPanic ?_
      refine wp_region_held_drew (S := fun (W : World) => W.cell? ⟨w.heap.size, 4, none⟩ = some (.slice (some ⟨b, o, none⟩) K ck) ∧ W.cell? ⟨bx, ox + i, none⟩ = some x ∧ W.cell? ⟨b, o + i * 5, none⟩ = some y0 ∧ W.cell? ⟨b, o + i * 5 + 1, none⟩ = some y1 ∧ W.cell? ⟨b, o + i * 5 + 2, none⟩ = some y2 ∧ W.cell? ⟨b, o + i * 5 + 3, none⟩ = some y3 ∧ W.cell? ⟨b, o + i * 5 + 4, none⟩ = some y4) (by kernel_rfl) (HS.out _ HD.out (HNB2.out.below (Below.refl _ wr).drew).c4) (fun hHeld => ?_)
      refine wpAnyH_take (i := 0) (v := ?v0) rfl (by kernel_rfl) (by kernel_rfl) (by kernel_rfl) (fun _ _ _ h => h) (Or.inl ⟨by rfl, ?y0⟩) (by assumption) ?z0
      case y0 => intro W hSw; (try dsimp only at hSw); go_simp <;> with_reducible rfl
      simp only [Act.put, List.getElem_toArray, List.getElem_cons_zero, List.getElem_cons_succ, List.setIfInBounds_toArray, List.set_cons_zero, List.set_cons_succ]
      refine wpAnyH_take (i := 1) (v := ?v1) rfl (by kernel_rfl) (by kernel_rfl) (by kernel_rfl) (fun _ _ _ h => h) (Or.inl ⟨by rfl, ?y1⟩) (by assumption) ?z1
      case y1 => intro W hSw; (try dsimp only at hSw); go_simp <;> with_reducible rfl
      simp only [Act.put, List.getElem_toArray, List.getElem_cons_zero, List.getElem_cons_succ, List.setIfInBounds_toArray, List.set_cons_zero, List.set_cons_succ]
      refine wpAnyH_take (i := 2) (v := ?v2) rfl (by kernel_rfl) (by kernel_rfl) (by kernel_rfl) (fun _ _ _ h => h) (Or.inl ⟨by rfl, ?y2⟩) (by assumption) ?z2
      case y2 => intro W hSw; (try dsimp only at hSw); go_simp <;> with_reducible rfl
      simp only [Act.put, List.getElem_toArray, List.getElem_cons_zero, List.getElem_cons_succ, List.setIfInBounds_toArray, List.set_cons_zero, List.set_cons_succ]
      refine wpAnyH_take (i := 3) (v := ?v3) rfl (by kernel_rfl) (by kernel_rfl) (by kernel_rfl) (fun _ _ _ h => h) (Or.inl ⟨by rfl, ?y3⟩) (by assumption) ?z3
      case y3 => intro W hSw; (try dsimp only at hSw); go_simp <;> with_reducible rfl
      simp only [Act.put, List.getElem_toArray, List.getElem_cons_zero, List.getElem_cons_succ, List.setIfInBounds_toArray, List.set_cons_zero, List.set_cons_succ]
      refine wpAnyH_take (i := 4) (v := ?v4) rfl (by kernel_rfl) (by kernel_rfl) (by kernel_rfl) (fun _ _ _ h => h) (Or.inl ⟨by rfl, ?y4⟩) (by assumption) ?z4
      case y4 => intro W hSw; (try dsimp only at hSw); go_simp <;> with_reducible rfl
      simp only [Act.put, List.getElem_toArray, List.getElem_cons_zero, List.getElem_cons_succ, List.setIfInBounds_toArray, List.set_cons_zero, List.set_cons_succ]
      refine wpAnyH_take (i := 5) (v := ?v5) rfl (by kernel_rfl) (by kernel_rfl) (by kernel_rfl) (fun _ _ _ h => h) (Or.inl ⟨by rfl, ?y5⟩) (by assumption) ?z5
      case y5 => intro W hSw; (try dsimp only at hSw); go_simp <;> with_reducible rfl
      simp only [Act.put, List.getElem_toArray, List.getElem_cons_zero, List.getElem_cons_succ, List.setIfInBounds_toArray, List.set_cons_zero, List.set_cons_succ]
      refine wpAnyH_take (i := 6) (v := ?v6) rfl (by kernel_rfl) (by kernel_rfl) (by kernel_rfl) (fun _ _ _ h => h) (Or.inl ⟨by rfl, ?y6⟩) (by assumption) ?z6
      case y6 => intro W hSw; (try dsimp only at hSw); go_simp <;> with_reducible rfl
      simp only [Act.put, List.getElem_toArray, List.getElem_cons_zero, List.getElem_cons_succ, List.setIfInBounds_toArray, List.set_cons_zero, List.set_cons_succ]
      refine wpAnyH_take (i := 7) (v := ?v7) rfl (by kernel_rfl) (by kernel_rfl) (by kernel_rfl) (fun _ _ _ h => h) (Or.inl ⟨by rfl, ?y7⟩) (by assumption) ?z7
      case y7 => intro W hSw; (try dsimp only at hSw); go_simp <;> with_reducible rfl
      simp only [Act.put, List.getElem_toArray, List.getElem_cons_zero, List.getElem_cons_succ, List.setIfInBounds_toArray, List.set_cons_zero, List.set_cons_succ]
      refine wpAnyH_take (i := 8) (v := ?v8) rfl (by kernel_rfl) (by kernel_rfl) (by kernel_rfl) (fun _ _ _ h => h) (Or.inl ⟨by rfl, ?y8⟩) (by assumption) ?z8
      case y8 => intro W hSw; (try dsimp only at hSw); go_simp <;> with_reducible rfl
      simp only [Act.put, List.getElem_toArray, List.getElem_cons_zero, List.getElem_cons_succ, List.setIfInBounds_toArray, List.set_cons_zero, List.set_cons_succ]
      refine wpAnyH_ready (rs := [9]) (by kernel_rfl) (by simp) ?_
      refine AllReadyH.cons rfl (fun K' hK => ?_) AllReadyH.nil
      go_simp
      refine (HC.out _ HD.out).mono ?_
      rintro e w3 ⟨rfl, hb3⟩
      have HB3 := Lib.hid (bstep HD.out hb3)
      have HNB3 := Lib.hid (HNB2.out.below (bstep (Below.refl _ wr).drew hb3))
      clear hb3
      go_wp2_with fail
      refine hK.out _ _ (HS.out _ HB3.out HNB3.out.c4) (fun hHeld2 => ?_)
      clear hK K'
      try simp only [Act.put, List.getElem_toArray, List.getElem_cons_zero, List.getElem_cons_succ, List.setIfInBounds_toArray, List.set_cons_zero, List.set_cons_succ]
      refine wpAnyH_take (i := 10) (v := ?v10) rfl (by kernel_rfl) (by kernel_rfl) (by kernel_rfl) (fun _ _ _ h => h) (Or.inl ⟨by rfl, ?y10⟩) (by assumption) ?z10
      case y10 => intro W hSw; (try dsimp only at hSw); go_simp <;> with_reducible rfl
      simp only [Act.put, List.getElem_toArray, List.getElem_cons_zero, List.getElem_cons_succ, List.setIfInBounds_toArray, List.set_cons_zero, List.set_cons_succ]
      refine wpAnyH_done (by kernel_rfl) ?_ _
      refine NoPanic.normal ?_
      go_wp2_with fail
      go_roundg g'
      case measure => omega
      case rel => exact ⟨i + 1, by simp, by omega, HNB3⟩
    · have ti : decide ((i : Int) < (K : Int)) = false := decide_eq_false (by omega)
      go_wp2_with fail
      go_ret
      exact ⟨by first | rfl | simp, HNB2.out.b⟩
set_option maxRecDepth 100000 in
set_option maxHeartbeats 8000000 in
theorem equal_obj (n : Int) (s : ByteArray) (names : List ByteArray) (kids : List ND) (hkl : kids.length ≤ 250) (hnk : names.length = kids.length) (IH : ∀ u ∈ kids, EqOk u) : EqOk (.mk 6 n s names kids) := by
  intro x S x0 x1 x2 x3 x4 w hv hx hSw
  rw [NAt] at hv
  obtain ⟨e0, e1, e2, ⟨an, cn, e3, hcn, hn⟩, ak, ck, e4, hckk, hk⟩ := hv
  obtain ⟨K, hK⟩ : ∃ K, kids.length = K := ⟨_, rfl⟩
  have hN : names.length = K := hnk.trans hK
  rw [hN] at e3 hcn
  rw [hK] at e4 hkl hckk
  subst e0 e1 e2 e3 e4
  rw [valN, if_neg (by decide), if_neg (by decide), if_neg (by decide), if_neg (by decide), if_neg (by decide), if_neg (by decide), if_pos rfl, AV, valO_len names kids hnk, hK] at hx
  obtain ⟨ax, cx, rfl, hcx, hxe⟩ := hx
  obtain ⟨z1, z2, z3, z4, z5, z6⟩ := ta_obj (.slice ax K cx)
  have hNB := NB.new w (.int .u8 6) (.int .i64 n) (.string s) (.slice an K cn) (.slice ak K ck) 25
  have HNB := Lib.hid hNB
  have HK := Lib.hid hk
  have HN := Lib.hid hn
  have HKK := Lib.hid hK
  have HNN := Lib.hid hN
  have HNK := Lib.hid hnk
  have HX := Lib.hid hxe
  have HSS := Lib.hid hSw
  have HIH := Lib.hid IH
  obtain ⟨b0, lt0, c0, c1, c2, c3, c4⟩ := hNB
  clear hn hk hN hK b0 IH hxe hSw hnk
  go_enter Tryz.func16, Tryz.ntmps16
  go_wp2_with fail
  go_loopg [18] K (fun gk s18 wx => ∃ i : Nat, s18 = .int .i64 (i : Int) ∧ i + gk = K ∧ Hid (NB w wx (.int .u8 6) (.int .i64 n) (.string s) (.slice an K cn) (.slice ak K ck)))
  case atStart => exact ⟨0, by simp, by omega, HNB⟩
  case round =>
    obtain ⟨i, rfl, hgk, HNB2⟩ := hrel
    obtain ⟨-, lt2, c0, c1, c2, c3, c4⟩ := HNB2.out
    by_cases hi : i < K
    · have ti : decide ((i : Int) < (K : Int)) = true := decide_eq_true (by omega)
      have hik : i < kids.length := by rw [HKK.out]; exact hi
      have hin : i < names.length := by rw [HNN.out]; exact hi
      obtain ⟨b, o, rfl, hbl, hcell⟩ := HK.out (fun e => by rw [e] at hik; exact absurd hik (Nat.not_lt_zero _))
      obtain ⟨bn, on, rfl, hbn, hname⟩ := HN.out (fun e => by rw [e] at hin; exact absurd hin (Nat.not_lt_zero _))
      have hvi : i < (valO names kids).length := by rw [valO_len names kids HNK.out]; exact hik
      obtain ⟨bx, ox, rfl, hbx, hxl⟩ := HX.out (fun e => by rw [e] at hvi; exact absurd hvi (Nat.not_lt_zero _))
      obtain ⟨y0, y1, y2, y3, y4, ⟨d0, d1, d2, d3, d4⟩, hat⟩ := hcell.get o kids i hik
      obtain ⟨hxn, x, hxc, hxa⟩ := hxl.get ox (valO names kids) i hvi
      have hnm := hname i hin
      have hvv : (valO names kids)[i] = (names[i].data.toList, valN kids[i]) := by
        have := valO_get names kids i hin hik
        rw [List.getElem?_eq_getElem hvi] at this
        injection this
      rw [hvv] at hxa hxn
      rw [bs_self] at hxn
      rw [show ox + 2 * i = ox + i * 2 by omega] at hxn hxc
      have hbs := HSS.out bx hbx
      have HC : Hid (∀ W, Below w.heap.size w W → Calls Tryz.prog 16 #[x, .agg #[y0, y1, y2, y3, y4]] W fun e w' => e = .returned (.bool true) ∧ Below W.heap.size W w') := Lib.hid (fun W hW => HIH.out kids[i] (List.getElem_mem hik) x S y0 y1 y2 y3 y4 W (hat.below hW) (hxa.kept (fun _ h => h) (KeptS.of_below hW HSS.out)) (fun j hj => Nat.lt_of_lt_of_le (HSS.out j hj) hW.size))
      generalize names[i] = X at hnm hxn
      have HS : Hid (∀ W, Below w.heap.size w W → W.cell? ⟨w.heap.size, 3, none⟩ = some (.slice (some ⟨bn, on, none⟩) K cn) → W.cell? ⟨w.heap.size, 4, none⟩ = some (.slice (some ⟨b, o, none⟩) K ck) → (fun (W : World) => W.cell? ⟨w.heap.size, 3, none⟩ = some (.slice (some ⟨bn, on, none⟩) K cn) ∧ W.cell? ⟨w.heap.size, 4, none⟩ = some (.slice (some ⟨b, o, none⟩) K ck) ∧ W.cell? ⟨bn, on + i, none⟩ = some (.string X) ∧ W.cell? ⟨bx, ox + i * 2, none⟩ = some (.string X) ∧ W.cell? ⟨bx, ox + i * 2 + 1, none⟩ = some x ∧ W.cell? ⟨b, o + i * 5, none⟩ = some y0 ∧ W.cell? ⟨b, o + i * 5 + 1, none⟩ = some y1 ∧ W.cell? ⟨b, o + i * 5 + 2, none⟩ = some y2 ∧ W.cell? ⟨b, o + i * 5 + 3, none⟩ = some y3 ∧ W.cell? ⟨b, o + i * 5 + 4, none⟩ = some y4) W) := Lib.hid (fun W hW h3 h4 => ⟨h3, h4, (hW.cell (p := ⟨bn, on + i, none⟩) hbn).trans hnm, (hW.cell (p := ⟨bx, ox + i * 2, none⟩) hbs).trans hxn, (hW.cell (p := ⟨bx, ox + i * 2 + 1, none⟩) hbs).trans hxc, (hW.cell (p := ⟨b, o + i * 5, none⟩) hbl).trans d0, (hW.cell (p := ⟨b, o + i * 5 + 1, none⟩) hbl).trans d1, (hW.cell (p := ⟨b, o + i * 5 + 2, none⟩) hbl).trans d2, (hW.cell (p := ⟨b, o + i * 5 + 3, none⟩) hbl).trans d3, (hW.cell (p := ⟨b, o + i * 5 + 4, none⟩) hbl).trans d4⟩)
      have HD : Hid (Below w.heap.size w wr.drew) := Lib.hid (bstep HNB2.out.b (Below.refl _ wr).drew)
      obtain ⟨g', rfl⟩ : ∃ g', gk = g' + 1 := ⟨gk - 1, by omega⟩
      clear d0 d1 d2 d3 d4 hat hcell hxl hxc hxa hvv hname hnm hxn
      go_wp2_with fail
      refine wp_region_noPanic ?_
      refine wp_region_held_drew (S := fun (W : World) => W.cell? ⟨w.heap.size, 3, none⟩ = some (.slice (some ⟨bn, on, none⟩) K cn) ∧ W.cell? ⟨w.heap.size, 4, none⟩ = some (.slice (some ⟨b, o, none⟩) K ck) ∧ W.cell? ⟨bn, on + i, none⟩ = some (.string X) ∧ W.cell? ⟨bx, ox + i * 2, none⟩ = some (.string X) ∧ W.cell? ⟨bx, ox + i * 2 + 1, none⟩ = some x ∧ W.cell? ⟨b, o + i * 5, none⟩ = some y0 ∧ W.cell? ⟨b, o + i * 5 + 1, none⟩ = some y1 ∧ W.cell? ⟨b, o + i * 5 + 2, none⟩ = some y2 ∧ W.cell? ⟨b, o + i * 5 + 3, none⟩ = some y3 ∧ W.cell? ⟨b, o + i * 5 + 4, none⟩ = some y4) (by kernel_rfl) (HS.out _ HD.out (HNB2.out.below (Below.refl _ wr).drew).c3 (HNB2.out.below (Below.refl _ wr).drew).c4) (fun hHeld => ?_)
      refine wpAnyH_take (i := 0) (v := ?v0) rfl (by kernel_rfl) (by kernel_rfl) (by kernel_rfl) (fun _ _ _ h => h) (Or.inl ⟨by rfl, ?y0⟩) (by assumption) ?z0
      case y0 => intro W hSw; (try dsimp only at hSw); go_simp <;> with_reducible rfl
      simp only [Act.put, List.getElem_toArray, List.getElem_cons_zero, List.getElem_cons_succ, List.setIfInBounds_toArray, List.set_cons_zero, List.set_cons_succ]
      refine wpAnyH_take (i := 1) (v := ?v1) rfl (by kernel_rfl) (by kernel_rfl) (by kernel_rfl) (fun _ _ _ h => h) (Or.inl ⟨by rfl, ?y1⟩) (by assumption) ?z1
      case y1 => intro W hSw; (try dsimp only at hSw); go_simp <;> with_reducible rfl
      simp only [Act.put, List.getElem_toArray, List.getElem_cons_zero, List.getElem_cons_succ, List.setIfInBounds_toArray, List.set_cons_zero, List.set_cons_succ]
      refine wpAnyH_take (i := 2) (v := ?v2) rfl (by kernel_rfl) (by kernel_rfl) (by kernel_rfl) (fun _ _ _ h => h) (Or.inl ⟨by rfl, ?y2⟩) (by assumption) ?z2
      case y2 => intro W hSw; (try dsimp only at hSw); go_simp <;> with_reducible rfl
      simp only [Act.put, List.getElem_toArray, List.getElem_cons_zero, List.getElem_cons_succ, List.setIfInBounds_toArray, List.set_cons_zero, List.set_cons_succ]
      refine wpAnyH_take (i := 3) (v := ?v3) rfl (by kernel_rfl) (by kernel_rfl) (by kernel_rfl) (fun _ _ _ h => h) (Or.inl ⟨by rfl, ?y3⟩) (by assumption) ?z3
      case y3 => intro W hSw; (try dsimp only at hSw); go_simp <;> with_reducible rfl
      simp only [Act.put, List.getElem_toArray, List.getElem_cons_zero, List.getElem_cons_succ, List.setIfInBounds_toArray, List.set_cons_zero, List.set_cons_succ]
      refine wpAnyH_take (i := 4) (v := ?v4) rfl (by kernel_rfl) (by kernel_rfl) (by kernel_rfl) (fun _ _ _ h => h) (Or.inl ⟨by rfl, ?y4⟩) (by assumption) ?z4
      case y4 => intro W hSw; (try dsimp only at hSw); go_simp <;> with_reducible rfl
      simp only [Act.put, List.getElem_toArray, List.getElem_cons_zero, List.getElem_cons_succ, List.setIfInBounds_toArray, List.set_cons_zero, List.set_cons_succ]
      refine wpAnyH_take (i := 5) (v := ?v5) rfl (by kernel_rfl) (by kernel_rfl) (by kernel_rfl) (fun _ _ _ h => h) (Or.inl ⟨by rfl, ?y5⟩) (by assumption) ?z5
      case y5 => intro W hSw; (try dsimp only at hSw); go_simp <;> with_reducible rfl
      simp only [Act.put, List.getElem_toArray, List.getElem_cons_zero, List.getElem_cons_succ, List.setIfInBounds_toArray, List.set_cons_zero, List.set_cons_succ]
      refine wpAnyH_take (i := 6) (v := ?v6) rfl (by kernel_rfl) (by kernel_rfl) (by kernel_rfl) (fun _ _ _ h => h) (Or.inl ⟨by rfl, ?y6⟩) (by assumption) ?z6
      case y6 => intro W hSw; (try dsimp only at hSw); go_simp <;> with_reducible rfl
      simp only [Act.put, List.getElem_toArray, List.getElem_cons_zero, List.getElem_cons_succ, List.setIfInBounds_toArray, List.set_cons_zero, List.set_cons_succ]
      refine wpAnyH_take (i := 7) (v := ?v7) rfl (by kernel_rfl) (by kernel_rfl) (by kernel_rfl) (fun _ _ _ h => h) (Or.inl ⟨by rfl, ?y7⟩) (by assumption) ?z7
      case y7 => intro W hSw; (try dsimp only at hSw); go_simp <;> with_reducible rfl
      simp only [Act.put, List.getElem_toArray, List.getElem_cons_zero, List.getElem_cons_succ, List.setIfInBounds_toArray, List.set_cons_zero, List.set_cons_succ]
      refine wpAnyH_take (i := 8) (v := ?v8) rfl (by kernel_rfl) (by kernel_rfl) (by kernel_rfl) (fun _ _ _ h => h) (Or.inl ⟨by rfl, ?y8⟩) (by assumption) ?z8
      case y8 => intro W hSw; (try dsimp only at hSw); go_simp <;> with_reducible rfl
      simp only [Act.put, List.getElem_toArray, List.getElem_cons_zero, List.getElem_cons_succ, List.setIfInBounds_toArray, List.set_cons_zero, List.set_cons_succ]
      refine wpAnyH_take (i := 9) (v := ?v9) rfl (by kernel_rfl) (by kernel_rfl) (by kernel_rfl) (fun _ _ _ h => h) (Or.inl ⟨by rfl, ?y9⟩) (by assumption) ?z9
      case y9 => intro W hSw; (try dsimp only at hSw); go_simp <;> with_reducible rfl
      simp only [Act.put, List.getElem_toArray, List.getElem_cons_zero, List.getElem_cons_succ, List.setIfInBounds_toArray, List.set_cons_zero, List.set_cons_succ]
      refine wpAnyH_take (i := 10) (v := ?v10) rfl (by kernel_rfl) (by kernel_rfl) (by kernel_rfl) (fun _ _ _ h => h) (Or.inl ⟨by rfl, ?y10⟩) (by assumption) ?z10
      case y10 => intro W hSw; (try dsimp only at hSw); go_simp <;> with_reducible rfl
      simp only [Act.put, List.getElem_toArray, List.getElem_cons_zero, List.getElem_cons_succ, List.setIfInBounds_toArray, List.set_cons_zero, List.set_cons_succ]
      refine wpAnyH_take (i := 11) (v := ?v11) rfl (by kernel_rfl) (by kernel_rfl) (by kernel_rfl) (fun _ _ _ h => h) (Or.inl ⟨by rfl, ?y11⟩) (by assumption) ?z11
      case y11 => intro W hSw; (try dsimp only at hSw); go_simp <;> with_reducible rfl
      simp only [Act.put, List.getElem_toArray, List.getElem_cons_zero, List.getElem_cons_succ, List.setIfInBounds_toArray, List.set_cons_zero, List.set_cons_succ]
      refine wpAnyH_take (i := 12) (v := ?v12) rfl (by kernel_rfl) (by kernel_rfl) (by kernel_rfl) (fun _ _ _ h => h) (Or.inl ⟨by rfl, ?y12⟩) (by assumption) ?z12
      case y12 => intro W hSw; (try dsimp only at hSw); go_simp <;> with_reducible rfl
      simp only [Act.put, List.getElem_toArray, List.getElem_cons_zero, List.getElem_cons_succ, List.setIfInBounds_toArray, List.set_cons_zero, List.set_cons_succ]
      refine wpAnyH_take (i := 13) (v := ?v13) rfl (by kernel_rfl) (by kernel_rfl) (by kernel_rfl) (fun _ _ _ h => h) (Or.inl ⟨by rfl, ?y13⟩) (by assumption) ?z13
      case y13 => intro W hSw; (try dsimp only at hSw); go_simp <;> with_reducible rfl
      simp only [Act.put, List.getElem_toArray, List.getElem_cons_zero, List.getElem_cons_succ, List.setIfInBounds_toArray, List.set_cons_zero, List.set_cons_succ]
      refine wpAnyH_take (i := 14) (v := ?v14) rfl (by kernel_rfl) (by kernel_rfl) (by kernel_rfl) (fun _ _ _ h => h) (Or.inl ⟨by rfl, ?y14⟩) (by assumption) ?z14
      case y14 => intro W hSw; (try dsimp only at hSw); go_simp <;> with_reducible rfl
      simp only [Act.put, List.getElem_toArray, List.getElem_cons_zero, List.getElem_cons_succ, List.setIfInBounds_toArray, List.set_cons_zero, List.set_cons_succ]
      refine wpAnyH_take (i := 15) (v := ?v15) rfl (by kernel_rfl) (by kernel_rfl) (by kernel_rfl) (fun _ _ _ h => h) (Or.inl ⟨by rfl, ?y15⟩) (by assumption) ?z15
      case y15 => intro W hSw; (try dsimp only at hSw); go_simp <;> with_reducible rfl
      simp only [Act.put, List.getElem_toArray, List.getElem_cons_zero, List.getElem_cons_succ, List.setIfInBounds_toArray, List.set_cons_zero, List.set_cons_succ]
      refine wpAnyH_take (i := 16) (v := ?v16) rfl (by kernel_rfl) (by kernel_rfl) (by kernel_rfl) (fun _ _ _ h => h) (Or.inl ⟨by rfl, ?y16⟩) (by assumption) ?z16
      case y16 => intro W hSw; (try dsimp only at hSw); go_simp <;> with_reducible rfl
      simp only [Act.put, List.getElem_toArray, List.getElem_cons_zero, List.getElem_cons_succ, List.setIfInBounds_toArray, List.set_cons_zero, List.set_cons_succ]
      refine wpAnyH_take (i := 17) (v := ?v17) rfl (by kernel_rfl) (by kernel_rfl) (by kernel_rfl) (fun _ _ _ h => h) (Or.inl ⟨by rfl, ?y17⟩) (by assumption) ?z17
      case y17 => intro W hSw; (try dsimp only at hSw); go_simp <;> with_reducible rfl
      simp only [Act.put, List.getElem_toArray, List.getElem_cons_zero, List.getElem_cons_succ, List.setIfInBounds_toArray, List.set_cons_zero, List.set_cons_succ]
      refine wpAnyH_take (i := 18) (v := ?v18) rfl (by kernel_rfl) (by kernel_rfl) (by kernel_rfl) (fun _ _ _ h => h) (Or.inl ⟨by rfl, ?y18⟩) (by assumption) ?z18
      case y18 => intro W hSw; (try dsimp only at hSw); go_simp <;> with_reducible rfl
      simp only [Act.put, List.getElem_toArray, List.getElem_cons_zero, List.getElem_cons_succ, List.setIfInBounds_toArray, List.set_cons_zero, List.set_cons_succ]
      refine wpAnyH_take (i := 19) (v := ?v19) rfl (by kernel_rfl) (by kernel_rfl) (by kernel_rfl) (fun _ _ _ h => h) (Or.inl ⟨by rfl, ?y19⟩) (by assumption) ?z19
      case y19 => intro W hSw; (try dsimp only at hSw); go_simp <;> with_reducible rfl
      simp only [Act.put, List.getElem_toArray, List.getElem_cons_zero, List.getElem_cons_succ, List.setIfInBounds_toArray, List.set_cons_zero, List.set_cons_succ]
      refine wpAnyH_take (i := 20) (v := ?v20) rfl (by kernel_rfl) (by kernel_rfl) (by kernel_rfl) (fun _ _ _ h => h) (Or.inl ⟨by rfl, ?y20⟩) (by assumption) ?z20
      case y20 => intro W hSw; (try dsimp only at hSw); go_simp <;> with_reducible rfl
      simp only [Act.put, List.getElem_toArray, List.getElem_cons_zero, List.getElem_cons_succ, List.setIfInBounds_toArray, List.set_cons_zero, List.set_cons_succ]
      refine wpAnyH_take (i := 21) (v := ?v21) rfl (by kernel_rfl) (by kernel_rfl) (by kernel_rfl) (fun _ _ _ h => h) (Or.inl ⟨by rfl, ?y21⟩) (by assumption) ?z21
      case y21 => intro W hSw; (try dsimp only at hSw); go_simp <;> with_reducible rfl
      simp only [Act.put, List.getElem_toArray, List.getElem_cons_zero, List.getElem_cons_succ, List.setIfInBounds_toArray, List.set_cons_zero, List.set_cons_succ]
      refine wpAnyH_ready (rs := [22]) (by kernel_rfl) (by simp) ?_
      refine AllReadyH.cons rfl (fun K' hK => ?_) AllReadyH.nil
      go_simp
      refine (HC.out _ HD.out).mono ?_
      rintro e w3 ⟨rfl, hb3⟩
      have HB3 := Lib.hid (bstep HD.out hb3)
      have HNB3 := Lib.hid (HNB2.out.below (bstep (Below.refl _ wr).drew hb3))
      clear hb3
      go_wp2_with fail
      refine hK.out _ _ (HS.out _ HB3.out HNB3.out.c3 HNB3.out.c4) (fun hHeld2 => ?_)
      clear hK K'
      try simp only [Act.put, List.getElem_toArray, List.getElem_cons_zero, List.getElem_cons_succ, List.setIfInBounds_toArray, List.set_cons_zero, List.set_cons_succ]
      refine wpAnyH_take (i := 23) (v := ?v23) rfl (by kernel_rfl) (by kernel_rfl) (by kernel_rfl) (fun _ _ _ h => h) (Or.inl ⟨by rfl, ?y23⟩) (by assumption) ?z23
      case y23 => intro W hSw; (try dsimp only at hSw); go_simp <;> with_reducible rfl
      simp only [Act.put, List.getElem_toArray, List.getElem_cons_zero, List.getElem_cons_succ, List.setIfInBounds_toArray, List.set_cons_zero, List.set_cons_succ]
      refine wpAnyH_take (i := 24) (v := ?v24) rfl (by kernel_rfl) (by kernel_rfl) (by kernel_rfl) (fun _ _ _ h => h) (Or.inl ⟨by rfl, ?y24⟩) (by assumption) ?z24
      case y24 => intro W hSw; (try dsimp only at hSw); go_simp <;> with_reducible rfl
      simp only [Act.put, List.getElem_toArray, List.getElem_cons_zero, List.getElem_cons_succ, List.setIfInBounds_toArray, List.set_cons_zero, List.set_cons_succ]
      refine wpAnyH_done (by kernel_rfl) ?_ _
      refine NoPanic.normal ?_
      go_wp2_with fail
      go_roundg g'
      case measure => omega
      case rel => exact ⟨i + 1, by simp, by omega, HNB3⟩
    · have ti : decide ((i : Int) < (K : Int)) = false := decide_eq_false (by omega)
      go_wp2_with fail
      go_ret
      exact ⟨by first | rfl | simp, HNB2.out.b⟩
theorem law_equal (m : Nat) : ∀ (v : ND), sizeN v ≤ m → m ≤ 250 → goodN v → wfN v → EqOk v := by
  induction m with
  | zero =>
    intro v hm
    cases v with
    | mk k n s names kids => rw [sizeN] at hm; omega
  | succ m ih =>
    intro v hm hm2 hg hw
    cases v with
    | mk k n s names kids =>
    rw [goodN] at hg
    rw [wfN] at hw
    rw [sizeN] at hm
    have hl := sizeL_len kids
    obtain ⟨g1, g2, g3, g4, g5⟩ := hg
    obtain ⟨f1, f2, f3, f4, f5, f6, f7⟩ := hw
    have IH : ∀ u ∈ kids, EqOk u := fun u hu => ih u (by have := sizeN_mem kids u hu; omega) (by omega) (goodL_mem kids g5 u hu) (wfL_mem kids f7 u hu)
    by_cases h5 : k = 5
    · subst h5; exact equal_list n s names kids (by omega) IH
    by_cases h6 : k = 6
    · subst h6; exact equal_obj n s names kids (by omega) (g2 rfl) IH
    · exact equal_flat k n s names kids (by have := (bounds_u8 f1).1; exact this) h5 h6
end Go.Proofs.YtcmkepkeeahioaaGreatDoor
namespace Go.Proofs.YtcmkepkeeahioaaGreatDoor
open Go.RowKit

theorem conv_list (W : World) (zs : List Int) (h : ∀ z ∈ zs, 0 ≤ z ∧ z < 256) :
    (convert 51 9 (.slice (some ⟨W.heap.size, 0, none⟩) zs.length zs.length)).run Tryz.prog (W.alloc (.cells (zs.map (Value.int .u8)).toArray 5)) = .ok (.string (bs (zs.map fun x => x.toNat.toUInt8))) (W.alloc (.cells (zs.map (Value.int .u8)).toArray 5)) := by
  have := run_convert_bytes_back (P := Tryz.prog) (W.alloc (.cells (zs.map (Value.int .u8)).toArray 5)) 51 9 5 ⟨W.heap.size, 0, none⟩ zs.length (zs.map fun x => x.toNat.toUInt8) Tryz.underlying51 Tryz.underlying5 Tryz.underlying9 (fun j hj => by
    rw [List.length_map] at hj
    have e : (W.alloc (.cells (zs.map (Value.int .u8)).toArray 5)).cell? (Addr.add ⟨W.heap.size, 0, none⟩ j) = some (.int .u8 zs[j]) := by
      have := World.cell?_alloc_new W (zs.map (Value.int .u8)).toArray 5 (0 + j)
      rw [show Addr.add ⟨W.heap.size, 0, none⟩ j = ⟨W.heap.size, 0 + j, none⟩ by unfold Addr.add; split <;> simp_all, this, Nat.zero_add]
      simp [hj]
    rw [e, List.getElem_map]
    have := h zs[j] (List.getElem_mem hj)
    rw [byte_z _ this.1 this.2]
    congr 2; omega)
  rw [List.length_map] at this
  exact this
theorem refB_of (c : Nat) (zs : List Int) (hg : c < 55296 ∨ (57343 < c ∧ c ≤ 1114111)) (h : Go.Lib.encodeRuneZ (c : Int) = zs) : (zs.map fun x => x.toNat.toUInt8) = refB c := by
  unfold refB Go.Lib.encodeRune; rw [if_pos hg, h]
theorem refB_no (c : Nat) (hg : ¬ (c < 55296 ∨ (57343 < c ∧ c ≤ 1114111))) : refB c = [] := if_neg hg
set_option maxRecDepth 100000 in
set_option maxHeartbeats 1000000 in
theorem ref_bytes (c : Nat) (w : World) (hc : c ≤ 100000000) : Calls Tryz.prog 85 #[.int .i64 (c : Int)] w fun e w' => e = .returned (.string (bs (refB c))) ∧ Below w.heap.size w w' := by
  have t0 : decide ((c : Int) < 0) = false := decide_eq_false (by omega)
  by_cases h1 : 1114111 < c
  · have H : Hid (refB c = []) := Lib.hid (refB_no c (by omega))
    have t1 : decide ((c : Int) > 1114111) = true := decide_eq_true (by omega)
    go_enter Tryz.func85, Tryz.ntmps85
    go_wp2_with fail
    go_ret
    exact ⟨by rw [H.out]; rfl, Below.refl _ _⟩
  have t1 : decide ((c : Int) > 1114111) = false := decide_eq_false (by omega)
  by_cases h2 : 55296 ≤ c ∧ c ≤ 57343
  · have H : Hid (refB c = []) := Lib.hid (refB_no c (by omega))
    have t2 : decide ((c : Int) ≥ 55296) = true := decide_eq_true (by omega)
    have t3 : decide ((c : Int) ≤ 57343) = true := decide_eq_true (by omega)
    clear h1 h2
    go_enter Tryz.func85, Tryz.ntmps85
    go_wp2_with fail
    go_ret
    exact ⟨by rw [H.out]; rfl, Below.refl _ _⟩
  by_cases h3 : c < 128
  · have t2 : decide ((c : Int) ≥ 55296) = false := decide_eq_false (by omega)
    have t4 : decide ((c : Int) < 128) = true := decide_eq_true (by omega)
    have k := conv_list w [(c : Int)] (by intro z hz; simp at hz; omega)
    rw [refB_of c _ (by omega) (Go.Lib.encodeRuneZ_one (by omega) (by omega))] at k
    simp only [List.map_cons, List.map_nil, List.length_cons, List.length_nil, Nat.reduceAdd] at k
    generalize bs (refB c) = R at k ⊢
    clear h1 h2
    go_enter Tryz.func85, Tryz.ntmps85
    go_wp2_with fail
    go_ret
    exact ⟨rfl, (Below.refl _ _).alloc (Nat.le_refl _) _⟩
  have t4 : decide ((c : Int) < 128) = false := decide_eq_false (by omega)
  by_cases h4 : c < 2048
  · have t2 : decide ((c : Int) ≥ 55296) = false := decide_eq_false (by omega)
    have t5 : decide ((c : Int) < 2048) = true := decide_eq_true (by omega)
    have k := conv_list w [192 + (c : Int) / 64, 128 + (c : Int) % 64] (by intro z hz; simp at hz; omega)
    rw [refB_of c _ (by omega) (Go.Lib.encodeRuneZ_two (by omega) (by omega))] at k
    simp only [List.map_cons, List.map_nil, List.length_cons, List.length_nil, Nat.reduceAdd] at k
    generalize bs (refB c) = R at k ⊢
    clear h1 h2
    go_enter Tryz.func85, Tryz.ntmps85
    go_wp2_with fail
    go_ret
    exact ⟨rfl, (Below.refl _ _).alloc (Nat.le_refl _) _⟩
  have t5 : decide ((c : Int) < 2048) = false := decide_eq_false (by omega)
  by_cases h5 : c < 65536
  · have t6 : decide ((c : Int) < 65536) = true := decide_eq_true (by omega)
    have k := conv_list w [224 + (c : Int) / 4096, 128 + (c : Int) / 64 % 64, 128 + (c : Int) % 64] (by intro z hz; simp at hz; omega)
    rw [refB_of c _ (by omega) (Go.Lib.encodeRuneZ_three (by omega))] at k
    simp only [List.map_cons, List.map_nil, List.length_cons, List.length_nil, Nat.reduceAdd] at k
    generalize bs (refB c) = R at k ⊢
    by_cases h6 : c < 55296
    · have t2 : decide ((c : Int) ≥ 55296) = false := decide_eq_false (by omega)
      clear h1 h2
      go_enter Tryz.func85, Tryz.ntmps85
      go_wp2_with fail
      go_ret
      exact ⟨rfl, (Below.refl _ _).alloc (Nat.le_refl _) _⟩
    · have t2 : decide ((c : Int) ≥ 55296) = true := decide_eq_true (by omega)
      have t3 : decide ((c : Int) ≤ 57343) = false := decide_eq_false (by omega)
      clear h1 h2
      go_enter Tryz.func85, Tryz.ntmps85
      go_wp2_with fail
      go_ret
      exact ⟨rfl, (Below.refl _ _).alloc (Nat.le_refl _) _⟩
  · have t6 : decide ((c : Int) < 65536) = false := decide_eq_false (by omega)
    have t2 : decide ((c : Int) ≥ 55296) = true := decide_eq_true (by omega)
    have t3 : decide ((c : Int) ≤ 57343) = false := decide_eq_false (by omega)
    have k := conv_list w [240 + (c : Int) / 262144, 128 + (c : Int) / 4096 % 64, 128 + (c : Int) / 64 % 64, 128 + (c : Int) % 64] (by intro z hz; simp at hz; omega)
    rw [refB_of c _ (by omega) (Go.Lib.encodeRuneZ_four (by omega) (by omega))] at k
    simp only [List.map_cons, List.map_nil, List.length_cons, List.length_nil, Nat.reduceAdd] at k
    generalize bs (refB c) = R at k ⊢
    clear h2
    go_enter Tryz.func85, Tryz.ntmps85
    go_wp2_with fail
    go_ret
    exact ⟨rfl, (Below.refl _ _).alloc (Nat.le_refl _) _⟩
end Go.Proofs.YtcmkepkeeahioaaGreatDoor
namespace Go.Proofs.YtcmkepkeeahioaaGreatDoor
open Go.RowKit

theorem extract_to (s : ByteArray) (n : Nat) : s.extract 0 n = bs (s.data.toList.take n) := by rw [extract_bs, List.drop_zero]
theorem getD_byte (s : ByteArray) (k : Nat) (h : k < s.size) : s.data.toList.getD k 0 = s[k] := by
  rw [List.getD_eq_getElem?_getD, List.getElem?_eq_getElem (by simpa using h)]; rfl
set_option maxRecDepth 100000 in
set_option maxHeartbeats 4000000 in
theorem ref_rune (s : ByteArray) (w : World) (h0 : 0 < s.size) (hs : s.size ≤ 1000000) : Calls Tryz.prog 66 #[.string s] w fun e w' => e = .returned (.string (bs (refR s.data.toList))) ∧ Below w.heap.size w w' := by
  obtain ⟨L, hL⟩ : ∃ L, s.data.toList = L := ⟨_, rfl⟩
  have hLl : L.length = s.size := by rw [← hL, size_len]
  rw [hL]
  have HL := Lib.hid hL
  have HLl := Lib.hid hLl
  clear hL hLl
  have hz : ((s[0].toNat : Nat) : Int) < 256 := by have := s[0].toNat_lt; omega
  go_enter Tryz.func66, Tryz.ntmps66
  go_wp2_with fail
  go_loopg [3] 5 (fun gk s3 wx => ∃ n : Nat, s3 = .int .i64 (n : Int) ∧ 1 ≤ n ∧ n + gk = 6 ∧ Below w.heap.size w wx ∧ Hid (∀ m, 1 ≤ m → m < n → m ≤ s.size → refB (codeN L m (m - 1)) ≠ L.take m))
  case atStart => exact ⟨1, by simp, by omega, by omega, Below.refl _ _, Lib.hid (fun m h1 h2 _ => absurd h2 (by omega))⟩
  case round =>
    obtain ⟨n, rfl, hn1, hgk, hbx, HN⟩ := hrel
    by_cases hn : n ≤ 4 ∧ n ≤ s.size
    · obtain ⟨hn4, hns⟩ := hn
      obtain ⟨g', rfl⟩ : ∃ g', gk = g' + 1 := ⟨gk - 1, by omega⟩
      have tn : decide ((n : Int) ≤ 4) = true := decide_eq_true (by omega)
      have HC0 : Hid (codeN L n 0 = leadN n (s[0].toNat)) := Lib.hid (by show leadN n _ = _; rw [← HL.out, getD_byte s 0 h0])
      have HCS : Hid (∀ i (h : i + 1 < s.size), codeN L n (i + 1) = 64 * codeN L n i + s[i + 1].toNat % 64) := Lib.hid (fun i h => by show 64 * codeN L n i + _ % 64 = _; rw [← HL.out, getD_byte s _ h])
      have hcase : (n = 1 ∧ ((n : Int) == 2) = false ∧ ((n : Int) == 3) = false ∧ ((n : Int) == 4) = false) ∨ (n = 2 ∧ ((n : Int) == 2) = true ∧ ((n : Int) == 3) = false ∧ ((n : Int) == 4) = false) ∨ (n = 3 ∧ ((n : Int) == 2) = false ∧ ((n : Int) == 3) = true ∧ ((n : Int) == 4) = false) ∨ (n = 4 ∧ ((n : Int) == 2) = false ∧ ((n : Int) == 3) = false ∧ ((n : Int) == 4) = true) := by
        simp only [beq_iff_eq, beq_eq_false_iff_ne]; omega
      rcases hcase with ⟨e, t2, t3, t4⟩ | ⟨e, t2, t3, t4⟩ | ⟨e, t2, t3, t4⟩ | ⟨e, t2, t3, t4⟩
      all_goals
        have HE := Lib.hid e
        clear e
        go_wp2_with fail
        go_loopg [4, 5] n (fun gi s4 s5 wi => ∃ j K : Nat, s5 = .int .i64 (j : Int) ∧ s4 = .int .i64 (K : Int) ∧ wi = wr ∧ 1 ≤ j ∧ j ≤ n ∧ n ≤ j + gi ∧ Hid (codeN L n (j - 1) = K))
        case atStart =>
          refine ⟨1, leadN n s[0].toNat, by simp, ?_, rfl, by omega, by omega, by omega, HC0⟩
          rw [HE.out]; rfl
        case round =>
          obtain ⟨j, K, rfl, rfl, rfl, hj1, hjn, hgi, HK⟩ := hrel
          have hKb := codeN_le L n (j - 1)
          rw [HK.out] at hKb
          by_cases hjl : j < n
          · obtain ⟨gi', rfl⟩ : ∃ gi', gk = gi' + 1 := ⟨gk - 1, by omega⟩
            have hj3 : j = 1 ∨ j = 2 ∨ j = 3 := by omega
            have hK2 : K < 1048576 := by
              rcases hj3 with h | h | h <;> subst h <;> simp at hKb <;> omega
            have hjs : j < s.size := by omega
            have hsb := s[j].toNat_lt
            have tj : decide ((j : Int) < (n : Int)) = true := decide_eq_true (by omega)
            have HK2 : Hid (codeN L n (j + 1 - 1) = 64 * K + s[j].toNat % 64) := Lib.hid (by
              obtain ⟨i, rfl⟩ : ∃ i, j = i + 1 := ⟨j - 1, by omega⟩
              have := HCS.out i (by omega)
              rw [show i + 1 - 1 = i by omega] at HK
              rw [show i + 1 + 1 - 1 = i + 1 by omega, this, HK.out])
            clear hKb hj3
            go_wp2_with fail
            go_roundg gi'
            case measure => omega
            case rel => exact ⟨j + 1, 64 * K + s[j].toNat % 64, by simp, by simp, rfl, by omega, by omega, by omega, HK2⟩
          · obtain rfl : j = n := by omega
            have tj : decide ((j : Int) < (j : Int)) = false := decide_eq_false (by omega)
            have hK2 : K ≤ 67108864 := by
              have : j - 1 ≤ 3 := by omega
              have := Nat.pow_le_pow_right (show 0 < 64 by decide) this
              omega
            have HB := Lib.hid (fun w => ref_bytes K w (by omega))
            clear hKb
            have hxs : (s.extract 0 j) = bs (L.take j) := by rw [extract_to, HL.out]
            by_cases hm : refB K = L.take j
            · have HR : Hid (s.extract 0 j = bs (refR L)) := Lib.hid (by
                rw [hxs, refR_hit L j (by omega) (by rw [HLl.out]; exact hns) (by rw [HK.out]; exact hm)])
              have teq : ((bs (refB K)).toList == (s.extract 0 j).toList) = true := by rw [hxs, bs_beq]; exact decide_eq_true hm
              clear hm hxs
              go_wp2_with fail
              refine wp_region_quiet_below (by kernel_rfl) (by kernel_rfl) ?_
              repeat (go_big_quiet_step ((go_at_call 85; exact below_of (HB.out _))))
              refine wpQuiet_nil ?_
              intro W1 hw'
              have hb1 := of_class hw'
              clear hw'
              go_wp2_with fail
              go_ret
              exact ⟨by rw [HR.out]; rfl, bstep hbx hb1⟩
            · have teq : ((bs (refB K)).toList == (s.extract 0 j).toList) = false := by rw [hxs, bs_beq]; exact decide_eq_false hm
              have HN2 : Hid (∀ m, 1 ≤ m → m < j + 1 → m ≤ s.size → refB (codeN L m (m - 1)) ≠ L.take m) := Lib.hid (fun m h1 h2 h3 => by
                by_cases e : m = j
                · rw [e, HK.out]; exact hm
                · exact HN.out m h1 (by omega) h3)
              clear hm hxs
              go_wp2_with fail
              refine wp_region_quiet_below (by kernel_rfl) (by kernel_rfl) ?_
              repeat (go_big_quiet_step ((go_at_call 85; exact below_of (HB.out _))))
              refine wpQuiet_nil ?_
              intro W1 hw'
              have hb1 := of_class hw'
              clear hw'
              go_wp2_with fail
              go_roundg g'
              case measure => omega
              case rel => exact ⟨j + 1, by simp, by omega, by omega, bstep hbx hb1, HN2⟩
    · have HR : Hid (refR L = []) := Lib.hid (refR_none L (fun m h1 h2 h3 => HN.out m h1 (by rw [HLl.out] at h3; omega) (by rw [HLl.out] at h3; exact h3)))
      by_cases hn4 : n ≤ 4
      · have tn : decide ((n : Int) ≤ 4) = true := decide_eq_true (by omega)
        have tm : decide ((n : Int) ≤ (s.size : Int)) = false := decide_eq_false (by omega)
        go_wp2_with fail
        go_ret
        exact ⟨by rw [HR.out]; rfl, hbx⟩
      · have tn : decide ((n : Int) ≤ 4) = false := decide_eq_false (by omega)
        go_wp2_with fail
        go_ret
        exact ⟨by rw [HR.out]; rfl, hbx⟩
end Go.Proofs.YtcmkepkeeahioaaGreatDoor
