/- The law NotesPuts returns true (printed by wip/genputs17.py). -/
import Derived.Test.YtcmkepkeeahioaaGreatDoorPw9
set_option linter.unusedVariables false
set_option linter.unusedSimpArgs false
namespace Go.Proofs.YtcmkepkeeahioaaGreatDoor
open Go.RowKit
theorem text_kind (k n : Int) (s : ByteArray) (names : List ByteArray) (kids : List ND) : textJ (valN (.mk k n s names kids)) = if k = 4 then some s.data.toList else none := by
  rw [valN]
  by_cases k4 : k = 4
  · subst k4; rfl
  rw [if_neg k4, if_neg k4]
  split <;> first | rfl | (split <;> first | rfl | (split <;> first | rfl | (split <;> first | rfl | (split <;> first | rfl | (split <;> rfl)))))
theorem findK_mem : ∀ (names : List ByteArray) (kids : List ND) (q : ByteArray) (u : ND), findK names kids q = some u → u ∈ kids
  | [], _, _, _, h => by cases h
  | _ :: _, [], _, _, h => by cases h
  | a :: t, v :: l, q, u, h => by
    rw [findK] at h
    by_cases e : a = q
    · rw [if_pos e] at h; cases h; exact List.mem_cons_self ..
    · rw [if_neg e] at h; exact List.mem_cons_of_mem _ (findK_mem t l q u h)
theorem findN_good {v u : ND} {q : ByteArray} (h : findN v q = some u) (hg : goodN v) (hz : sizeN v ≤ 200) (hw : wfN v) : goodN u ∧ sizeN u ≤ 200 ∧ wfN u := by
  cases v with
  | mk k n s names kids =>
  rw [findN] at h
  split at h
  · have hm := findK_mem _ _ _ _ h
    rw [goodN] at hg
    rw [wfN] at hw
    rw [sizeN] at hz
    have := sizeN_mem kids u hm
    exact ⟨goodL_mem kids hg.2.2.2.2 u hm, by omega, wfL_mem kids hw.2.2.2.2.2.2 u hm⟩
  · cases h
set_option maxRecDepth 100000 in
set_option maxHeartbeats 16000000 in
theorem notesPuts_walk (v v2 : ND) (q : ByteArray) (x0 x1 x2 x3 x4 y0 y1 y2 y3 y4 : Value) (w : World) (hv : NAt w v x0 x1 x2 x3 x4) (hw : wfN v) (hv2 : NAt w v2 y0 y1 y2 y3 y4) (hw2 : wfN v2) (hE : NEnv w) :
    Calls Tryz.prog 3 #[.agg #[x0, x1, x2, x3, x4], .agg #[y0, y1, y2, y3, y4], .string q] w fun e w' => e = .returned (.bool true) ∧ Below w.heap.size w w' := by
  cases v with
  | mk k n sv names kids =>
  have hx0 : x0 = .int .u8 k ∧ x2 = .string sv := by rw [NAt] at hv; exact ⟨hv.1, hv.2.2.1⟩
  obtain ⟨rfl, rfl⟩ := hx0
  obtain ⟨W0, hW0⟩ : ∃ W0, (w.alloc (.cells #[.int .u8 k, x1, .string sv, x3, x4] 25)).alloc (.cells #[y0, y1, y2, y3, y4] 25) = W0 := ⟨_, rfl⟩
  have nA := NB.new w (.int .u8 k) x1 (.string sv) x3 x4 25
  have nB := NB.new (w.alloc (.cells #[.int .u8 k, x1, .string sv, x3, x4] 25)) y0 y1 y2 y3 y4 25
  have nA := nA.below nB.b
  rw [hW0] at nA nB
  have hsz : (w.alloc (.cells #[.int .u8 k, x1, .string sv, x3, x4] 25)).heap.size = w.heap.size + 1 := by simp
  have HB0 := Lib.hid nA.b
  have HC0 := Lib.hid (Below.refl W0.heap.size W0)
  have HS : Hid (∀ W, Below W0.heap.size W0 W → (fun (W : World) => (W.cell? ⟨w.heap.size, 0, none⟩ = some (.int .u8 k) ∧ W.cell? ⟨w.heap.size, 1, none⟩ = some x1 ∧ W.cell? ⟨w.heap.size, 2, none⟩ = some (.string sv) ∧ W.cell? ⟨w.heap.size, 3, none⟩ = some x3 ∧ W.cell? ⟨w.heap.size, 4, none⟩ = some x4) ∧ (W.cell? ⟨w.heap.size + 1, 0, none⟩ = some y0 ∧ W.cell? ⟨w.heap.size + 1, 1, none⟩ = some y1 ∧ W.cell? ⟨w.heap.size + 1, 2, none⟩ = some y2 ∧ W.cell? ⟨w.heap.size + 1, 3, none⟩ = some y3 ∧ W.cell? ⟨w.heap.size + 1, 4, none⟩ = some y4)) W) := Lib.hid (fun W hW => by
    have nA := nA.below hW
    refine ⟨⟨nA.c0, nA.c1, nA.c2, nA.c3, nA.c4⟩, ?_⟩
    have hlt : w.heap.size + 1 < W0.heap.size := by rw [← hsz]; exact nB.lt
    exact ⟨(hW.cell (p := ⟨w.heap.size + 1, 0, none⟩) hlt).trans (by rw [← hsz]; exact nB.c0), (hW.cell (p := ⟨w.heap.size + 1, 1, none⟩) hlt).trans (by rw [← hsz]; exact nB.c1), (hW.cell (p := ⟨w.heap.size + 1, 2, none⟩) hlt).trans (by rw [← hsz]; exact nB.c2), (hW.cell (p := ⟨w.heap.size + 1, 3, none⟩) hlt).trans (by rw [← hsz]; exact nB.c3), (hW.cell (p := ⟨w.heap.size + 1, 4, none⟩) hlt).trans (by rw [← hsz]; exact nB.c4)⟩)
  clear nA nB hsz
  have HAW : Hid (∀ W, Below w.heap.size w W → Calls Tryz.prog 7 #[] W fun e w' => e = .returned (.bool true) ∧ Below W.heap.size W w') := Lib.hid (fun W hW => law_awake W (hE.below hW))
  have HL1 : Hid (∀ W, Below w.heap.size w W → Calls Tryz.prog 6 #[.agg #[.int .u8 k, x1, .string sv, x3, x4], .int .i64 200] W fun e w' => e = .returned (.bool (decide (weighN (.mk k n sv names kids) 200 ≥ 0))) ∧ Below W.heap.size W w') := Lib.hid (fun W hW => ref_light _ _ _ _ _ _ 200 W (hv.below hW) hw (by decide) (by decide))
  have HL2 : Hid (∀ W, Below w.heap.size w W → Calls Tryz.prog 6 #[.agg #[y0, y1, y2, y3, y4], .int .i64 200] W fun e w' => e = .returned (.bool (decide (weighN v2 200 ≥ 0))) ∧ Below W.heap.size W w') := Lib.hid (fun W hW => ref_light _ _ _ _ _ _ 200 W (hv2.below hW) hw2 (by decide) (by decide))
  by_cases hl1 : weighN (.mk k n sv names kids) 200 ≥ 0
  case neg =>
    rw [decide_eq_false hl1] at HL1
    clear hv hw hv2 hw2 hE hl1 HL2
    obtain ⟨⟨p0, p1, p2, p3, p4⟩, ⟨r0, r1, r2, r3, r4⟩⟩ := HS.out _ HC0.out
    go_enter Tryz.func3, Tryz.ntmps3
    go_wp2_with fail
    try rw [hW0]
    clear hW0
    refine (HL1.out _ HB0.out).mono ?_
    rintro e w1 ⟨rfl, hb1⟩
    have HB1 := Lib.hid (bstep HB0.out hb1)
    clear hb1
    go_wp2_with fail
    refine (HAW.out _ HB1.out).mono ?_
    rintro e z1 ⟨rfl, hbz1⟩
    have HBZ := Lib.hid (bstep HB1.out hbz1)
    clear hbz1
    go_wp2_with fail
    go_ret
    exact ⟨rfl, HBZ.out⟩
  rw [decide_eq_true hl1] at HL1
  by_cases hl2 : weighN v2 200 ≥ 0
  case neg =>
    rw [decide_eq_false hl2] at HL2
    clear hv hw hv2 hw2 hE hl1 hl2
    obtain ⟨⟨p0, p1, p2, p3, p4⟩, ⟨r0, r1, r2, r3, r4⟩⟩ := HS.out _ HC0.out
    go_enter Tryz.func3, Tryz.ntmps3
    go_wp2_with fail
    try rw [hW0]
    clear hW0
    refine (HL1.out _ HB0.out).mono ?_
    rintro e w1 ⟨rfl, hb1⟩
    have HB1 := Lib.hid (bstep HB0.out hb1)
    have HC1 := Lib.hid (bstep HC0.out hb1)
    clear hb1
    clear p0 p1 p2 p3 p4 r0 r1 r2 r3 r4
    obtain ⟨⟨p0, p1, p2, p3, p4⟩, ⟨r0, r1, r2, r3, r4⟩⟩ := HS.out _ HC1.out
    go_wp2_with fail
    refine (HL2.out _ HB1.out).mono ?_
    rintro e w2 ⟨rfl, hb2⟩
    have HB2 := Lib.hid (bstep HB1.out hb2)
    clear hb2
    go_wp2_with fail
    refine (HAW.out _ HB2.out).mono ?_
    rintro e z1 ⟨rfl, hbz1⟩
    have HBZ := Lib.hid (bstep HB2.out hbz1)
    clear hbz1
    go_wp2_with fail
    go_ret
    exact ⟨rfl, HBZ.out⟩
  rw [decide_eq_true hl2] at HL2
  obtain ⟨hg, hz⟩ := light_good _ hl1
  obtain ⟨hg2, hz2⟩ := light_good _ hl2
  have hsm := small_of _ hg hz hw
  have hjs := json_of _ hg hz
  have hsm2 := small_of _ hg2 hz2 hw2
  have hjs2 := json_of _ hg2 hz2
  have HOWN : Hid (∀ W, Below w.heap.size w W → Calls Tryz.prog 8 #[.agg #[.int .u8 k, x1, .string sv, x3, x4]] W fun e w' => ∃ y S, e = .returned y ∧ AV S w' (valN (.mk k n sv names kids)) y ∧ (∀ i, S i → i < w'.heap.size) ∧ Below W.heap.size W w') := Lib.hid (fun W hW => (own_of _ _ _ _ _ _ W (hv.below hW) hg hz hw).mono (fun e w' ⟨y, S, h1, h2, h3, h4⟩ => ⟨y, S, h1, h2, fun i hi => (h3 i hi).2, h4⟩))
  have HOWN2 : Hid (∀ W, Below w.heap.size w W → Calls Tryz.prog 8 #[.agg #[y0, y1, y2, y3, y4]] W fun e w' => ∃ y S, e = .returned y ∧ AV S w' (valN v2) y ∧ (∀ i, S i → i < w'.heap.size) ∧ Below W.heap.size W w') := Lib.hid (fun W hW => (own_of _ _ _ _ _ _ W (hv2.below hW) hg2 hz2 hw2).mono (fun e w' ⟨y, S, h1, h2, h3, h4⟩ => ⟨y, S, h1, h2, fun i hi => (h3 i hi).2, h4⟩))
  have HPUT : Hid (∀ W (S : Nat → Prop) x, Below w.heap.size w W → AV S W (valN (.mk k n sv names kids)) x → (∀ i, S i → i < W.heap.size) → Calls Tryz.prog 9 #[x] W fun e w' => e = .returned (.tuple #[.string (bs (putT (valN (.mk k n sv names kids)))), .int .i64 (putF (valN (.mk k n sv names kids)) : Nat)]) ∧ Below W.heap.size W w') := Lib.hid (fun W S x hW hx hS => n_Put _ x W S hsm hx hS (hE.below hW) (fun h => by have := hjs h; omega))
  have HRP : Hid (∀ W, Below w.heap.size w W → Calls Tryz.prog 10 #[.agg #[.int .u8 k, x1, .string sv, x3, x4]] W fun e w' => e = .returned (.tuple #[.string (bs (putT (valN (.mk k n sv names kids)))), .int .i64 (putF (valN (.mk k n sv names kids)) : Nat)]) ∧ Below W.heap.size W w') := Lib.hid (fun W hW => ref_Put _ _ _ _ _ _ W (hv.below hW) hg hw (by omega))
  have HCHK : Hid (∀ W (S : Nat → Prop) x, Below w.heap.size w W → AV S W (valN (.mk k n sv names kids)) x → (∀ i, S i → i < W.heap.size) → Calls Tryz.prog 14 #[x] W fun e w' => e = .returned (.int .i64 (chk (valN (.mk k n sv names kids)) 1 : Nat)) ∧ Below W.heap.size W w') := Lib.hid (fun W S x hW hx hS => n_Check _ x W S hsm hx hS (hE.below hW).tabs)
  have HRCHK : Hid (∀ W, Below w.heap.size w W → Calls Tryz.prog 15 #[.agg #[.int .u8 k, x1, .string sv, x3, x4]] W fun e w' => e = .returned (.int .i64 (chk (valN (.mk k n sv names kids)) 1 : Nat)) ∧ Below W.heap.size W w') := Lib.hid (fun W hW => ref_Check _ _ _ _ _ _ W (hv.below hW) hg hw)
  have HFIND : Hid (∀ W (S : Nat → Prop) x, Below w.heap.size w W → AV S W (valN (.mk k n sv names kids)) x → (∀ i, S i → i < W.heap.size) → Calls Tryz.prog 11 #[x, .string q] W fun e w' => (∃ y, e = .returned (.tuple #[y, .bool (findN (.mk k n sv names kids) q).isSome]) ∧ FindR S W ((findN (.mk k n sv names kids) q).map valN) y) ∧ Below W.heap.size W w') := Lib.hid (fun W S x hW hx hS => by
    have h := n_Find (valN (.mk k n sv names kids)) x q.data.toList W S hsm hx hS
    rw [bs_self, findN_val, Option.isSome_map] at h
    exact h)
  have HRF : Hid (∀ W, Below w.heap.size w W → Calls Tryz.prog 12 #[.agg #[.int .u8 k, x1, .string sv, x3, x4], .string q] W fun e w' => (∃ z0 z1 z2 z3 z4, e = .returned (.tuple #[.agg #[z0, z1, z2, z3, z4], .bool (findN (.mk k n sv names kids) q).isSome]) ∧ RFindR W (findN (.mk k n sv names kids) q) z0 z1 z2 z3 z4) ∧ Below W.heap.size W w') := Lib.hid (fun W hW => ref_Find _ q _ _ _ _ _ W (hv.below hW) hg (by omega))
  have HSAME : Hid (∀ W (S : Nat → Prop) a b, Below w.heap.size w W → AV S W (valN (.mk k n sv names kids)) a → AV S W (valN v2) b → (∀ i, S i → i < W.heap.size) → Calls Tryz.prog 17 #[a, b] W fun e w' => e = .returned (.bool (sameJ (valN (.mk k n sv names kids)) (valN v2))) ∧ Below W.heap.size W w') := Lib.hid (fun W S a b hW ha hb hS => n_Same _ _ a b W S hsm hsm2 ha hb hS (hE.below hW) (fun h => by have := hjs h; omega) (fun h => by have := hjs2 h; omega))
  have HRSAME : Hid (∀ W, Below w.heap.size w W → Calls Tryz.prog 18 #[.agg #[.int .u8 k, x1, .string sv, x3, x4], .agg #[y0, y1, y2, y3, y4]] W fun e w' => e = .returned (.bool (sameJ (valN (.mk k n sv names kids)) (valN v2))) ∧ Below W.heap.size W w') := Lib.hid (fun W hW => ref_Same _ v2 _ _ _ _ _ _ _ _ _ _ W (hv.below hW) (hv2.below hW) hg hg2 hw hw2 (by omega) (by omega))
  have HEQ : Hid (∀ u, findN (.mk k n sv names kids) q = some u → ∀ W (S : Nat → Prop) y (z0 z1 z2 z3 z4 : Value), NAt W u z0 z1 z2 z3 z4 → AV S W (valN u) y → (∀ i, S i → i < W.heap.size) → Calls Tryz.prog 16 #[y, .agg #[z0, z1, z2, z3, z4]] W fun e w' => e = .returned (.bool true) ∧ Below W.heap.size W w') := Lib.hid (fun u hu W S y z0 z1 z2 z3 z4 hz' hy hS => by
    obtain ⟨g1, g2, g3⟩ := findN_good hu hg hz hw
    exact law_equal 200 u g2 (by decide) g1 g3 y S z0 z1 z2 z3 z4 W hz' hy hS)
  have HTEXT : Hid (∀ W (S : Nat → Prop) x, AV S W (valN (.mk k n sv names kids)) x → Calls Tryz.prog 13 #[x] W fun e w' => e = .returned (.tuple #[.string (bs ((if k = 4 then some sv.data.toList else none).getD [])), .bool (if k = 4 then some sv.data.toList else none).isSome]) ∧ w' = W) := Lib.hid (fun W S x hx => by
    have h := n_Text _ x W S hx
    rw [text_kind] at h
    exact h)
  have HKT : Hid (∀ W (S : Nat → Prop) x, k = 4 → AV S W (valN (.mk k n sv names kids)) x → x = .iface 9 (.string sv)) := Lib.hid (fun W S x k4 hx => by
    subst k4
    rw [valN, if_neg (by decide), if_neg (by decide), if_neg (by decide), if_neg (by decide), if_pos rfl, AV, bs_self] at hx
    exact hx)
  generalize valN (.mk k n sv names kids) = J at HOWN HPUT HRP HCHK HRCHK HFIND HSAME HRSAME HTEXT HKT hsm hjs
  generalize valN v2 = J2 at HOWN2 HSAME HRSAME hsm2 hjs2
  generalize findN (.mk k n sv names kids) q = F at HFIND HRF HEQ
  generalize sameJ J J2 = sj at HSAME HRSAME
  generalize chk J 1 = ck at HCHK HRCHK
  obtain ⟨PT, hPT⟩ : ∃ PT, bs (putT J) = PT := ⟨_, rfl⟩
  rw [hPT] at HPUT HRP
  generalize putF J = PF at HPUT HRP
  clear hv hw hv2 hw2 hE hl1 hl2 hg hz hg2 hz2 hsm hjs hsm2 hjs2 hPT
  by_cases k4 : k = 4
  · subst k4
    cases F with
    | none =>
      rw [if_pos rfl] at HTEXT
      rw [show (some sv.data.toList).getD [] = sv.data.toList from rfl, bs_self, show (some sv.data.toList).isSome = true from rfl] at HTEXT
      rw [show (none : Option ND).isSome = false from rfl] at HFIND HRF
      rw [show (none : Option ND).map valN = none from rfl] at HFIND
      obtain ⟨⟨p0, p1, p2, p3, p4⟩, ⟨r0, r1, r2, r3, r4⟩⟩ := HS.out _ HC0.out
      go_enter Tryz.func3, Tryz.ntmps3
      go_wp2_with fail
      try rw [hW0]
      clear hW0
      refine (HL1.out _ HB0.out).mono ?_
      rintro e w1 ⟨rfl, hb1⟩
      have HB1 := Lib.hid (bstep HB0.out hb1)
      have HC1 := Lib.hid (bstep HC0.out hb1)
      clear hb1
      clear p0 p1 p2 p3 p4 r0 r1 r2 r3 r4
      obtain ⟨⟨p0, p1, p2, p3, p4⟩, ⟨r0, r1, r2, r3, r4⟩⟩ := HS.out _ HC1.out
      go_wp2_with fail
      refine (HL2.out _ HB1.out).mono ?_
      rintro e w2 ⟨rfl, hb2⟩
      have HB2 := Lib.hid (bstep HB1.out hb2)
      have HC2 := Lib.hid (bstep HC1.out hb2)
      clear hb2
      clear p0 p1 p2 p3 p4 r0 r1 r2 r3 r4
      obtain ⟨⟨p0, p1, p2, p3, p4⟩, ⟨r0, r1, r2, r3, r4⟩⟩ := HS.out _ HC2.out
      go_wp2_with fail
      refine (HOWN.out _ HB2.out).mono ?_
      rintro e w3 ⟨x, S, rfl, hx, hS, hb3⟩
      have HB3 := Lib.hid (bstep HB2.out hb3)
      have HC3 := Lib.hid (bstep HC2.out hb3)
      have HX : Hid (∀ W, Below w3.heap.size w3 W → AV (fun i => i < W.heap.size) W J x) := Lib.hid (fun W hW => (hx.kept (fun _ h => h) (KeptS.of_below hW hS)).kept (fun i hi => Nat.lt_of_lt_of_le (hS i hi) hW.size) (KeptS.refl _ _))
      have HR3 := Lib.hid (Below.refl w3.heap.size w3)
      clear hb3 hx hS
      clear p0 p1 p2 p3 p4 r0 r1 r2 r3 r4
      obtain ⟨⟨p0, p1, p2, p3, p4⟩, ⟨r0, r1, r2, r3, r4⟩⟩ := HS.out _ HC3.out
      go_wp2_with fail
      have HPU := Lib.hid (HPUT.out w3 _ x HB3.out (HX.out w3 HR3.out) (fun _ h => h))
      refine (HPU.out).mono ?_
      rintro e w4 ⟨rfl, hb4⟩
      have HB4 := Lib.hid (bstep HB3.out hb4)
      have HC4 := Lib.hid (bstep HC3.out hb4)
      have HR4 := Lib.hid (bstep HR3.out hb4)
      clear hb4
      clear p0 p1 p2 p3 p4 r0 r1 r2 r3 r4
      obtain ⟨⟨p0, p1, p2, p3, p4⟩, ⟨r0, r1, r2, r3, r4⟩⟩ := HS.out _ HC4.out
      go_wp2_with fail
      refine (HRP.out _ HB4.out).mono ?_
      rintro e w5 ⟨rfl, hb5⟩
      have HB5 := Lib.hid (bstep HB4.out hb5)
      have HC5 := Lib.hid (bstep HC4.out hb5)
      have HR5 := Lib.hid (bstep HR4.out hb5)
      clear hb5
      clear p0 p1 p2 p3 p4 r0 r1 r2 r3 r4
      obtain ⟨⟨p0, p1, p2, p3, p4⟩, ⟨r0, r1, r2, r3, r4⟩⟩ := HS.out _ HC5.out
      go_wp2_with fail
      have HFD := Lib.hid (HFIND.out w5 _ x HB5.out (HX.out w5 HR5.out) (fun _ h => h))
      refine (HFD.out).mono ?_
      rintro e w6 ⟨⟨y, rfl, hy⟩, hb6⟩
      have HB6 := Lib.hid (bstep HB5.out hb6)
      have HC6 := Lib.hid (bstep HC5.out hb6)
      have HR6 := Lib.hid (bstep HR5.out hb6)
      have hy : y = .nilIface := hy
      subst hy
      have HV6 := Lib.hid hb6
      clear hb6
      clear p0 p1 p2 p3 p4 r0 r1 r2 r3 r4
      obtain ⟨⟨p0, p1, p2, p3, p4⟩, ⟨r0, r1, r2, r3, r4⟩⟩ := HS.out _ HC6.out
      go_wp2_with fail
      refine (HRF.out _ HB6.out).mono ?_
      rintro e w7 ⟨⟨z0, z1, z2, z3, z4, rfl, hz⟩, hb7⟩
      have HB7 := Lib.hid (bstep HB6.out hb7)
      have HC7 := Lib.hid (bstep HC6.out hb7)
      have HR7 := Lib.hid (bstep HR6.out hb7)
      have HZ := Lib.hid hz
      have HV7 := Lib.hid (bstep HV6.out hb7)
      have HW7 := Lib.hid hb7
      obtain ⟨zk, zn, zs, za, zl, zc, zd, zm, ze, rfl, rfl, rfl, rfl, rfl⟩ := hz.shape
      clear hb7 hz
      clear p0 p1 p2 p3 p4 r0 r1 r2 r3 r4
      obtain ⟨⟨p0, p1, p2, p3, p4⟩, ⟨r0, r1, r2, r3, r4⟩⟩ := HS.out _ HC7.out
      go_wp2_with fail
      have hnz := NB.new w7 (.int .u8 zk) (.int .i64 zn) (.string zs) (.slice za zl zc) (.slice zd zm ze) 25
      obtain ⟨W8, hW8⟩ : ∃ W8, w7.alloc (.cells #[.int .u8 zk, .int .i64 zn, .string zs, .slice za zl zc, .slice zd zm ze] 25) = W8 := ⟨_, rfl⟩
      rw [hW8] at hnz
      try rw [hW8]
      have HNZ := Lib.hid hnz
      have HB8 := Lib.hid (bstep HB7.out hnz.b)
      have HC8 := Lib.hid (bstep HC7.out hnz.b)
      have HR8 := Lib.hid (bstep HR7.out hnz.b)
      have HV8 := Lib.hid (bstep HV7.out hnz.b)
      have HW8 := Lib.hid (bstep HW7.out hnz.b)
      clear hnz hW8
      clear p0 p1 p2 p3 p4 r0 r1 r2 r3 r4
      have HTX := Lib.hid (HTEXT.out W8 _ x (HX.out W8 HR8.out))
      refine HTX.out.mono ?_
      rintro e w9 ⟨rfl, rfl⟩
      go_wp2_with fail
      have HD9 := Lib.hid (bstep HC8.out (Below.refl _ w9).drew)
      have HDB9 := Lib.hid (bstep HB8.out (Below.refl _ w9).drew)
      have HDR9 := Lib.hid (bstep HR8.out (Below.refl _ w9).drew)
      refine wp_region_noPanic ?_
      refine wp_region_held_drew (S := fun (W : World) => (W.cell? ⟨w.heap.size, 0, none⟩ = some (.int .u8 4) ∧ W.cell? ⟨w.heap.size, 1, none⟩ = some x1 ∧ W.cell? ⟨w.heap.size, 2, none⟩ = some (.string sv) ∧ W.cell? ⟨w.heap.size, 3, none⟩ = some x3 ∧ W.cell? ⟨w.heap.size, 4, none⟩ = some x4) ∧ (W.cell? ⟨w.heap.size + 1, 0, none⟩ = some y0 ∧ W.cell? ⟨w.heap.size + 1, 1, none⟩ = some y1 ∧ W.cell? ⟨w.heap.size + 1, 2, none⟩ = some y2 ∧ W.cell? ⟨w.heap.size + 1, 3, none⟩ = some y3 ∧ W.cell? ⟨w.heap.size + 1, 4, none⟩ = some y4)) (by kernel_rfl) (HS.out _ HD9.out) (fun hHeld => ?_)
      refine wpAnyH_take (i := 0) (v := ?v0q1) rfl (by kernel_rfl) (by kernel_rfl) (by kernel_rfl) (fun _ _ _ h => h) (Or.inl ⟨by rfl, ?y0q1⟩) (by assumption) ?z0q1
      case y0q1 => intro W hSw; (try dsimp only at hSw); go_simp <;> with_reducible rfl
      simp only [Act.put, List.getElem_toArray, List.getElem_cons_zero, List.getElem_cons_succ, List.setIfInBounds_toArray, List.set_cons_zero, List.set_cons_succ]
      refine wpAnyH_take (i := 1) (v := ?v1q1) rfl (by kernel_rfl) (by kernel_rfl) (by kernel_rfl) (fun _ _ _ h => h) (Or.inl ⟨by rfl, ?y1q1⟩) (by assumption) ?z1q1
      case y1q1 => intro W hSw; (try dsimp only at hSw); go_simp <;> with_reducible rfl
      simp only [Act.put, List.getElem_toArray, List.getElem_cons_zero, List.getElem_cons_succ, List.setIfInBounds_toArray, List.set_cons_zero, List.set_cons_succ]
      refine wpAnyH_take (i := 2) (v := ?v2q1) rfl (by kernel_rfl) (by kernel_rfl) (by kernel_rfl) (fun _ _ _ h => h) (Or.inl ⟨by rfl, ?y2q1⟩) (by assumption) ?z2q1
      case y2q1 => intro W hSw; (try dsimp only at hSw); go_simp <;> with_reducible rfl
      simp only [Act.put, List.getElem_toArray, List.getElem_cons_zero, List.getElem_cons_succ, List.setIfInBounds_toArray, List.set_cons_zero, List.set_cons_succ]
      refine wpAnyH_take (i := 3) (v := ?v3q1) rfl (by kernel_rfl) (by kernel_rfl) (by kernel_rfl) (fun _ _ _ h => h) (Or.inl ⟨by rfl, ?y3q1⟩) (by assumption) ?z3q1
      case y3q1 => intro W hSw; (try dsimp only at hSw); go_simp <;> with_reducible rfl
      simp only [Act.put, List.getElem_toArray, List.getElem_cons_zero, List.getElem_cons_succ, List.setIfInBounds_toArray, List.set_cons_zero, List.set_cons_succ]
      refine wpAnyH_take (i := 4) (v := ?v4q1) rfl (by kernel_rfl) (by kernel_rfl) (by kernel_rfl) (fun _ _ _ h => h) (Or.inl ⟨by rfl, ?y4q1⟩) (by assumption) ?z4q1
      case y4q1 => intro W hSw; (try dsimp only at hSw); go_simp <;> with_reducible rfl
      simp only [Act.put, List.getElem_toArray, List.getElem_cons_zero, List.getElem_cons_succ, List.setIfInBounds_toArray, List.set_cons_zero, List.set_cons_succ]
      refine wpAnyH_take (i := 5) (v := ?v5q1) rfl (by kernel_rfl) (by kernel_rfl) (by kernel_rfl) (fun _ _ _ h => h) (Or.inl ⟨by rfl, ?y5q1⟩) (by assumption) ?z5q1
      case y5q1 => intro W hSw; (try dsimp only at hSw); go_simp <;> with_reducible rfl
      simp only [Act.put, List.getElem_toArray, List.getElem_cons_zero, List.getElem_cons_succ, List.setIfInBounds_toArray, List.set_cons_zero, List.set_cons_succ]
      refine wpAnyH_take (i := 6) (v := ?v6q1) rfl (by kernel_rfl) (by kernel_rfl) (by kernel_rfl) (fun _ _ _ h => h) (Or.inl ⟨by rfl, ?y6q1⟩) (by assumption) ?z6q1
      case y6q1 => intro W hSw; (try dsimp only at hSw); go_simp <;> with_reducible rfl
      simp only [Act.put, List.getElem_toArray, List.getElem_cons_zero, List.getElem_cons_succ, List.setIfInBounds_toArray, List.set_cons_zero, List.set_cons_succ]
      refine wpAnyH_take (i := 7) (v := ?v7q1) rfl (by kernel_rfl) (by kernel_rfl) (by kernel_rfl) (fun _ _ _ h => h) (Or.inl ⟨by rfl, ?y7q1⟩) (by assumption) ?z7q1
      case y7q1 => intro W hSw; (try dsimp only at hSw); go_simp <;> with_reducible rfl
      simp only [Act.put, List.getElem_toArray, List.getElem_cons_zero, List.getElem_cons_succ, List.setIfInBounds_toArray, List.set_cons_zero, List.set_cons_succ]
      refine wpAnyH_take (i := 8) (v := ?v8q1) rfl (by kernel_rfl) (by kernel_rfl) (by kernel_rfl) (fun _ _ _ h => h) (Or.inl ⟨by rfl, ?y8q1⟩) (by assumption) ?z8q1
      case y8q1 => intro W hSw; (try dsimp only at hSw); go_simp <;> with_reducible rfl
      simp only [Act.put, List.getElem_toArray, List.getElem_cons_zero, List.getElem_cons_succ, List.setIfInBounds_toArray, List.set_cons_zero, List.set_cons_succ]
      refine wpAnyH_take (i := 9) (v := ?v9q1) rfl (by kernel_rfl) (by kernel_rfl) (by kernel_rfl) (fun _ _ _ h => h) (Or.inl ⟨by rfl, ?y9q1⟩) (by assumption) ?z9q1
      case y9q1 => intro W hSw; (try dsimp only at hSw); go_simp <;> with_reducible rfl
      simp only [Act.put, List.getElem_toArray, List.getElem_cons_zero, List.getElem_cons_succ, List.setIfInBounds_toArray, List.set_cons_zero, List.set_cons_succ]
      refine wpAnyH_take (i := 11) (v := ?v11q1) rfl (by kernel_rfl) (by kernel_rfl) (by kernel_rfl) (fun _ _ _ h => h) (Or.inl ⟨by rfl, ?y11q1⟩) (by assumption) ?z11q1
      case y11q1 => intro W hSw; (try dsimp only at hSw); go_simp <;> with_reducible rfl
      simp only [Act.put, List.getElem_toArray, List.getElem_cons_zero, List.getElem_cons_succ, List.setIfInBounds_toArray, List.set_cons_zero, List.set_cons_succ]
      have HCK := Lib.hid (HCHK.out w9.drew _ x HDB9.out (HX.out _ HDR9.out) (fun _ h => h))
      refine wpAnyH_ready (rs := [10]) (by kernel_rfl) (by simp) ?_
      refine AllReadyH.cons rfl (fun K' hK => ?_) AllReadyH.nil
      go_simp
      refine HCK.out.mono ?_
      rintro e wa ⟨rfl, hba⟩
      have HDa := Lib.hid (bstep HD9.out hba)
      have HDBa := Lib.hid (bstep HDB9.out hba)
      have HVa := Lib.hid (bstep (Below.refl _ w9).drew hba)
      clear hba
      go_wp2_with fail
      refine hK.out _ _ (HS.out _ HDa.out) (fun hHeld10 => ?_)
      clear hK K'
      try simp only [Act.put, List.getElem_toArray, List.getElem_cons_zero, List.getElem_cons_succ, List.setIfInBounds_toArray, List.set_cons_zero, List.set_cons_succ]
      refine wpAnyH_ready (rs := [12]) (by kernel_rfl) (by simp) ?_
      refine AllReadyH.cons rfl (fun K' hK => ?_) AllReadyH.nil
      go_simp
      refine (HRCHK.out _ HDBa.out).mono ?_
      rintro e wb ⟨rfl, hbb⟩
      have HDb := Lib.hid (bstep HDa.out hbb)
      have HDBb := Lib.hid (bstep HDBa.out hbb)
      have HVb := Lib.hid (bstep HVa.out hbb)
      clear hbb
      go_wp2_with fail
      refine hK.out _ _ (HS.out _ HDb.out) (fun hHeld12 => ?_)
      clear hK K'
      try simp only [Act.put, List.getElem_toArray, List.getElem_cons_zero, List.getElem_cons_succ, List.setIfInBounds_toArray, List.set_cons_zero, List.set_cons_succ]
      refine wpAnyH_take (i := 13) (v := ?v13q1) rfl (by kernel_rfl) (by kernel_rfl) (by kernel_rfl) (fun _ _ _ h => h) (Or.inl ⟨by rfl, ?y13q1⟩) (by assumption) ?z13q1
      case y13q1 => intro W hSw; (try dsimp only at hSw); go_simp <;> with_reducible rfl
      simp only [Act.put, List.getElem_toArray, List.getElem_cons_zero, List.getElem_cons_succ, List.setIfInBounds_toArray, List.set_cons_zero, List.set_cons_succ]
      refine wpAnyH_take (i := 14) (v := ?v14q1) rfl (by kernel_rfl) (by kernel_rfl) (by kernel_rfl) (fun _ _ _ h => h) (Or.inl ⟨by rfl, ?y14q1⟩) (by assumption) ?z14q1
      case y14q1 => intro W hSw; (try dsimp only at hSw); go_simp <;> with_reducible rfl
      simp only [Act.put, List.getElem_toArray, List.getElem_cons_zero, List.getElem_cons_succ, List.setIfInBounds_toArray, List.set_cons_zero, List.set_cons_succ]
      refine wpAnyH_take (i := 15) (v := ?v15q1) rfl (by kernel_rfl) (by kernel_rfl) (by kernel_rfl) (fun _ _ _ h => h) (Or.inl ⟨by rfl, ?y15q1⟩) (by assumption) ?z15q1
      case y15q1 => intro W hSw; (try dsimp only at hSw); go_simp <;> with_reducible rfl
      simp only [Act.put, List.getElem_toArray, List.getElem_cons_zero, List.getElem_cons_succ, List.setIfInBounds_toArray, List.set_cons_zero, List.set_cons_succ]
      refine wpAnyH_take (i := 16) (v := ?v16q1) rfl (by kernel_rfl) (by kernel_rfl) (by kernel_rfl) (fun _ _ _ h => h) (Or.inl ⟨by rfl, ?y16q1⟩) (by assumption) ?z16q1
      case y16q1 => intro W hSw; (try dsimp only at hSw); go_simp <;> with_reducible rfl
      simp only [Act.put, List.getElem_toArray, List.getElem_cons_zero, List.getElem_cons_succ, List.setIfInBounds_toArray, List.set_cons_zero, List.set_cons_succ]
      refine wpAnyH_take (i := 17) (v := ?v17q1) rfl (by kernel_rfl) (by kernel_rfl) (by kernel_rfl) (fun _ _ _ h => h) (Or.inl ⟨by rfl, ?y17q1⟩) (by assumption) ?z17q1
      case y17q1 => intro W hSw; (try dsimp only at hSw); go_simp <;> with_reducible rfl
      simp only [Act.put, List.getElem_toArray, List.getElem_cons_zero, List.getElem_cons_succ, List.setIfInBounds_toArray, List.set_cons_zero, List.set_cons_succ]
      refine wpAnyH_take (i := 18) (v := ?v18q1) rfl (by kernel_rfl) (by kernel_rfl) (by kernel_rfl) (fun _ _ _ h => h) (Or.inl ⟨by rfl, ?y18q1⟩) (by assumption) ?z18q1
      case y18q1 => intro W hSw; (try dsimp only at hSw); go_simp <;> with_reducible rfl
      simp only [Act.put, List.getElem_toArray, List.getElem_cons_zero, List.getElem_cons_succ, List.setIfInBounds_toArray, List.set_cons_zero, List.set_cons_succ]
      refine wpAnyH_take (i := 19) (v := ?v19q1) rfl (by kernel_rfl) (by kernel_rfl) (by kernel_rfl) (fun _ _ _ h => h) (Or.inl ⟨by rfl, ?y19q1⟩) (by assumption) ?z19q1
      case y19q1 => intro W hSw; (try dsimp only at hSw); go_simp <;> with_reducible rfl
      simp only [Act.put, List.getElem_toArray, List.getElem_cons_zero, List.getElem_cons_succ, List.setIfInBounds_toArray, List.set_cons_zero, List.set_cons_succ]
      refine wpAnyH_take (i := 20) (v := ?v20q1) rfl (by kernel_rfl) (by kernel_rfl) (by kernel_rfl) (fun _ _ _ h => h) (Or.inl ⟨by rfl, ?y20q1⟩) (by assumption) ?z20q1
      case y20q1 => intro W hSw; (try dsimp only at hSw); go_simp <;> with_reducible rfl
      simp only [Act.put, List.getElem_toArray, List.getElem_cons_zero, List.getElem_cons_succ, List.setIfInBounds_toArray, List.set_cons_zero, List.set_cons_succ]
      refine wpAnyH_take (i := 21) (v := ?v21q1) rfl (by kernel_rfl) (by kernel_rfl) (by kernel_rfl) (fun _ _ _ h => h) (Or.inl ⟨by rfl, ?y21q1⟩) (by assumption) ?z21q1
      case y21q1 => intro W hSw; (try dsimp only at hSw); go_simp <;> with_reducible rfl
      simp only [Act.put, List.getElem_toArray, List.getElem_cons_zero, List.getElem_cons_succ, List.setIfInBounds_toArray, List.set_cons_zero, List.set_cons_succ]
      refine wpAnyH_take (i := 22) (v := ?v22q1) rfl (by kernel_rfl) (by kernel_rfl) (by kernel_rfl) (fun _ _ _ h => h) (Or.inl ⟨by rfl, ?y22q1⟩) (by assumption) ?z22q1
      case y22q1 => intro W hSw; (try dsimp only at hSw); go_simp <;> with_reducible rfl
      simp only [Act.put, List.getElem_toArray, List.getElem_cons_zero, List.getElem_cons_succ, List.setIfInBounds_toArray, List.set_cons_zero, List.set_cons_succ]
      refine wpAnyH_take (i := 23) (v := ?v23q1) rfl (by kernel_rfl) (by kernel_rfl) (by kernel_rfl) (fun _ _ _ h => h) (Or.inl ⟨by rfl, ?y23q1⟩) (by assumption) ?z23q1
      case y23q1 => intro W hSw; (try dsimp only at hSw); go_simp <;> with_reducible rfl
      simp only [Act.put, List.getElem_toArray, List.getElem_cons_zero, List.getElem_cons_succ, List.setIfInBounds_toArray, List.set_cons_zero, List.set_cons_succ]
      refine wpAnyH_take (i := 24) (v := ?v24q1) rfl (by kernel_rfl) (by kernel_rfl) (by kernel_rfl) (fun _ _ _ h => h) (Or.inl ⟨by rfl, ?y24q1⟩) (by assumption) ?z24q1
      case y24q1 => intro W hSw; (try dsimp only at hSw); go_simp <;> with_reducible rfl
      simp only [Act.put, List.getElem_toArray, List.getElem_cons_zero, List.getElem_cons_succ, List.setIfInBounds_toArray, List.set_cons_zero, List.set_cons_succ]
      refine wpAnyH_take (i := 25) (v := ?v25q1) rfl (by kernel_rfl) (by kernel_rfl) (by kernel_rfl) (fun _ _ _ h => h) (Or.inl ⟨by rfl, ?y25q1⟩) (by assumption) ?z25q1
      case y25q1 => intro W hSw; (try dsimp only at hSw); go_simp <;> with_reducible rfl
      simp only [Act.put, List.getElem_toArray, List.getElem_cons_zero, List.getElem_cons_succ, List.setIfInBounds_toArray, List.set_cons_zero, List.set_cons_succ]
      refine wpAnyH_take (i := 26) (v := ?v26q1) rfl (by kernel_rfl) (by kernel_rfl) (by kernel_rfl) (fun _ _ _ h => h) (Or.inl ⟨by rfl, ?y26q1⟩) (by assumption) ?z26q1
      case y26q1 => intro W hSw; (try dsimp only at hSw); go_simp <;> with_reducible rfl
      simp only [Act.put, List.getElem_toArray, List.getElem_cons_zero, List.getElem_cons_succ, List.setIfInBounds_toArray, List.set_cons_zero, List.set_cons_succ]
      refine wpAnyH_take (i := 27) (v := ?v27q1) rfl (by kernel_rfl) (by kernel_rfl) (by kernel_rfl) (fun _ _ _ h => h) (Or.inl ⟨by rfl, ?y27q1⟩) (by assumption) ?z27q1
      case y27q1 => intro W hSw; (try dsimp only at hSw); go_simp <;> with_reducible rfl
      simp only [Act.put, List.getElem_toArray, List.getElem_cons_zero, List.getElem_cons_succ, List.setIfInBounds_toArray, List.set_cons_zero, List.set_cons_succ]
      refine wpAnyH_take (i := 28) (v := ?v28q1) rfl (by kernel_rfl) (by kernel_rfl) (by kernel_rfl) (fun _ _ _ h => h) (Or.inl ⟨by rfl, ?y28q1⟩) (by assumption) ?z28q1
      case y28q1 => intro W hSw; (try dsimp only at hSw); go_simp <;> with_reducible rfl
      simp only [Act.put, List.getElem_toArray, List.getElem_cons_zero, List.getElem_cons_succ, List.setIfInBounds_toArray, List.set_cons_zero, List.set_cons_succ]
      refine wpAnyH_take (i := 29) (v := ?v29q1) rfl (by kernel_rfl) (by kernel_rfl) (by kernel_rfl) (fun _ _ _ h => h) (Or.inl ⟨by rfl, ?y29q1⟩) (by assumption) ?z29q1
      case y29q1 => intro W hSw; (try dsimp only at hSw); go_simp <;> with_reducible rfl
      simp only [Act.put, List.getElem_toArray, List.getElem_cons_zero, List.getElem_cons_succ, List.setIfInBounds_toArray, List.set_cons_zero, List.set_cons_succ]
      refine wpAnyH_take (i := 30) (v := ?v30q1) rfl (by kernel_rfl) (by kernel_rfl) (by kernel_rfl) (fun _ _ _ h => h) (Or.inl ⟨by rfl, ?y30q1⟩) (by assumption) ?z30q1
      case y30q1 => intro W hSw; (try dsimp only at hSw); go_simp <;> with_reducible rfl
      simp only [Act.put, List.getElem_toArray, List.getElem_cons_zero, List.getElem_cons_succ, List.setIfInBounds_toArray, List.set_cons_zero, List.set_cons_succ]
      refine wpAnyH_take (i := 31) (v := ?v31q1) rfl (by kernel_rfl) (by kernel_rfl) (by kernel_rfl) (fun _ _ _ h => h) (Or.inl ⟨by rfl, ?y31q1⟩) (by assumption) ?z31q1
      case y31q1 => intro W hSw; (try dsimp only at hSw); go_simp <;> with_reducible rfl
      simp only [Act.put, List.getElem_toArray, List.getElem_cons_zero, List.getElem_cons_succ, List.setIfInBounds_toArray, List.set_cons_zero, List.set_cons_succ]
      refine wpAnyH_take (i := 32) (v := ?v32q1) rfl (by kernel_rfl) (by kernel_rfl) (by kernel_rfl) (fun _ _ _ h => h) (Or.inl ⟨by rfl, ?y32q1⟩) (by assumption) ?z32q1
      case y32q1 => intro W hSw; (try dsimp only at hSw); go_simp <;> with_reducible rfl
      simp only [Act.put, List.getElem_toArray, List.getElem_cons_zero, List.getElem_cons_succ, List.setIfInBounds_toArray, List.set_cons_zero, List.set_cons_succ]
      refine wpAnyH_take (i := 33) (v := ?v33q1) rfl (by kernel_rfl) (by kernel_rfl) (by kernel_rfl) (fun _ _ _ h => h) (Or.inl ⟨by rfl, ?y33q1⟩) (by assumption) ?z33q1
      case y33q1 => intro W hSw; (try dsimp only at hSw); go_simp <;> with_reducible rfl
      simp only [Act.put, List.getElem_toArray, List.getElem_cons_zero, List.getElem_cons_succ, List.setIfInBounds_toArray, List.set_cons_zero, List.set_cons_succ]
      refine wpAnyH_take (i := 34) (v := ?v34q1) rfl (by kernel_rfl) (by kernel_rfl) (by kernel_rfl) (fun _ _ _ h => h) (Or.inl ⟨by rfl, ?y34q1⟩) (by assumption) ?z34q1
      case y34q1 => intro W hSw; (try dsimp only at hSw); go_simp <;> with_reducible rfl
      simp only [Act.put, List.getElem_toArray, List.getElem_cons_zero, List.getElem_cons_succ, List.setIfInBounds_toArray, List.set_cons_zero, List.set_cons_succ]
      refine wpAnyH_take (i := 35) (v := ?v35q1) rfl (by kernel_rfl) (by kernel_rfl) (by kernel_rfl) (fun _ _ _ h => h) (Or.inl ⟨by rfl, ?y35q1⟩) (by assumption) ?z35q1
      case y35q1 => intro W hSw; (try dsimp only at hSw); go_simp <;> with_reducible rfl
      simp only [Act.put, List.getElem_toArray, List.getElem_cons_zero, List.getElem_cons_succ, List.setIfInBounds_toArray, List.set_cons_zero, List.set_cons_succ]
      refine wpAnyH_take (i := 36) (v := ?v36q1) rfl (by kernel_rfl) (by kernel_rfl) (by kernel_rfl) (fun _ _ _ h => h) (Or.inl ⟨by rfl, ?y36q1⟩) (by assumption) ?z36q1
      case y36q1 => intro W hSw; (try dsimp only at hSw); go_simp <;> with_reducible rfl
      simp only [Act.put, List.getElem_toArray, List.getElem_cons_zero, List.getElem_cons_succ, List.setIfInBounds_toArray, List.set_cons_zero, List.set_cons_succ]
      refine wpAnyH_take (i := 37) (v := ?v37q1) rfl (by kernel_rfl) (by kernel_rfl) (by kernel_rfl) (fun _ _ _ h => h) (Or.inl ⟨by rfl, ?y37q1⟩) (by assumption) ?z37q1
      case y37q1 => intro W hSw; (try dsimp only at hSw); go_simp <;> with_reducible rfl
      simp only [Act.put, List.getElem_toArray, List.getElem_cons_zero, List.getElem_cons_succ, List.setIfInBounds_toArray, List.set_cons_zero, List.set_cons_succ]
      refine wpAnyH_take (i := 38) (v := ?v38q1) rfl (by kernel_rfl) (by kernel_rfl) (by kernel_rfl) (fun _ _ _ h => h) (Or.inl ⟨by rfl, ?y38q1⟩) (by assumption) ?z38q1
      case y38q1 => intro W hSw; (try dsimp only at hSw); go_simp <;> with_reducible rfl
      simp only [Act.put, List.getElem_toArray, List.getElem_cons_zero, List.getElem_cons_succ, List.setIfInBounds_toArray, List.set_cons_zero, List.set_cons_succ]
      refine wpAnyH_take (i := 39) (v := ?v39q1) rfl (by kernel_rfl) (by kernel_rfl) (by kernel_rfl) (fun _ _ _ h => h) (Or.inl ⟨by rfl, ?y39q1⟩) (by assumption) ?z39q1
      case y39q1 => intro W hSw; (try dsimp only at hSw); go_simp <;> with_reducible rfl
      simp only [Act.put, List.getElem_toArray, List.getElem_cons_zero, List.getElem_cons_succ, List.setIfInBounds_toArray, List.set_cons_zero, List.set_cons_succ]
      refine wpAnyH_take (i := 40) (v := undef) rfl (by kernel_rfl) (by kernel_rfl) (by kernel_rfl) (fun _ _ _ h => h) (Or.inr ⟨by rfl, rfl⟩) (by assumption) ?_
      simp only [Act.put, List.getElem_toArray, List.getElem_cons_zero, List.getElem_cons_succ, List.setIfInBounds_toArray, List.set_cons_zero, List.set_cons_succ]
      refine wpAnyH_take (i := 41) (v := undef) rfl (by kernel_rfl) (by kernel_rfl) (by kernel_rfl) (fun _ _ _ h => h) (Or.inr ⟨by rfl, rfl⟩) (by assumption) ?_
      simp only [Act.put, List.getElem_toArray, List.getElem_cons_zero, List.getElem_cons_succ, List.setIfInBounds_toArray, List.set_cons_zero, List.set_cons_succ]
      refine wpAnyH_take (i := 42) (v := ?v42q1) rfl (by kernel_rfl) (by kernel_rfl) (by kernel_rfl) (fun _ _ _ h => h) (Or.inl ⟨by rfl, ?y42q1⟩) (by assumption) ?z42q1
      case y42q1 => intro W hSw; (try dsimp only at hSw); go_simp <;> with_reducible rfl
      simp only [Act.put, List.getElem_toArray, List.getElem_cons_zero, List.getElem_cons_succ, List.setIfInBounds_toArray, List.set_cons_zero, List.set_cons_succ]
      refine wpAnyH_take (i := 43) (v := ?v43q1) rfl (by kernel_rfl) (by kernel_rfl) (by kernel_rfl) (fun _ _ _ h => h) (Or.inl ⟨by rfl, ?y43q1⟩) (by assumption) ?z43q1
      case y43q1 => intro W hSw; (try dsimp only at hSw); go_simp <;> with_reducible rfl
      simp only [Act.put, List.getElem_toArray, List.getElem_cons_zero, List.getElem_cons_succ, List.setIfInBounds_toArray, List.set_cons_zero, List.set_cons_succ]
      refine wpAnyH_done (by kernel_rfl) ?_ _
      refine NoPanic.normal ?_
      have HRb := Lib.hid (bstep HR8.out HVb.out)
      have HNZb := Lib.hid (HNZ.out.below HVb.out)
      obtain ⟨-, ltz, g0, g1, g2, g3, g4⟩ := HNZ.out.below HVb.out
      go_wp2_with fail
      have hxs : x = .iface 9 (.string sv) := HKT.out wb _ x (by first | trivial | rfl) (HX.out wb HRb.out)
      subst hxs
      have HDd := Lib.hid (bstep HDb.out (Below.refl _ wb).drew)
      have HDBd := Lib.hid (bstep HDBb.out (Below.refl _ wb).drew)
      have HRd := Lib.hid (bstep HRb.out (Below.refl _ wb).drew)
      refine wp_region_noPanic ?_
      refine wp_region_held_drew (S := fun (W : World) => (W.cell? ⟨w.heap.size, 0, none⟩ = some (.int .u8 4) ∧ W.cell? ⟨w.heap.size, 1, none⟩ = some x1 ∧ W.cell? ⟨w.heap.size, 2, none⟩ = some (.string sv) ∧ W.cell? ⟨w.heap.size, 3, none⟩ = some x3 ∧ W.cell? ⟨w.heap.size, 4, none⟩ = some x4) ∧ (W.cell? ⟨w.heap.size + 1, 0, none⟩ = some y0 ∧ W.cell? ⟨w.heap.size + 1, 1, none⟩ = some y1 ∧ W.cell? ⟨w.heap.size + 1, 2, none⟩ = some y2 ∧ W.cell? ⟨w.heap.size + 1, 3, none⟩ = some y3 ∧ W.cell? ⟨w.heap.size + 1, 4, none⟩ = some y4)) (by kernel_rfl) (HS.out _ HDd.out) (fun hHeld => ?_)
      refine wpAnyH_take (i := 0) (v := ?v0q2) rfl (by kernel_rfl) (by kernel_rfl) (by kernel_rfl) (fun _ _ _ h => h) (Or.inl ⟨by rfl, ?y0q2⟩) (by assumption) ?z0q2
      case y0q2 => intro W hSw; (try dsimp only at hSw); go_simp <;> with_reducible rfl
      simp only [Act.put, List.getElem_toArray, List.getElem_cons_zero, List.getElem_cons_succ, List.setIfInBounds_toArray, List.set_cons_zero, List.set_cons_succ]
      refine wpAnyH_take (i := 1) (v := ?v1q2) rfl (by kernel_rfl) (by kernel_rfl) (by kernel_rfl) (fun _ _ _ h => h) (Or.inl ⟨by rfl, ?y1q2⟩) (by assumption) ?z1q2
      case y1q2 => intro W hSw; (try dsimp only at hSw); go_simp <;> with_reducible rfl
      simp only [Act.put, List.getElem_toArray, List.getElem_cons_zero, List.getElem_cons_succ, List.setIfInBounds_toArray, List.set_cons_zero, List.set_cons_succ]
      refine wpAnyH_take (i := 4) (v := ?v4q2) rfl (by kernel_rfl) (by kernel_rfl) (by kernel_rfl) (fun _ _ _ h => h) (Or.inl ⟨by rfl, ?y4q2⟩) (by assumption) ?z4q2
      case y4q2 => intro W hSw; (try dsimp only at hSw); go_simp <;> with_reducible rfl
      simp only [Act.put, List.getElem_toArray, List.getElem_cons_zero, List.getElem_cons_succ, List.setIfInBounds_toArray, List.set_cons_zero, List.set_cons_succ]
      refine wpAnyH_take (i := 5) (v := ?v5q2) rfl (by kernel_rfl) (by kernel_rfl) (by kernel_rfl) (fun _ _ _ h => h) (Or.inl ⟨by rfl, ?y5q2⟩) (by assumption) ?z5q2
      case y5q2 => intro W hSw; (try dsimp only at hSw); go_simp <;> with_reducible rfl
      simp only [Act.put, List.getElem_toArray, List.getElem_cons_zero, List.getElem_cons_succ, List.setIfInBounds_toArray, List.set_cons_zero, List.set_cons_succ]
      refine wpAnyH_ready (rs := [2]) (by kernel_rfl) (by simp) ?_
      refine AllReadyH.cons rfl (fun K' hK => ?_) AllReadyH.nil
      go_simp
      refine (HOWN2.out _ HDBd.out).mono ?_
      rintro e we ⟨yy, S2, rfl, hyy, hS2, hbe⟩
      have HDe := Lib.hid (bstep HDd.out hbe)
      have HDBe := Lib.hid (bstep HDBd.out hbe)
      have HRe := Lib.hid (bstep HRd.out hbe)
      have HSM3 := Lib.hid (HSAME.out we _ _ yy HDBe.out (HX.out _ HRe.out) (hyy.kept hS2 (KeptS.refl _ _)) (fun _ h => h))
      clear hyy hS2 hbe
      go_wp2_with fail
      refine hK.out _ _ (HS.out _ HDe.out) (fun hHeld2 => ?_)
      clear hK K'
      try simp only [Act.put, List.getElem_toArray, List.getElem_cons_zero, List.getElem_cons_succ, List.setIfInBounds_toArray, List.set_cons_zero, List.set_cons_succ]
      refine wpAnyH_ready (rs := [3]) (by kernel_rfl) (by simp) ?_
      refine AllReadyH.cons rfl (fun K' hK => ?_) AllReadyH.nil
      go_simp
      refine HSM3.out.mono ?_
      rintro e wf ⟨rfl, hbf⟩
      have HDf := Lib.hid (bstep HDe.out hbf)
      have HDBf := Lib.hid (bstep HDBe.out hbf)
      clear hbf
      go_wp2_with fail
      refine hK.out _ _ (HS.out _ HDf.out) (fun hHeld3 => ?_)
      clear hK K'
      try simp only [Act.put, List.getElem_toArray, List.getElem_cons_zero, List.getElem_cons_succ, List.setIfInBounds_toArray, List.set_cons_zero, List.set_cons_succ]
      refine wpAnyH_ready (rs := [6]) (by kernel_rfl) (by simp) ?_
      refine AllReadyH.cons rfl (fun K' hK => ?_) AllReadyH.nil
      go_simp
      refine (HRSAME.out _ HDBf.out).mono ?_
      rintro e wg ⟨rfl, hbg⟩
      have HDg := Lib.hid (bstep HDf.out hbg)
      have HDBg := Lib.hid (bstep HDBf.out hbg)
      clear hbg
      go_wp2_with fail
      refine hK.out _ _ (HS.out _ HDg.out) (fun hHeld6 => ?_)
      clear hK K'
      try simp only [Act.put, List.getElem_toArray, List.getElem_cons_zero, List.getElem_cons_succ, List.setIfInBounds_toArray, List.set_cons_zero, List.set_cons_succ]
      refine wpAnyH_take (i := 7) (v := ?v7q2) rfl (by kernel_rfl) (by kernel_rfl) (by kernel_rfl) (fun _ _ _ h => h) (Or.inl ⟨by rfl, ?y7q2⟩) (by assumption) ?z7q2
      case y7q2 => intro W hSw; (try dsimp only at hSw); go_simp <;> with_reducible rfl
      simp only [Act.put, List.getElem_toArray, List.getElem_cons_zero, List.getElem_cons_succ, List.setIfInBounds_toArray, List.set_cons_zero, List.set_cons_succ]
      refine wpAnyH_take (i := 8) (v := ?v8q2) rfl (by kernel_rfl) (by kernel_rfl) (by kernel_rfl) (fun _ _ _ h => h) (Or.inl ⟨by rfl, ?y8q2⟩) (by assumption) ?z8q2
      case y8q2 => intro W hSw; (try dsimp only at hSw); go_simp <;> with_reducible rfl
      simp only [Act.put, List.getElem_toArray, List.getElem_cons_zero, List.getElem_cons_succ, List.setIfInBounds_toArray, List.set_cons_zero, List.set_cons_succ]
      refine wpAnyH_take (i := 9) (v := ?v9q2) rfl (by kernel_rfl) (by kernel_rfl) (by kernel_rfl) (fun _ _ _ h => h) (Or.inl ⟨by rfl, ?y9q2⟩) (by assumption) ?z9q2
      case y9q2 => intro W hSw; (try dsimp only at hSw); go_simp <;> with_reducible rfl
      simp only [Act.put, List.getElem_toArray, List.getElem_cons_zero, List.getElem_cons_succ, List.setIfInBounds_toArray, List.set_cons_zero, List.set_cons_succ]
      refine wpAnyH_take (i := 10) (v := ?v10q2) rfl (by kernel_rfl) (by kernel_rfl) (by kernel_rfl) (fun _ _ _ h => h) (Or.inl ⟨by rfl, ?y10q2⟩) (by assumption) ?z10q2
      case y10q2 => intro W hSw; (try dsimp only at hSw); go_simp <;> with_reducible rfl
      simp only [Act.put, List.getElem_toArray, List.getElem_cons_zero, List.getElem_cons_succ, List.setIfInBounds_toArray, List.set_cons_zero, List.set_cons_succ]
      refine wpAnyH_take (i := 11) (v := ?v11q2) rfl (by kernel_rfl) (by kernel_rfl) (by kernel_rfl) (fun _ _ _ h => h) (Or.inl ⟨by rfl, ?y11q2⟩) (by assumption) ?z11q2
      case y11q2 => intro W hSw; (try dsimp only at hSw); go_simp <;> with_reducible rfl
      simp only [Act.put, List.getElem_toArray, List.getElem_cons_zero, List.getElem_cons_succ, List.setIfInBounds_toArray, List.set_cons_zero, List.set_cons_succ]
      refine wpAnyH_take (i := 12) (v := ?v12q2) rfl (by kernel_rfl) (by kernel_rfl) (by kernel_rfl) (fun _ _ _ h => h) (Or.inl ⟨by rfl, ?y12q2⟩) (by assumption) ?z12q2
      case y12q2 => intro W hSw; (try dsimp only at hSw); go_simp <;> with_reducible rfl
      simp only [Act.put, List.getElem_toArray, List.getElem_cons_zero, List.getElem_cons_succ, List.setIfInBounds_toArray, List.set_cons_zero, List.set_cons_succ]
      refine wpAnyH_take (i := 13) (v := ?v13q2) rfl (by kernel_rfl) (by kernel_rfl) (by kernel_rfl) (fun _ _ _ h => h) (Or.inl ⟨by rfl, ?y13q2⟩) (by assumption) ?z13q2
      case y13q2 => intro W hSw; (try dsimp only at hSw); go_simp <;> with_reducible rfl
      simp only [Act.put, List.getElem_toArray, List.getElem_cons_zero, List.getElem_cons_succ, List.setIfInBounds_toArray, List.set_cons_zero, List.set_cons_succ]
      refine wpAnyH_take (i := 15) (v := ?v15q2) rfl (by kernel_rfl) (by kernel_rfl) (by kernel_rfl) (fun _ _ _ h => h) (Or.inl ⟨by rfl, ?y15q2⟩) (by assumption) ?z15q2
      case y15q2 => intro W hSw; (try dsimp only at hSw); go_simp <;> with_reducible rfl
      simp only [Act.put, List.getElem_toArray, List.getElem_cons_zero, List.getElem_cons_succ, List.setIfInBounds_toArray, List.set_cons_zero, List.set_cons_succ]
      refine wpAnyH_take (i := 16) (v := ?v16q2) rfl (by kernel_rfl) (by kernel_rfl) (by kernel_rfl) (fun _ _ _ h => h) (Or.inl ⟨by rfl, ?y16q2⟩) (by assumption) ?z16q2
      case y16q2 => intro W hSw; (try dsimp only at hSw); go_simp <;> with_reducible rfl
      simp only [Act.put, List.getElem_toArray, List.getElem_cons_zero, List.getElem_cons_succ, List.setIfInBounds_toArray, List.set_cons_zero, List.set_cons_succ]
      refine wpAnyH_ready (rs := [14]) (by kernel_rfl) (by simp) ?_
      refine AllReadyH.cons rfl (fun K' hK => ?_) AllReadyH.nil
      go_simp
      refine (n_MustText sv wg).mono ?_
      rintro e wh ⟨rfl, rfl⟩
      go_wp2_with fail
      refine hK.out _ _ (HS.out _ HDg.out) (fun hHeld14 => ?_)
      clear hK K'
      try simp only [Act.put, List.getElem_toArray, List.getElem_cons_zero, List.getElem_cons_succ, List.setIfInBounds_toArray, List.set_cons_zero, List.set_cons_succ]
      refine wpAnyH_take (i := 17) (v := ?v17q2) rfl (by kernel_rfl) (by kernel_rfl) (by kernel_rfl) (fun _ _ _ h => h) (Or.inl ⟨by rfl, ?y17q2⟩) (by assumption) ?z17q2
      case y17q2 => intro W hSw; (try dsimp only at hSw); go_simp <;> with_reducible rfl
      simp only [Act.put, List.getElem_toArray, List.getElem_cons_zero, List.getElem_cons_succ, List.setIfInBounds_toArray, List.set_cons_zero, List.set_cons_succ]
      refine wpAnyH_take (i := 18) (v := ?v18q2) rfl (by kernel_rfl) (by kernel_rfl) (by kernel_rfl) (fun _ _ _ h => h) (Or.inl ⟨by rfl, ?y18q2⟩) (by assumption) ?z18q2
      case y18q2 => intro W hSw; (try dsimp only at hSw); go_simp <;> with_reducible rfl
      simp only [Act.put, List.getElem_toArray, List.getElem_cons_zero, List.getElem_cons_succ, List.setIfInBounds_toArray, List.set_cons_zero, List.set_cons_succ]
      refine wpAnyH_take (i := 19) (v := ?v19q2) rfl (by kernel_rfl) (by kernel_rfl) (by kernel_rfl) (fun _ _ _ h => h) (Or.inl ⟨by rfl, ?y19q2⟩) (by assumption) ?z19q2
      case y19q2 => intro W hSw; (try dsimp only at hSw); go_simp <;> with_reducible rfl
      simp only [Act.put, List.getElem_toArray, List.getElem_cons_zero, List.getElem_cons_succ, List.setIfInBounds_toArray, List.set_cons_zero, List.set_cons_succ]
      refine wpAnyH_take (i := 20) (v := ?v20q2) rfl (by kernel_rfl) (by kernel_rfl) (by kernel_rfl) (fun _ _ _ h => h) (Or.inl ⟨by rfl, ?y20q2⟩) (by assumption) ?z20q2
      case y20q2 => intro W hSw; (try dsimp only at hSw); go_simp <;> with_reducible rfl
      simp only [Act.put, List.getElem_toArray, List.getElem_cons_zero, List.getElem_cons_succ, List.setIfInBounds_toArray, List.set_cons_zero, List.set_cons_succ]
      refine wpAnyH_ready (rs := [21]) (by kernel_rfl) (by simp) ?_
      refine AllReadyH.cons rfl (fun K' hK => ?_) AllReadyH.nil
      go_simp
      refine (HAW.out _ HDBg.out).mono ?_
      rintro e wz ⟨rfl, hbz⟩
      have HDz := Lib.hid (bstep HDg.out hbz)
      have HDBz := Lib.hid (bstep HDBg.out hbz)
      clear hbz
      go_wp2_with fail
      refine hK.out _ _ (HS.out _ HDz.out) (fun hHeld21 => ?_)
      clear hK K'
      try simp only [Act.put, List.getElem_toArray, List.getElem_cons_zero, List.getElem_cons_succ, List.setIfInBounds_toArray, List.set_cons_zero, List.set_cons_succ]
      refine wpAnyH_take (i := 22) (v := ?v22q2) rfl (by kernel_rfl) (by kernel_rfl) (by kernel_rfl) (fun _ _ _ h => h) (Or.inl ⟨by rfl, ?y22q2⟩) (by assumption) ?z22q2
      case y22q2 => intro W hSw; (try dsimp only at hSw); go_simp <;> with_reducible rfl
      simp only [Act.put, List.getElem_toArray, List.getElem_cons_zero, List.getElem_cons_succ, List.setIfInBounds_toArray, List.set_cons_zero, List.set_cons_succ]
      refine wpAnyH_take (i := 23) (v := ?v23q2) rfl (by kernel_rfl) (by kernel_rfl) (by kernel_rfl) (fun _ _ _ h => h) (Or.inl ⟨by rfl, ?y23q2⟩) (by assumption) ?z23q2
      case y23q2 => intro W hSw; (try dsimp only at hSw); go_simp <;> with_reducible rfl
      simp only [Act.put, List.getElem_toArray, List.getElem_cons_zero, List.getElem_cons_succ, List.setIfInBounds_toArray, List.set_cons_zero, List.set_cons_succ]
      refine wpAnyH_done (by kernel_rfl) ?_ _
      refine NoPanic.normal ?_
      go_wp2_with fail
      go_ret
      exact ⟨rfl, HDBz.out⟩
    | some u =>
      rw [if_pos rfl] at HTEXT
      rw [show (some sv.data.toList).getD [] = sv.data.toList from rfl, bs_self, show (some sv.data.toList).isSome = true from rfl] at HTEXT
      rw [show (some u).isSome = true from rfl] at HFIND HRF
      rw [show (some u).map valN = some (valN u) from rfl] at HFIND
      have HEQ2 := Lib.hid (HEQ.out u rfl)
      obtain ⟨⟨p0, p1, p2, p3, p4⟩, ⟨r0, r1, r2, r3, r4⟩⟩ := HS.out _ HC0.out
      go_enter Tryz.func3, Tryz.ntmps3
      go_wp2_with fail
      try rw [hW0]
      clear hW0
      refine (HL1.out _ HB0.out).mono ?_
      rintro e w1 ⟨rfl, hb1⟩
      have HB1 := Lib.hid (bstep HB0.out hb1)
      have HC1 := Lib.hid (bstep HC0.out hb1)
      clear hb1
      clear p0 p1 p2 p3 p4 r0 r1 r2 r3 r4
      obtain ⟨⟨p0, p1, p2, p3, p4⟩, ⟨r0, r1, r2, r3, r4⟩⟩ := HS.out _ HC1.out
      go_wp2_with fail
      refine (HL2.out _ HB1.out).mono ?_
      rintro e w2 ⟨rfl, hb2⟩
      have HB2 := Lib.hid (bstep HB1.out hb2)
      have HC2 := Lib.hid (bstep HC1.out hb2)
      clear hb2
      clear p0 p1 p2 p3 p4 r0 r1 r2 r3 r4
      obtain ⟨⟨p0, p1, p2, p3, p4⟩, ⟨r0, r1, r2, r3, r4⟩⟩ := HS.out _ HC2.out
      go_wp2_with fail
      refine (HOWN.out _ HB2.out).mono ?_
      rintro e w3 ⟨x, S, rfl, hx, hS, hb3⟩
      have HB3 := Lib.hid (bstep HB2.out hb3)
      have HC3 := Lib.hid (bstep HC2.out hb3)
      have HX : Hid (∀ W, Below w3.heap.size w3 W → AV (fun i => i < W.heap.size) W J x) := Lib.hid (fun W hW => (hx.kept (fun _ h => h) (KeptS.of_below hW hS)).kept (fun i hi => Nat.lt_of_lt_of_le (hS i hi) hW.size) (KeptS.refl _ _))
      have HR3 := Lib.hid (Below.refl w3.heap.size w3)
      clear hb3 hx hS
      clear p0 p1 p2 p3 p4 r0 r1 r2 r3 r4
      obtain ⟨⟨p0, p1, p2, p3, p4⟩, ⟨r0, r1, r2, r3, r4⟩⟩ := HS.out _ HC3.out
      go_wp2_with fail
      have HPU := Lib.hid (HPUT.out w3 _ x HB3.out (HX.out w3 HR3.out) (fun _ h => h))
      refine (HPU.out).mono ?_
      rintro e w4 ⟨rfl, hb4⟩
      have HB4 := Lib.hid (bstep HB3.out hb4)
      have HC4 := Lib.hid (bstep HC3.out hb4)
      have HR4 := Lib.hid (bstep HR3.out hb4)
      clear hb4
      clear p0 p1 p2 p3 p4 r0 r1 r2 r3 r4
      obtain ⟨⟨p0, p1, p2, p3, p4⟩, ⟨r0, r1, r2, r3, r4⟩⟩ := HS.out _ HC4.out
      go_wp2_with fail
      refine (HRP.out _ HB4.out).mono ?_
      rintro e w5 ⟨rfl, hb5⟩
      have HB5 := Lib.hid (bstep HB4.out hb5)
      have HC5 := Lib.hid (bstep HC4.out hb5)
      have HR5 := Lib.hid (bstep HR4.out hb5)
      clear hb5
      clear p0 p1 p2 p3 p4 r0 r1 r2 r3 r4
      obtain ⟨⟨p0, p1, p2, p3, p4⟩, ⟨r0, r1, r2, r3, r4⟩⟩ := HS.out _ HC5.out
      go_wp2_with fail
      have HFD := Lib.hid (HFIND.out w5 _ x HB5.out (HX.out w5 HR5.out) (fun _ h => h))
      refine (HFD.out).mono ?_
      rintro e w6 ⟨⟨y, rfl, hy⟩, hb6⟩
      have HB6 := Lib.hid (bstep HB5.out hb6)
      have HC6 := Lib.hid (bstep HC5.out hb6)
      have HR6 := Lib.hid (bstep HR5.out hb6)
      have HY := Lib.hid hy
      have HV6 := Lib.hid hb6
      clear hb6 hy
      clear p0 p1 p2 p3 p4 r0 r1 r2 r3 r4
      obtain ⟨⟨p0, p1, p2, p3, p4⟩, ⟨r0, r1, r2, r3, r4⟩⟩ := HS.out _ HC6.out
      go_wp2_with fail
      refine (HRF.out _ HB6.out).mono ?_
      rintro e w7 ⟨⟨z0, z1, z2, z3, z4, rfl, hz⟩, hb7⟩
      have HB7 := Lib.hid (bstep HB6.out hb7)
      have HC7 := Lib.hid (bstep HC6.out hb7)
      have HR7 := Lib.hid (bstep HR6.out hb7)
      have HZ := Lib.hid hz
      have HV7 := Lib.hid (bstep HV6.out hb7)
      have HW7 := Lib.hid hb7
      obtain ⟨zk, zn, zs, za, zl, zc, zd, zm, ze, rfl, rfl, rfl, rfl, rfl⟩ := hz.shape
      clear hb7 hz
      clear p0 p1 p2 p3 p4 r0 r1 r2 r3 r4
      obtain ⟨⟨p0, p1, p2, p3, p4⟩, ⟨r0, r1, r2, r3, r4⟩⟩ := HS.out _ HC7.out
      go_wp2_with fail
      have hnz := NB.new w7 (.int .u8 zk) (.int .i64 zn) (.string zs) (.slice za zl zc) (.slice zd zm ze) 25
      obtain ⟨W8, hW8⟩ : ∃ W8, w7.alloc (.cells #[.int .u8 zk, .int .i64 zn, .string zs, .slice za zl zc, .slice zd zm ze] 25) = W8 := ⟨_, rfl⟩
      rw [hW8] at hnz
      try rw [hW8]
      have HNZ := Lib.hid hnz
      have HB8 := Lib.hid (bstep HB7.out hnz.b)
      have HC8 := Lib.hid (bstep HC7.out hnz.b)
      have HR8 := Lib.hid (bstep HR7.out hnz.b)
      have HV8 := Lib.hid (bstep HV7.out hnz.b)
      have HW8 := Lib.hid (bstep HW7.out hnz.b)
      clear hnz hW8
      clear p0 p1 p2 p3 p4 r0 r1 r2 r3 r4
      have HTX := Lib.hid (HTEXT.out W8 _ x (HX.out W8 HR8.out))
      refine HTX.out.mono ?_
      rintro e w9 ⟨rfl, rfl⟩
      go_wp2_with fail
      have HD9 := Lib.hid (bstep HC8.out (Below.refl _ w9).drew)
      have HDB9 := Lib.hid (bstep HB8.out (Below.refl _ w9).drew)
      have HDR9 := Lib.hid (bstep HR8.out (Below.refl _ w9).drew)
      refine wp_region_noPanic ?_
      refine wp_region_held_drew (S := fun (W : World) => (W.cell? ⟨w.heap.size, 0, none⟩ = some (.int .u8 4) ∧ W.cell? ⟨w.heap.size, 1, none⟩ = some x1 ∧ W.cell? ⟨w.heap.size, 2, none⟩ = some (.string sv) ∧ W.cell? ⟨w.heap.size, 3, none⟩ = some x3 ∧ W.cell? ⟨w.heap.size, 4, none⟩ = some x4) ∧ (W.cell? ⟨w.heap.size + 1, 0, none⟩ = some y0 ∧ W.cell? ⟨w.heap.size + 1, 1, none⟩ = some y1 ∧ W.cell? ⟨w.heap.size + 1, 2, none⟩ = some y2 ∧ W.cell? ⟨w.heap.size + 1, 3, none⟩ = some y3 ∧ W.cell? ⟨w.heap.size + 1, 4, none⟩ = some y4)) (by kernel_rfl) (HS.out _ HD9.out) (fun hHeld => ?_)
      refine wpAnyH_take (i := 0) (v := ?v0q3) rfl (by kernel_rfl) (by kernel_rfl) (by kernel_rfl) (fun _ _ _ h => h) (Or.inl ⟨by rfl, ?y0q3⟩) (by assumption) ?z0q3
      case y0q3 => intro W hSw; (try dsimp only at hSw); go_simp <;> with_reducible rfl
      simp only [Act.put, List.getElem_toArray, List.getElem_cons_zero, List.getElem_cons_succ, List.setIfInBounds_toArray, List.set_cons_zero, List.set_cons_succ]
      refine wpAnyH_take (i := 1) (v := ?v1q3) rfl (by kernel_rfl) (by kernel_rfl) (by kernel_rfl) (fun _ _ _ h => h) (Or.inl ⟨by rfl, ?y1q3⟩) (by assumption) ?z1q3
      case y1q3 => intro W hSw; (try dsimp only at hSw); go_simp <;> with_reducible rfl
      simp only [Act.put, List.getElem_toArray, List.getElem_cons_zero, List.getElem_cons_succ, List.setIfInBounds_toArray, List.set_cons_zero, List.set_cons_succ]
      refine wpAnyH_take (i := 2) (v := ?v2q3) rfl (by kernel_rfl) (by kernel_rfl) (by kernel_rfl) (fun _ _ _ h => h) (Or.inl ⟨by rfl, ?y2q3⟩) (by assumption) ?z2q3
      case y2q3 => intro W hSw; (try dsimp only at hSw); go_simp <;> with_reducible rfl
      simp only [Act.put, List.getElem_toArray, List.getElem_cons_zero, List.getElem_cons_succ, List.setIfInBounds_toArray, List.set_cons_zero, List.set_cons_succ]
      refine wpAnyH_take (i := 3) (v := ?v3q3) rfl (by kernel_rfl) (by kernel_rfl) (by kernel_rfl) (fun _ _ _ h => h) (Or.inl ⟨by rfl, ?y3q3⟩) (by assumption) ?z3q3
      case y3q3 => intro W hSw; (try dsimp only at hSw); go_simp <;> with_reducible rfl
      simp only [Act.put, List.getElem_toArray, List.getElem_cons_zero, List.getElem_cons_succ, List.setIfInBounds_toArray, List.set_cons_zero, List.set_cons_succ]
      refine wpAnyH_take (i := 4) (v := ?v4q3) rfl (by kernel_rfl) (by kernel_rfl) (by kernel_rfl) (fun _ _ _ h => h) (Or.inl ⟨by rfl, ?y4q3⟩) (by assumption) ?z4q3
      case y4q3 => intro W hSw; (try dsimp only at hSw); go_simp <;> with_reducible rfl
      simp only [Act.put, List.getElem_toArray, List.getElem_cons_zero, List.getElem_cons_succ, List.setIfInBounds_toArray, List.set_cons_zero, List.set_cons_succ]
      refine wpAnyH_take (i := 5) (v := ?v5q3) rfl (by kernel_rfl) (by kernel_rfl) (by kernel_rfl) (fun _ _ _ h => h) (Or.inl ⟨by rfl, ?y5q3⟩) (by assumption) ?z5q3
      case y5q3 => intro W hSw; (try dsimp only at hSw); go_simp <;> with_reducible rfl
      simp only [Act.put, List.getElem_toArray, List.getElem_cons_zero, List.getElem_cons_succ, List.setIfInBounds_toArray, List.set_cons_zero, List.set_cons_succ]
      refine wpAnyH_take (i := 6) (v := ?v6q3) rfl (by kernel_rfl) (by kernel_rfl) (by kernel_rfl) (fun _ _ _ h => h) (Or.inl ⟨by rfl, ?y6q3⟩) (by assumption) ?z6q3
      case y6q3 => intro W hSw; (try dsimp only at hSw); go_simp <;> with_reducible rfl
      simp only [Act.put, List.getElem_toArray, List.getElem_cons_zero, List.getElem_cons_succ, List.setIfInBounds_toArray, List.set_cons_zero, List.set_cons_succ]
      refine wpAnyH_take (i := 7) (v := ?v7q3) rfl (by kernel_rfl) (by kernel_rfl) (by kernel_rfl) (fun _ _ _ h => h) (Or.inl ⟨by rfl, ?y7q3⟩) (by assumption) ?z7q3
      case y7q3 => intro W hSw; (try dsimp only at hSw); go_simp <;> with_reducible rfl
      simp only [Act.put, List.getElem_toArray, List.getElem_cons_zero, List.getElem_cons_succ, List.setIfInBounds_toArray, List.set_cons_zero, List.set_cons_succ]
      refine wpAnyH_take (i := 8) (v := ?v8q3) rfl (by kernel_rfl) (by kernel_rfl) (by kernel_rfl) (fun _ _ _ h => h) (Or.inl ⟨by rfl, ?y8q3⟩) (by assumption) ?z8q3
      case y8q3 => intro W hSw; (try dsimp only at hSw); go_simp <;> with_reducible rfl
      simp only [Act.put, List.getElem_toArray, List.getElem_cons_zero, List.getElem_cons_succ, List.setIfInBounds_toArray, List.set_cons_zero, List.set_cons_succ]
      refine wpAnyH_take (i := 9) (v := ?v9q3) rfl (by kernel_rfl) (by kernel_rfl) (by kernel_rfl) (fun _ _ _ h => h) (Or.inl ⟨by rfl, ?y9q3⟩) (by assumption) ?z9q3
      case y9q3 => intro W hSw; (try dsimp only at hSw); go_simp <;> with_reducible rfl
      simp only [Act.put, List.getElem_toArray, List.getElem_cons_zero, List.getElem_cons_succ, List.setIfInBounds_toArray, List.set_cons_zero, List.set_cons_succ]
      refine wpAnyH_take (i := 11) (v := ?v11q3) rfl (by kernel_rfl) (by kernel_rfl) (by kernel_rfl) (fun _ _ _ h => h) (Or.inl ⟨by rfl, ?y11q3⟩) (by assumption) ?z11q3
      case y11q3 => intro W hSw; (try dsimp only at hSw); go_simp <;> with_reducible rfl
      simp only [Act.put, List.getElem_toArray, List.getElem_cons_zero, List.getElem_cons_succ, List.setIfInBounds_toArray, List.set_cons_zero, List.set_cons_succ]
      have HCK := Lib.hid (HCHK.out w9.drew _ x HDB9.out (HX.out _ HDR9.out) (fun _ h => h))
      refine wpAnyH_ready (rs := [10]) (by kernel_rfl) (by simp) ?_
      refine AllReadyH.cons rfl (fun K' hK => ?_) AllReadyH.nil
      go_simp
      refine HCK.out.mono ?_
      rintro e wa ⟨rfl, hba⟩
      have HDa := Lib.hid (bstep HD9.out hba)
      have HDBa := Lib.hid (bstep HDB9.out hba)
      have HVa := Lib.hid (bstep (Below.refl _ w9).drew hba)
      clear hba
      go_wp2_with fail
      refine hK.out _ _ (HS.out _ HDa.out) (fun hHeld10 => ?_)
      clear hK K'
      try simp only [Act.put, List.getElem_toArray, List.getElem_cons_zero, List.getElem_cons_succ, List.setIfInBounds_toArray, List.set_cons_zero, List.set_cons_succ]
      refine wpAnyH_ready (rs := [12]) (by kernel_rfl) (by simp) ?_
      refine AllReadyH.cons rfl (fun K' hK => ?_) AllReadyH.nil
      go_simp
      refine (HRCHK.out _ HDBa.out).mono ?_
      rintro e wb ⟨rfl, hbb⟩
      have HDb := Lib.hid (bstep HDa.out hbb)
      have HDBb := Lib.hid (bstep HDBa.out hbb)
      have HVb := Lib.hid (bstep HVa.out hbb)
      clear hbb
      go_wp2_with fail
      refine hK.out _ _ (HS.out _ HDb.out) (fun hHeld12 => ?_)
      clear hK K'
      try simp only [Act.put, List.getElem_toArray, List.getElem_cons_zero, List.getElem_cons_succ, List.setIfInBounds_toArray, List.set_cons_zero, List.set_cons_succ]
      refine wpAnyH_take (i := 13) (v := ?v13q3) rfl (by kernel_rfl) (by kernel_rfl) (by kernel_rfl) (fun _ _ _ h => h) (Or.inl ⟨by rfl, ?y13q3⟩) (by assumption) ?z13q3
      case y13q3 => intro W hSw; (try dsimp only at hSw); go_simp <;> with_reducible rfl
      simp only [Act.put, List.getElem_toArray, List.getElem_cons_zero, List.getElem_cons_succ, List.setIfInBounds_toArray, List.set_cons_zero, List.set_cons_succ]
      refine wpAnyH_take (i := 14) (v := ?v14q3) rfl (by kernel_rfl) (by kernel_rfl) (by kernel_rfl) (fun _ _ _ h => h) (Or.inl ⟨by rfl, ?y14q3⟩) (by assumption) ?z14q3
      case y14q3 => intro W hSw; (try dsimp only at hSw); go_simp <;> with_reducible rfl
      simp only [Act.put, List.getElem_toArray, List.getElem_cons_zero, List.getElem_cons_succ, List.setIfInBounds_toArray, List.set_cons_zero, List.set_cons_succ]
      refine wpAnyH_take (i := 15) (v := ?v15q3) rfl (by kernel_rfl) (by kernel_rfl) (by kernel_rfl) (fun _ _ _ h => h) (Or.inl ⟨by rfl, ?y15q3⟩) (by assumption) ?z15q3
      case y15q3 => intro W hSw; (try dsimp only at hSw); go_simp <;> with_reducible rfl
      simp only [Act.put, List.getElem_toArray, List.getElem_cons_zero, List.getElem_cons_succ, List.setIfInBounds_toArray, List.set_cons_zero, List.set_cons_succ]
      refine wpAnyH_take (i := 16) (v := ?v16q3) rfl (by kernel_rfl) (by kernel_rfl) (by kernel_rfl) (fun _ _ _ h => h) (Or.inl ⟨by rfl, ?y16q3⟩) (by assumption) ?z16q3
      case y16q3 => intro W hSw; (try dsimp only at hSw); go_simp <;> with_reducible rfl
      simp only [Act.put, List.getElem_toArray, List.getElem_cons_zero, List.getElem_cons_succ, List.setIfInBounds_toArray, List.set_cons_zero, List.set_cons_succ]
      refine wpAnyH_take (i := 17) (v := ?v17q3) rfl (by kernel_rfl) (by kernel_rfl) (by kernel_rfl) (fun _ _ _ h => h) (Or.inl ⟨by rfl, ?y17q3⟩) (by assumption) ?z17q3
      case y17q3 => intro W hSw; (try dsimp only at hSw); go_simp <;> with_reducible rfl
      simp only [Act.put, List.getElem_toArray, List.getElem_cons_zero, List.getElem_cons_succ, List.setIfInBounds_toArray, List.set_cons_zero, List.set_cons_succ]
      refine wpAnyH_take (i := 18) (v := ?v18q3) rfl (by kernel_rfl) (by kernel_rfl) (by kernel_rfl) (fun _ _ _ h => h) (Or.inl ⟨by rfl, ?y18q3⟩) (by assumption) ?z18q3
      case y18q3 => intro W hSw; (try dsimp only at hSw); go_simp <;> with_reducible rfl
      simp only [Act.put, List.getElem_toArray, List.getElem_cons_zero, List.getElem_cons_succ, List.setIfInBounds_toArray, List.set_cons_zero, List.set_cons_succ]
      refine wpAnyH_take (i := 19) (v := ?v19q3) rfl (by kernel_rfl) (by kernel_rfl) (by kernel_rfl) (fun _ _ _ h => h) (Or.inl ⟨by rfl, ?y19q3⟩) (by assumption) ?z19q3
      case y19q3 => intro W hSw; (try dsimp only at hSw); go_simp <;> with_reducible rfl
      simp only [Act.put, List.getElem_toArray, List.getElem_cons_zero, List.getElem_cons_succ, List.setIfInBounds_toArray, List.set_cons_zero, List.set_cons_succ]
      refine wpAnyH_take (i := 20) (v := ?v20q3) rfl (by kernel_rfl) (by kernel_rfl) (by kernel_rfl) (fun _ _ _ h => h) (Or.inl ⟨by rfl, ?y20q3⟩) (by assumption) ?z20q3
      case y20q3 => intro W hSw; (try dsimp only at hSw); go_simp <;> with_reducible rfl
      simp only [Act.put, List.getElem_toArray, List.getElem_cons_zero, List.getElem_cons_succ, List.setIfInBounds_toArray, List.set_cons_zero, List.set_cons_succ]
      refine wpAnyH_take (i := 21) (v := ?v21q3) rfl (by kernel_rfl) (by kernel_rfl) (by kernel_rfl) (fun _ _ _ h => h) (Or.inl ⟨by rfl, ?y21q3⟩) (by assumption) ?z21q3
      case y21q3 => intro W hSw; (try dsimp only at hSw); go_simp <;> with_reducible rfl
      simp only [Act.put, List.getElem_toArray, List.getElem_cons_zero, List.getElem_cons_succ, List.setIfInBounds_toArray, List.set_cons_zero, List.set_cons_succ]
      refine wpAnyH_take (i := 22) (v := ?v22q3) rfl (by kernel_rfl) (by kernel_rfl) (by kernel_rfl) (fun _ _ _ h => h) (Or.inl ⟨by rfl, ?y22q3⟩) (by assumption) ?z22q3
      case y22q3 => intro W hSw; (try dsimp only at hSw); go_simp <;> with_reducible rfl
      simp only [Act.put, List.getElem_toArray, List.getElem_cons_zero, List.getElem_cons_succ, List.setIfInBounds_toArray, List.set_cons_zero, List.set_cons_succ]
      refine wpAnyH_take (i := 23) (v := ?v23q3) rfl (by kernel_rfl) (by kernel_rfl) (by kernel_rfl) (fun _ _ _ h => h) (Or.inl ⟨by rfl, ?y23q3⟩) (by assumption) ?z23q3
      case y23q3 => intro W hSw; (try dsimp only at hSw); go_simp <;> with_reducible rfl
      simp only [Act.put, List.getElem_toArray, List.getElem_cons_zero, List.getElem_cons_succ, List.setIfInBounds_toArray, List.set_cons_zero, List.set_cons_succ]
      refine wpAnyH_take (i := 24) (v := ?v24q3) rfl (by kernel_rfl) (by kernel_rfl) (by kernel_rfl) (fun _ _ _ h => h) (Or.inl ⟨by rfl, ?y24q3⟩) (by assumption) ?z24q3
      case y24q3 => intro W hSw; (try dsimp only at hSw); go_simp <;> with_reducible rfl
      simp only [Act.put, List.getElem_toArray, List.getElem_cons_zero, List.getElem_cons_succ, List.setIfInBounds_toArray, List.set_cons_zero, List.set_cons_succ]
      refine wpAnyH_take (i := 25) (v := ?v25q3) rfl (by kernel_rfl) (by kernel_rfl) (by kernel_rfl) (fun _ _ _ h => h) (Or.inl ⟨by rfl, ?y25q3⟩) (by assumption) ?z25q3
      case y25q3 => intro W hSw; (try dsimp only at hSw); go_simp <;> with_reducible rfl
      simp only [Act.put, List.getElem_toArray, List.getElem_cons_zero, List.getElem_cons_succ, List.setIfInBounds_toArray, List.set_cons_zero, List.set_cons_succ]
      refine wpAnyH_take (i := 26) (v := ?v26q3) rfl (by kernel_rfl) (by kernel_rfl) (by kernel_rfl) (fun _ _ _ h => h) (Or.inl ⟨by rfl, ?y26q3⟩) (by assumption) ?z26q3
      case y26q3 => intro W hSw; (try dsimp only at hSw); go_simp <;> with_reducible rfl
      simp only [Act.put, List.getElem_toArray, List.getElem_cons_zero, List.getElem_cons_succ, List.setIfInBounds_toArray, List.set_cons_zero, List.set_cons_succ]
      refine wpAnyH_take (i := 27) (v := ?v27q3) rfl (by kernel_rfl) (by kernel_rfl) (by kernel_rfl) (fun _ _ _ h => h) (Or.inl ⟨by rfl, ?y27q3⟩) (by assumption) ?z27q3
      case y27q3 => intro W hSw; (try dsimp only at hSw); go_simp <;> with_reducible rfl
      simp only [Act.put, List.getElem_toArray, List.getElem_cons_zero, List.getElem_cons_succ, List.setIfInBounds_toArray, List.set_cons_zero, List.set_cons_succ]
      refine wpAnyH_take (i := 28) (v := ?v28q3) rfl (by kernel_rfl) (by kernel_rfl) (by kernel_rfl) (fun _ _ _ h => h) (Or.inl ⟨by rfl, ?y28q3⟩) (by assumption) ?z28q3
      case y28q3 => intro W hSw; (try dsimp only at hSw); go_simp <;> with_reducible rfl
      simp only [Act.put, List.getElem_toArray, List.getElem_cons_zero, List.getElem_cons_succ, List.setIfInBounds_toArray, List.set_cons_zero, List.set_cons_succ]
      refine wpAnyH_take (i := 29) (v := ?v29q3) rfl (by kernel_rfl) (by kernel_rfl) (by kernel_rfl) (fun _ _ _ h => h) (Or.inl ⟨by rfl, ?y29q3⟩) (by assumption) ?z29q3
      case y29q3 => intro W hSw; (try dsimp only at hSw); go_simp <;> with_reducible rfl
      simp only [Act.put, List.getElem_toArray, List.getElem_cons_zero, List.getElem_cons_succ, List.setIfInBounds_toArray, List.set_cons_zero, List.set_cons_succ]
      refine wpAnyH_take (i := 30) (v := ?v30q3) rfl (by kernel_rfl) (by kernel_rfl) (by kernel_rfl) (fun _ _ _ h => h) (Or.inl ⟨by rfl, ?y30q3⟩) (by assumption) ?z30q3
      case y30q3 => intro W hSw; (try dsimp only at hSw); go_simp <;> with_reducible rfl
      simp only [Act.put, List.getElem_toArray, List.getElem_cons_zero, List.getElem_cons_succ, List.setIfInBounds_toArray, List.set_cons_zero, List.set_cons_succ]
      refine wpAnyH_take (i := 31) (v := ?v31q3) rfl (by kernel_rfl) (by kernel_rfl) (by kernel_rfl) (fun _ _ _ h => h) (Or.inl ⟨by rfl, ?y31q3⟩) (by assumption) ?z31q3
      case y31q3 => intro W hSw; (try dsimp only at hSw); go_simp <;> with_reducible rfl
      simp only [Act.put, List.getElem_toArray, List.getElem_cons_zero, List.getElem_cons_succ, List.setIfInBounds_toArray, List.set_cons_zero, List.set_cons_succ]
      refine wpAnyH_take (i := 32) (v := ?v32q3) rfl (by kernel_rfl) (by kernel_rfl) (by kernel_rfl) (fun _ _ _ h => h) (Or.inl ⟨by rfl, ?y32q3⟩) (by assumption) ?z32q3
      case y32q3 => intro W hSw; (try dsimp only at hSw); go_simp <;> with_reducible rfl
      simp only [Act.put, List.getElem_toArray, List.getElem_cons_zero, List.getElem_cons_succ, List.setIfInBounds_toArray, List.set_cons_zero, List.set_cons_succ]
      refine wpAnyH_take (i := 33) (v := ?v33q3) rfl (by kernel_rfl) (by kernel_rfl) (by kernel_rfl) (fun _ _ _ h => h) (Or.inl ⟨by rfl, ?y33q3⟩) (by assumption) ?z33q3
      case y33q3 => intro W hSw; (try dsimp only at hSw); go_simp <;> with_reducible rfl
      simp only [Act.put, List.getElem_toArray, List.getElem_cons_zero, List.getElem_cons_succ, List.setIfInBounds_toArray, List.set_cons_zero, List.set_cons_succ]
      refine wpAnyH_take (i := 34) (v := ?v34q3) rfl (by kernel_rfl) (by kernel_rfl) (by kernel_rfl) (fun _ _ _ h => h) (Or.inl ⟨by rfl, ?y34q3⟩) (by assumption) ?z34q3
      case y34q3 => intro W hSw; (try dsimp only at hSw); go_simp <;> with_reducible rfl
      simp only [Act.put, List.getElem_toArray, List.getElem_cons_zero, List.getElem_cons_succ, List.setIfInBounds_toArray, List.set_cons_zero, List.set_cons_succ]
      refine wpAnyH_take (i := 35) (v := ?v35q3) rfl (by kernel_rfl) (by kernel_rfl) (by kernel_rfl) (fun _ _ _ h => h) (Or.inl ⟨by rfl, ?y35q3⟩) (by assumption) ?z35q3
      case y35q3 => intro W hSw; (try dsimp only at hSw); go_simp <;> with_reducible rfl
      simp only [Act.put, List.getElem_toArray, List.getElem_cons_zero, List.getElem_cons_succ, List.setIfInBounds_toArray, List.set_cons_zero, List.set_cons_succ]
      refine wpAnyH_take (i := 36) (v := ?v36q3) rfl (by kernel_rfl) (by kernel_rfl) (by kernel_rfl) (fun _ _ _ h => h) (Or.inl ⟨by rfl, ?y36q3⟩) (by assumption) ?z36q3
      case y36q3 => intro W hSw; (try dsimp only at hSw); go_simp <;> with_reducible rfl
      simp only [Act.put, List.getElem_toArray, List.getElem_cons_zero, List.getElem_cons_succ, List.setIfInBounds_toArray, List.set_cons_zero, List.set_cons_succ]
      refine wpAnyH_take (i := 37) (v := ?v37q3) rfl (by kernel_rfl) (by kernel_rfl) (by kernel_rfl) (fun _ _ _ h => h) (Or.inl ⟨by rfl, ?y37q3⟩) (by assumption) ?z37q3
      case y37q3 => intro W hSw; (try dsimp only at hSw); go_simp <;> with_reducible rfl
      simp only [Act.put, List.getElem_toArray, List.getElem_cons_zero, List.getElem_cons_succ, List.setIfInBounds_toArray, List.set_cons_zero, List.set_cons_succ]
      refine wpAnyH_take (i := 38) (v := ?v38q3) rfl (by kernel_rfl) (by kernel_rfl) (by kernel_rfl) (fun _ _ _ h => h) (Or.inl ⟨by rfl, ?y38q3⟩) (by assumption) ?z38q3
      case y38q3 => intro W hSw; (try dsimp only at hSw); go_simp <;> with_reducible rfl
      simp only [Act.put, List.getElem_toArray, List.getElem_cons_zero, List.getElem_cons_succ, List.setIfInBounds_toArray, List.set_cons_zero, List.set_cons_succ]
      refine wpAnyH_take (i := 39) (v := ?v39q3) rfl (by kernel_rfl) (by kernel_rfl) (by kernel_rfl) (fun _ _ _ h => h) (Or.inl ⟨by rfl, ?y39q3⟩) (by assumption) ?z39q3
      case y39q3 => intro W hSw; (try dsimp only at hSw); go_simp <;> with_reducible rfl
      simp only [Act.put, List.getElem_toArray, List.getElem_cons_zero, List.getElem_cons_succ, List.setIfInBounds_toArray, List.set_cons_zero, List.set_cons_succ]
      refine wpAnyH_take (i := 40) (v := undef) rfl (by kernel_rfl) (by kernel_rfl) (by kernel_rfl) (fun _ _ _ h => h) (Or.inr ⟨by rfl, rfl⟩) (by assumption) ?_
      simp only [Act.put, List.getElem_toArray, List.getElem_cons_zero, List.getElem_cons_succ, List.setIfInBounds_toArray, List.set_cons_zero, List.set_cons_succ]
      refine wpAnyH_take (i := 41) (v := undef) rfl (by kernel_rfl) (by kernel_rfl) (by kernel_rfl) (fun _ _ _ h => h) (Or.inr ⟨by rfl, rfl⟩) (by assumption) ?_
      simp only [Act.put, List.getElem_toArray, List.getElem_cons_zero, List.getElem_cons_succ, List.setIfInBounds_toArray, List.set_cons_zero, List.set_cons_succ]
      refine wpAnyH_take (i := 42) (v := ?v42q3) rfl (by kernel_rfl) (by kernel_rfl) (by kernel_rfl) (fun _ _ _ h => h) (Or.inl ⟨by rfl, ?y42q3⟩) (by assumption) ?z42q3
      case y42q3 => intro W hSw; (try dsimp only at hSw); go_simp <;> with_reducible rfl
      simp only [Act.put, List.getElem_toArray, List.getElem_cons_zero, List.getElem_cons_succ, List.setIfInBounds_toArray, List.set_cons_zero, List.set_cons_succ]
      refine wpAnyH_take (i := 43) (v := ?v43q3) rfl (by kernel_rfl) (by kernel_rfl) (by kernel_rfl) (fun _ _ _ h => h) (Or.inl ⟨by rfl, ?y43q3⟩) (by assumption) ?z43q3
      case y43q3 => intro W hSw; (try dsimp only at hSw); go_simp <;> with_reducible rfl
      simp only [Act.put, List.getElem_toArray, List.getElem_cons_zero, List.getElem_cons_succ, List.setIfInBounds_toArray, List.set_cons_zero, List.set_cons_succ]
      refine wpAnyH_done (by kernel_rfl) ?_ _
      refine NoPanic.normal ?_
      have HRb := Lib.hid (bstep HR8.out HVb.out)
      have HNZb := Lib.hid (HNZ.out.below HVb.out)
      obtain ⟨-, ltz, g0, g1, g2, g3, g4⟩ := HNZ.out.below HVb.out
      go_wp2_with fail
      have HE9 := Lib.hid (HEQ2.out wb (fun i => i < w5.heap.size) y _ _ _ _ _ (NAt.below (bstep HW8.out HVb.out) u _ _ _ _ _ HZ.out) (AV.kept (fun _ h => h) (KeptS.of_below (bstep HV8.out HVb.out) (fun i h => h)) _ _ HY.out) (fun i h => Nat.lt_of_lt_of_le h (bstep HV8.out HVb.out).size))
      refine HE9.out.mono ?_
      rintro e wc ⟨rfl, hbc⟩
      have HDc := Lib.hid (bstep HDb.out hbc)
      have HDBc := Lib.hid (bstep HDBb.out hbc)
      have HRc := Lib.hid (bstep HRb.out hbc)
      clear hbc
      go_wp2_with fail
      have hxs : x = .iface 9 (.string sv) := HKT.out wc _ x (by first | trivial | rfl) (HX.out wc HRc.out)
      subst hxs
      have HDd := Lib.hid (bstep HDc.out (Below.refl _ wc).drew)
      have HDBd := Lib.hid (bstep HDBc.out (Below.refl _ wc).drew)
      have HRd := Lib.hid (bstep HRc.out (Below.refl _ wc).drew)
      refine wp_region_noPanic ?_
      refine wp_region_held_drew (S := fun (W : World) => (W.cell? ⟨w.heap.size, 0, none⟩ = some (.int .u8 4) ∧ W.cell? ⟨w.heap.size, 1, none⟩ = some x1 ∧ W.cell? ⟨w.heap.size, 2, none⟩ = some (.string sv) ∧ W.cell? ⟨w.heap.size, 3, none⟩ = some x3 ∧ W.cell? ⟨w.heap.size, 4, none⟩ = some x4) ∧ (W.cell? ⟨w.heap.size + 1, 0, none⟩ = some y0 ∧ W.cell? ⟨w.heap.size + 1, 1, none⟩ = some y1 ∧ W.cell? ⟨w.heap.size + 1, 2, none⟩ = some y2 ∧ W.cell? ⟨w.heap.size + 1, 3, none⟩ = some y3 ∧ W.cell? ⟨w.heap.size + 1, 4, none⟩ = some y4)) (by kernel_rfl) (HS.out _ HDd.out) (fun hHeld => ?_)
      refine wpAnyH_take (i := 0) (v := ?v0q4) rfl (by kernel_rfl) (by kernel_rfl) (by kernel_rfl) (fun _ _ _ h => h) (Or.inl ⟨by rfl, ?y0q4⟩) (by assumption) ?z0q4
      case y0q4 => intro W hSw; (try dsimp only at hSw); go_simp <;> with_reducible rfl
      simp only [Act.put, List.getElem_toArray, List.getElem_cons_zero, List.getElem_cons_succ, List.setIfInBounds_toArray, List.set_cons_zero, List.set_cons_succ]
      refine wpAnyH_take (i := 1) (v := ?v1q4) rfl (by kernel_rfl) (by kernel_rfl) (by kernel_rfl) (fun _ _ _ h => h) (Or.inl ⟨by rfl, ?y1q4⟩) (by assumption) ?z1q4
      case y1q4 => intro W hSw; (try dsimp only at hSw); go_simp <;> with_reducible rfl
      simp only [Act.put, List.getElem_toArray, List.getElem_cons_zero, List.getElem_cons_succ, List.setIfInBounds_toArray, List.set_cons_zero, List.set_cons_succ]
      refine wpAnyH_take (i := 4) (v := ?v4q4) rfl (by kernel_rfl) (by kernel_rfl) (by kernel_rfl) (fun _ _ _ h => h) (Or.inl ⟨by rfl, ?y4q4⟩) (by assumption) ?z4q4
      case y4q4 => intro W hSw; (try dsimp only at hSw); go_simp <;> with_reducible rfl
      simp only [Act.put, List.getElem_toArray, List.getElem_cons_zero, List.getElem_cons_succ, List.setIfInBounds_toArray, List.set_cons_zero, List.set_cons_succ]
      refine wpAnyH_take (i := 5) (v := ?v5q4) rfl (by kernel_rfl) (by kernel_rfl) (by kernel_rfl) (fun _ _ _ h => h) (Or.inl ⟨by rfl, ?y5q4⟩) (by assumption) ?z5q4
      case y5q4 => intro W hSw; (try dsimp only at hSw); go_simp <;> with_reducible rfl
      simp only [Act.put, List.getElem_toArray, List.getElem_cons_zero, List.getElem_cons_succ, List.setIfInBounds_toArray, List.set_cons_zero, List.set_cons_succ]
      refine wpAnyH_ready (rs := [2]) (by kernel_rfl) (by simp) ?_
      refine AllReadyH.cons rfl (fun K' hK => ?_) AllReadyH.nil
      go_simp
      refine (HOWN2.out _ HDBd.out).mono ?_
      rintro e we ⟨yy, S2, rfl, hyy, hS2, hbe⟩
      have HDe := Lib.hid (bstep HDd.out hbe)
      have HDBe := Lib.hid (bstep HDBd.out hbe)
      have HRe := Lib.hid (bstep HRd.out hbe)
      have HSM3 := Lib.hid (HSAME.out we _ _ yy HDBe.out (HX.out _ HRe.out) (hyy.kept hS2 (KeptS.refl _ _)) (fun _ h => h))
      clear hyy hS2 hbe
      go_wp2_with fail
      refine hK.out _ _ (HS.out _ HDe.out) (fun hHeld2 => ?_)
      clear hK K'
      try simp only [Act.put, List.getElem_toArray, List.getElem_cons_zero, List.getElem_cons_succ, List.setIfInBounds_toArray, List.set_cons_zero, List.set_cons_succ]
      refine wpAnyH_ready (rs := [3]) (by kernel_rfl) (by simp) ?_
      refine AllReadyH.cons rfl (fun K' hK => ?_) AllReadyH.nil
      go_simp
      refine HSM3.out.mono ?_
      rintro e wf ⟨rfl, hbf⟩
      have HDf := Lib.hid (bstep HDe.out hbf)
      have HDBf := Lib.hid (bstep HDBe.out hbf)
      clear hbf
      go_wp2_with fail
      refine hK.out _ _ (HS.out _ HDf.out) (fun hHeld3 => ?_)
      clear hK K'
      try simp only [Act.put, List.getElem_toArray, List.getElem_cons_zero, List.getElem_cons_succ, List.setIfInBounds_toArray, List.set_cons_zero, List.set_cons_succ]
      refine wpAnyH_ready (rs := [6]) (by kernel_rfl) (by simp) ?_
      refine AllReadyH.cons rfl (fun K' hK => ?_) AllReadyH.nil
      go_simp
      refine (HRSAME.out _ HDBf.out).mono ?_
      rintro e wg ⟨rfl, hbg⟩
      have HDg := Lib.hid (bstep HDf.out hbg)
      have HDBg := Lib.hid (bstep HDBf.out hbg)
      clear hbg
      go_wp2_with fail
      refine hK.out _ _ (HS.out _ HDg.out) (fun hHeld6 => ?_)
      clear hK K'
      try simp only [Act.put, List.getElem_toArray, List.getElem_cons_zero, List.getElem_cons_succ, List.setIfInBounds_toArray, List.set_cons_zero, List.set_cons_succ]
      refine wpAnyH_take (i := 7) (v := ?v7q4) rfl (by kernel_rfl) (by kernel_rfl) (by kernel_rfl) (fun _ _ _ h => h) (Or.inl ⟨by rfl, ?y7q4⟩) (by assumption) ?z7q4
      case y7q4 => intro W hSw; (try dsimp only at hSw); go_simp <;> with_reducible rfl
      simp only [Act.put, List.getElem_toArray, List.getElem_cons_zero, List.getElem_cons_succ, List.setIfInBounds_toArray, List.set_cons_zero, List.set_cons_succ]
      refine wpAnyH_take (i := 8) (v := ?v8q4) rfl (by kernel_rfl) (by kernel_rfl) (by kernel_rfl) (fun _ _ _ h => h) (Or.inl ⟨by rfl, ?y8q4⟩) (by assumption) ?z8q4
      case y8q4 => intro W hSw; (try dsimp only at hSw); go_simp <;> with_reducible rfl
      simp only [Act.put, List.getElem_toArray, List.getElem_cons_zero, List.getElem_cons_succ, List.setIfInBounds_toArray, List.set_cons_zero, List.set_cons_succ]
      refine wpAnyH_take (i := 9) (v := ?v9q4) rfl (by kernel_rfl) (by kernel_rfl) (by kernel_rfl) (fun _ _ _ h => h) (Or.inl ⟨by rfl, ?y9q4⟩) (by assumption) ?z9q4
      case y9q4 => intro W hSw; (try dsimp only at hSw); go_simp <;> with_reducible rfl
      simp only [Act.put, List.getElem_toArray, List.getElem_cons_zero, List.getElem_cons_succ, List.setIfInBounds_toArray, List.set_cons_zero, List.set_cons_succ]
      refine wpAnyH_take (i := 10) (v := ?v10q4) rfl (by kernel_rfl) (by kernel_rfl) (by kernel_rfl) (fun _ _ _ h => h) (Or.inl ⟨by rfl, ?y10q4⟩) (by assumption) ?z10q4
      case y10q4 => intro W hSw; (try dsimp only at hSw); go_simp <;> with_reducible rfl
      simp only [Act.put, List.getElem_toArray, List.getElem_cons_zero, List.getElem_cons_succ, List.setIfInBounds_toArray, List.set_cons_zero, List.set_cons_succ]
      refine wpAnyH_take (i := 11) (v := ?v11q4) rfl (by kernel_rfl) (by kernel_rfl) (by kernel_rfl) (fun _ _ _ h => h) (Or.inl ⟨by rfl, ?y11q4⟩) (by assumption) ?z11q4
      case y11q4 => intro W hSw; (try dsimp only at hSw); go_simp <;> with_reducible rfl
      simp only [Act.put, List.getElem_toArray, List.getElem_cons_zero, List.getElem_cons_succ, List.setIfInBounds_toArray, List.set_cons_zero, List.set_cons_succ]
      refine wpAnyH_take (i := 12) (v := ?v12q4) rfl (by kernel_rfl) (by kernel_rfl) (by kernel_rfl) (fun _ _ _ h => h) (Or.inl ⟨by rfl, ?y12q4⟩) (by assumption) ?z12q4
      case y12q4 => intro W hSw; (try dsimp only at hSw); go_simp <;> with_reducible rfl
      simp only [Act.put, List.getElem_toArray, List.getElem_cons_zero, List.getElem_cons_succ, List.setIfInBounds_toArray, List.set_cons_zero, List.set_cons_succ]
      refine wpAnyH_take (i := 13) (v := ?v13q4) rfl (by kernel_rfl) (by kernel_rfl) (by kernel_rfl) (fun _ _ _ h => h) (Or.inl ⟨by rfl, ?y13q4⟩) (by assumption) ?z13q4
      case y13q4 => intro W hSw; (try dsimp only at hSw); go_simp <;> with_reducible rfl
      simp only [Act.put, List.getElem_toArray, List.getElem_cons_zero, List.getElem_cons_succ, List.setIfInBounds_toArray, List.set_cons_zero, List.set_cons_succ]
      refine wpAnyH_take (i := 15) (v := ?v15q4) rfl (by kernel_rfl) (by kernel_rfl) (by kernel_rfl) (fun _ _ _ h => h) (Or.inl ⟨by rfl, ?y15q4⟩) (by assumption) ?z15q4
      case y15q4 => intro W hSw; (try dsimp only at hSw); go_simp <;> with_reducible rfl
      simp only [Act.put, List.getElem_toArray, List.getElem_cons_zero, List.getElem_cons_succ, List.setIfInBounds_toArray, List.set_cons_zero, List.set_cons_succ]
      refine wpAnyH_take (i := 16) (v := ?v16q4) rfl (by kernel_rfl) (by kernel_rfl) (by kernel_rfl) (fun _ _ _ h => h) (Or.inl ⟨by rfl, ?y16q4⟩) (by assumption) ?z16q4
      case y16q4 => intro W hSw; (try dsimp only at hSw); go_simp <;> with_reducible rfl
      simp only [Act.put, List.getElem_toArray, List.getElem_cons_zero, List.getElem_cons_succ, List.setIfInBounds_toArray, List.set_cons_zero, List.set_cons_succ]
      refine wpAnyH_ready (rs := [14]) (by kernel_rfl) (by simp) ?_
      refine AllReadyH.cons rfl (fun K' hK => ?_) AllReadyH.nil
      go_simp
      refine (n_MustText sv wg).mono ?_
      rintro e wh ⟨rfl, rfl⟩
      go_wp2_with fail
      refine hK.out _ _ (HS.out _ HDg.out) (fun hHeld14 => ?_)
      clear hK K'
      try simp only [Act.put, List.getElem_toArray, List.getElem_cons_zero, List.getElem_cons_succ, List.setIfInBounds_toArray, List.set_cons_zero, List.set_cons_succ]
      refine wpAnyH_take (i := 17) (v := ?v17q4) rfl (by kernel_rfl) (by kernel_rfl) (by kernel_rfl) (fun _ _ _ h => h) (Or.inl ⟨by rfl, ?y17q4⟩) (by assumption) ?z17q4
      case y17q4 => intro W hSw; (try dsimp only at hSw); go_simp <;> with_reducible rfl
      simp only [Act.put, List.getElem_toArray, List.getElem_cons_zero, List.getElem_cons_succ, List.setIfInBounds_toArray, List.set_cons_zero, List.set_cons_succ]
      refine wpAnyH_take (i := 18) (v := ?v18q4) rfl (by kernel_rfl) (by kernel_rfl) (by kernel_rfl) (fun _ _ _ h => h) (Or.inl ⟨by rfl, ?y18q4⟩) (by assumption) ?z18q4
      case y18q4 => intro W hSw; (try dsimp only at hSw); go_simp <;> with_reducible rfl
      simp only [Act.put, List.getElem_toArray, List.getElem_cons_zero, List.getElem_cons_succ, List.setIfInBounds_toArray, List.set_cons_zero, List.set_cons_succ]
      refine wpAnyH_take (i := 19) (v := ?v19q4) rfl (by kernel_rfl) (by kernel_rfl) (by kernel_rfl) (fun _ _ _ h => h) (Or.inl ⟨by rfl, ?y19q4⟩) (by assumption) ?z19q4
      case y19q4 => intro W hSw; (try dsimp only at hSw); go_simp <;> with_reducible rfl
      simp only [Act.put, List.getElem_toArray, List.getElem_cons_zero, List.getElem_cons_succ, List.setIfInBounds_toArray, List.set_cons_zero, List.set_cons_succ]
      refine wpAnyH_take (i := 20) (v := ?v20q4) rfl (by kernel_rfl) (by kernel_rfl) (by kernel_rfl) (fun _ _ _ h => h) (Or.inl ⟨by rfl, ?y20q4⟩) (by assumption) ?z20q4
      case y20q4 => intro W hSw; (try dsimp only at hSw); go_simp <;> with_reducible rfl
      simp only [Act.put, List.getElem_toArray, List.getElem_cons_zero, List.getElem_cons_succ, List.setIfInBounds_toArray, List.set_cons_zero, List.set_cons_succ]
      refine wpAnyH_ready (rs := [21]) (by kernel_rfl) (by simp) ?_
      refine AllReadyH.cons rfl (fun K' hK => ?_) AllReadyH.nil
      go_simp
      refine (HAW.out _ HDBg.out).mono ?_
      rintro e wz ⟨rfl, hbz⟩
      have HDz := Lib.hid (bstep HDg.out hbz)
      have HDBz := Lib.hid (bstep HDBg.out hbz)
      clear hbz
      go_wp2_with fail
      refine hK.out _ _ (HS.out _ HDz.out) (fun hHeld21 => ?_)
      clear hK K'
      try simp only [Act.put, List.getElem_toArray, List.getElem_cons_zero, List.getElem_cons_succ, List.setIfInBounds_toArray, List.set_cons_zero, List.set_cons_succ]
      refine wpAnyH_take (i := 22) (v := ?v22q4) rfl (by kernel_rfl) (by kernel_rfl) (by kernel_rfl) (fun _ _ _ h => h) (Or.inl ⟨by rfl, ?y22q4⟩) (by assumption) ?z22q4
      case y22q4 => intro W hSw; (try dsimp only at hSw); go_simp <;> with_reducible rfl
      simp only [Act.put, List.getElem_toArray, List.getElem_cons_zero, List.getElem_cons_succ, List.setIfInBounds_toArray, List.set_cons_zero, List.set_cons_succ]
      refine wpAnyH_take (i := 23) (v := ?v23q4) rfl (by kernel_rfl) (by kernel_rfl) (by kernel_rfl) (fun _ _ _ h => h) (Or.inl ⟨by rfl, ?y23q4⟩) (by assumption) ?z23q4
      case y23q4 => intro W hSw; (try dsimp only at hSw); go_simp <;> with_reducible rfl
      simp only [Act.put, List.getElem_toArray, List.getElem_cons_zero, List.getElem_cons_succ, List.setIfInBounds_toArray, List.set_cons_zero, List.set_cons_succ]
      refine wpAnyH_done (by kernel_rfl) ?_ _
      refine NoPanic.normal ?_
      go_wp2_with fail
      go_ret
      exact ⟨rfl, HDBz.out⟩
  · cases F with
    | none =>
      rw [if_neg k4] at HTEXT
      rw [show (none : Option (List UInt8)).getD [] = [] from rfl, show (none : Option (List UInt8)).isSome = false from rfl, show bs ([] : List UInt8) = ⟨#[]⟩ from rfl] at HTEXT
      have tk4 : (k == 4) = false := by rw [beq_eq_false_iff_ne]; exact k4
      have tk5 : (k != 4) = true := by rw [bne_iff_ne]; exact k4
      rw [show (none : Option ND).isSome = false from rfl] at HFIND HRF
      rw [show (none : Option ND).map valN = none from rfl] at HFIND
      obtain ⟨⟨p0, p1, p2, p3, p4⟩, ⟨r0, r1, r2, r3, r4⟩⟩ := HS.out _ HC0.out
      go_enter Tryz.func3, Tryz.ntmps3
      go_wp2_with fail
      try rw [hW0]
      clear hW0
      refine (HL1.out _ HB0.out).mono ?_
      rintro e w1 ⟨rfl, hb1⟩
      have HB1 := Lib.hid (bstep HB0.out hb1)
      have HC1 := Lib.hid (bstep HC0.out hb1)
      clear hb1
      clear p0 p1 p2 p3 p4 r0 r1 r2 r3 r4
      obtain ⟨⟨p0, p1, p2, p3, p4⟩, ⟨r0, r1, r2, r3, r4⟩⟩ := HS.out _ HC1.out
      go_wp2_with fail
      refine (HL2.out _ HB1.out).mono ?_
      rintro e w2 ⟨rfl, hb2⟩
      have HB2 := Lib.hid (bstep HB1.out hb2)
      have HC2 := Lib.hid (bstep HC1.out hb2)
      clear hb2
      clear p0 p1 p2 p3 p4 r0 r1 r2 r3 r4
      obtain ⟨⟨p0, p1, p2, p3, p4⟩, ⟨r0, r1, r2, r3, r4⟩⟩ := HS.out _ HC2.out
      go_wp2_with fail
      refine (HOWN.out _ HB2.out).mono ?_
      rintro e w3 ⟨x, S, rfl, hx, hS, hb3⟩
      have HB3 := Lib.hid (bstep HB2.out hb3)
      have HC3 := Lib.hid (bstep HC2.out hb3)
      have HX : Hid (∀ W, Below w3.heap.size w3 W → AV (fun i => i < W.heap.size) W J x) := Lib.hid (fun W hW => (hx.kept (fun _ h => h) (KeptS.of_below hW hS)).kept (fun i hi => Nat.lt_of_lt_of_le (hS i hi) hW.size) (KeptS.refl _ _))
      have HR3 := Lib.hid (Below.refl w3.heap.size w3)
      clear hb3 hx hS
      clear p0 p1 p2 p3 p4 r0 r1 r2 r3 r4
      obtain ⟨⟨p0, p1, p2, p3, p4⟩, ⟨r0, r1, r2, r3, r4⟩⟩ := HS.out _ HC3.out
      go_wp2_with fail
      have HPU := Lib.hid (HPUT.out w3 _ x HB3.out (HX.out w3 HR3.out) (fun _ h => h))
      refine (HPU.out).mono ?_
      rintro e w4 ⟨rfl, hb4⟩
      have HB4 := Lib.hid (bstep HB3.out hb4)
      have HC4 := Lib.hid (bstep HC3.out hb4)
      have HR4 := Lib.hid (bstep HR3.out hb4)
      clear hb4
      clear p0 p1 p2 p3 p4 r0 r1 r2 r3 r4
      obtain ⟨⟨p0, p1, p2, p3, p4⟩, ⟨r0, r1, r2, r3, r4⟩⟩ := HS.out _ HC4.out
      go_wp2_with fail
      refine (HRP.out _ HB4.out).mono ?_
      rintro e w5 ⟨rfl, hb5⟩
      have HB5 := Lib.hid (bstep HB4.out hb5)
      have HC5 := Lib.hid (bstep HC4.out hb5)
      have HR5 := Lib.hid (bstep HR4.out hb5)
      clear hb5
      clear p0 p1 p2 p3 p4 r0 r1 r2 r3 r4
      obtain ⟨⟨p0, p1, p2, p3, p4⟩, ⟨r0, r1, r2, r3, r4⟩⟩ := HS.out _ HC5.out
      go_wp2_with fail
      have HFD := Lib.hid (HFIND.out w5 _ x HB5.out (HX.out w5 HR5.out) (fun _ h => h))
      refine (HFD.out).mono ?_
      rintro e w6 ⟨⟨y, rfl, hy⟩, hb6⟩
      have HB6 := Lib.hid (bstep HB5.out hb6)
      have HC6 := Lib.hid (bstep HC5.out hb6)
      have HR6 := Lib.hid (bstep HR5.out hb6)
      have hy : y = .nilIface := hy
      subst hy
      have HV6 := Lib.hid hb6
      clear hb6
      clear p0 p1 p2 p3 p4 r0 r1 r2 r3 r4
      obtain ⟨⟨p0, p1, p2, p3, p4⟩, ⟨r0, r1, r2, r3, r4⟩⟩ := HS.out _ HC6.out
      go_wp2_with fail
      refine (HRF.out _ HB6.out).mono ?_
      rintro e w7 ⟨⟨z0, z1, z2, z3, z4, rfl, hz⟩, hb7⟩
      have HB7 := Lib.hid (bstep HB6.out hb7)
      have HC7 := Lib.hid (bstep HC6.out hb7)
      have HR7 := Lib.hid (bstep HR6.out hb7)
      have HZ := Lib.hid hz
      have HV7 := Lib.hid (bstep HV6.out hb7)
      have HW7 := Lib.hid hb7
      obtain ⟨zk, zn, zs, za, zl, zc, zd, zm, ze, rfl, rfl, rfl, rfl, rfl⟩ := hz.shape
      clear hb7 hz
      clear p0 p1 p2 p3 p4 r0 r1 r2 r3 r4
      obtain ⟨⟨p0, p1, p2, p3, p4⟩, ⟨r0, r1, r2, r3, r4⟩⟩ := HS.out _ HC7.out
      go_wp2_with fail
      have hnz := NB.new w7 (.int .u8 zk) (.int .i64 zn) (.string zs) (.slice za zl zc) (.slice zd zm ze) 25
      obtain ⟨W8, hW8⟩ : ∃ W8, w7.alloc (.cells #[.int .u8 zk, .int .i64 zn, .string zs, .slice za zl zc, .slice zd zm ze] 25) = W8 := ⟨_, rfl⟩
      rw [hW8] at hnz
      try rw [hW8]
      have HNZ := Lib.hid hnz
      have HB8 := Lib.hid (bstep HB7.out hnz.b)
      have HC8 := Lib.hid (bstep HC7.out hnz.b)
      have HR8 := Lib.hid (bstep HR7.out hnz.b)
      have HV8 := Lib.hid (bstep HV7.out hnz.b)
      have HW8 := Lib.hid (bstep HW7.out hnz.b)
      clear hnz hW8
      clear p0 p1 p2 p3 p4 r0 r1 r2 r3 r4
      have HTX := Lib.hid (HTEXT.out W8 _ x (HX.out W8 HR8.out))
      refine HTX.out.mono ?_
      rintro e w9 ⟨rfl, rfl⟩
      go_wp2_with fail
      have HD9 := Lib.hid (bstep HC8.out (Below.refl _ w9).drew)
      have HDB9 := Lib.hid (bstep HB8.out (Below.refl _ w9).drew)
      have HDR9 := Lib.hid (bstep HR8.out (Below.refl _ w9).drew)
      refine wp_region_noPanic ?_
      refine wp_region_held_drew (S := fun (W : World) => (W.cell? ⟨w.heap.size, 0, none⟩ = some (.int .u8 k) ∧ W.cell? ⟨w.heap.size, 1, none⟩ = some x1 ∧ W.cell? ⟨w.heap.size, 2, none⟩ = some (.string sv) ∧ W.cell? ⟨w.heap.size, 3, none⟩ = some x3 ∧ W.cell? ⟨w.heap.size, 4, none⟩ = some x4) ∧ (W.cell? ⟨w.heap.size + 1, 0, none⟩ = some y0 ∧ W.cell? ⟨w.heap.size + 1, 1, none⟩ = some y1 ∧ W.cell? ⟨w.heap.size + 1, 2, none⟩ = some y2 ∧ W.cell? ⟨w.heap.size + 1, 3, none⟩ = some y3 ∧ W.cell? ⟨w.heap.size + 1, 4, none⟩ = some y4)) (by kernel_rfl) (HS.out _ HD9.out) (fun hHeld => ?_)
      refine wpAnyH_take (i := 0) (v := ?v0q5) rfl (by kernel_rfl) (by kernel_rfl) (by kernel_rfl) (fun _ _ _ h => h) (Or.inl ⟨by rfl, ?y0q5⟩) (by assumption) ?z0q5
      case y0q5 => intro W hSw; (try dsimp only at hSw); go_simp <;> with_reducible rfl
      simp only [Act.put, List.getElem_toArray, List.getElem_cons_zero, List.getElem_cons_succ, List.setIfInBounds_toArray, List.set_cons_zero, List.set_cons_succ]
      refine wpAnyH_take (i := 1) (v := ?v1q5) rfl (by kernel_rfl) (by kernel_rfl) (by kernel_rfl) (fun _ _ _ h => h) (Or.inl ⟨by rfl, ?y1q5⟩) (by assumption) ?z1q5
      case y1q5 => intro W hSw; (try dsimp only at hSw); go_simp <;> with_reducible rfl
      simp only [Act.put, List.getElem_toArray, List.getElem_cons_zero, List.getElem_cons_succ, List.setIfInBounds_toArray, List.set_cons_zero, List.set_cons_succ]
      refine wpAnyH_take (i := 2) (v := ?v2q5) rfl (by kernel_rfl) (by kernel_rfl) (by kernel_rfl) (fun _ _ _ h => h) (Or.inl ⟨by rfl, ?y2q5⟩) (by assumption) ?z2q5
      case y2q5 => intro W hSw; (try dsimp only at hSw); go_simp <;> with_reducible rfl
      simp only [Act.put, List.getElem_toArray, List.getElem_cons_zero, List.getElem_cons_succ, List.setIfInBounds_toArray, List.set_cons_zero, List.set_cons_succ]
      refine wpAnyH_take (i := 3) (v := ?v3q5) rfl (by kernel_rfl) (by kernel_rfl) (by kernel_rfl) (fun _ _ _ h => h) (Or.inl ⟨by rfl, ?y3q5⟩) (by assumption) ?z3q5
      case y3q5 => intro W hSw; (try dsimp only at hSw); go_simp <;> with_reducible rfl
      simp only [Act.put, List.getElem_toArray, List.getElem_cons_zero, List.getElem_cons_succ, List.setIfInBounds_toArray, List.set_cons_zero, List.set_cons_succ]
      refine wpAnyH_take (i := 4) (v := ?v4q5) rfl (by kernel_rfl) (by kernel_rfl) (by kernel_rfl) (fun _ _ _ h => h) (Or.inl ⟨by rfl, ?y4q5⟩) (by assumption) ?z4q5
      case y4q5 => intro W hSw; (try dsimp only at hSw); go_simp <;> with_reducible rfl
      simp only [Act.put, List.getElem_toArray, List.getElem_cons_zero, List.getElem_cons_succ, List.setIfInBounds_toArray, List.set_cons_zero, List.set_cons_succ]
      refine wpAnyH_take (i := 5) (v := ?v5q5) rfl (by kernel_rfl) (by kernel_rfl) (by kernel_rfl) (fun _ _ _ h => h) (Or.inl ⟨by rfl, ?y5q5⟩) (by assumption) ?z5q5
      case y5q5 => intro W hSw; (try dsimp only at hSw); go_simp <;> with_reducible rfl
      simp only [Act.put, List.getElem_toArray, List.getElem_cons_zero, List.getElem_cons_succ, List.setIfInBounds_toArray, List.set_cons_zero, List.set_cons_succ]
      refine wpAnyH_take (i := 6) (v := ?v6q5) rfl (by kernel_rfl) (by kernel_rfl) (by kernel_rfl) (fun _ _ _ h => h) (Or.inl ⟨by rfl, ?y6q5⟩) (by assumption) ?z6q5
      case y6q5 => intro W hSw; (try dsimp only at hSw); go_simp <;> with_reducible rfl
      simp only [Act.put, List.getElem_toArray, List.getElem_cons_zero, List.getElem_cons_succ, List.setIfInBounds_toArray, List.set_cons_zero, List.set_cons_succ]
      refine wpAnyH_take (i := 7) (v := ?v7q5) rfl (by kernel_rfl) (by kernel_rfl) (by kernel_rfl) (fun _ _ _ h => h) (Or.inl ⟨by rfl, ?y7q5⟩) (by assumption) ?z7q5
      case y7q5 => intro W hSw; (try dsimp only at hSw); go_simp <;> with_reducible rfl
      simp only [Act.put, List.getElem_toArray, List.getElem_cons_zero, List.getElem_cons_succ, List.setIfInBounds_toArray, List.set_cons_zero, List.set_cons_succ]
      refine wpAnyH_take (i := 8) (v := ?v8q5) rfl (by kernel_rfl) (by kernel_rfl) (by kernel_rfl) (fun _ _ _ h => h) (Or.inl ⟨by rfl, ?y8q5⟩) (by assumption) ?z8q5
      case y8q5 => intro W hSw; (try dsimp only at hSw); go_simp <;> with_reducible rfl
      simp only [Act.put, List.getElem_toArray, List.getElem_cons_zero, List.getElem_cons_succ, List.setIfInBounds_toArray, List.set_cons_zero, List.set_cons_succ]
      refine wpAnyH_take (i := 9) (v := ?v9q5) rfl (by kernel_rfl) (by kernel_rfl) (by kernel_rfl) (fun _ _ _ h => h) (Or.inl ⟨by rfl, ?y9q5⟩) (by assumption) ?z9q5
      case y9q5 => intro W hSw; (try dsimp only at hSw); go_simp <;> with_reducible rfl
      simp only [Act.put, List.getElem_toArray, List.getElem_cons_zero, List.getElem_cons_succ, List.setIfInBounds_toArray, List.set_cons_zero, List.set_cons_succ]
      refine wpAnyH_take (i := 11) (v := ?v11q5) rfl (by kernel_rfl) (by kernel_rfl) (by kernel_rfl) (fun _ _ _ h => h) (Or.inl ⟨by rfl, ?y11q5⟩) (by assumption) ?z11q5
      case y11q5 => intro W hSw; (try dsimp only at hSw); go_simp <;> with_reducible rfl
      simp only [Act.put, List.getElem_toArray, List.getElem_cons_zero, List.getElem_cons_succ, List.setIfInBounds_toArray, List.set_cons_zero, List.set_cons_succ]
      have HCK := Lib.hid (HCHK.out w9.drew _ x HDB9.out (HX.out _ HDR9.out) (fun _ h => h))
      refine wpAnyH_ready (rs := [10]) (by kernel_rfl) (by simp) ?_
      refine AllReadyH.cons rfl (fun K' hK => ?_) AllReadyH.nil
      go_simp
      refine HCK.out.mono ?_
      rintro e wa ⟨rfl, hba⟩
      have HDa := Lib.hid (bstep HD9.out hba)
      have HDBa := Lib.hid (bstep HDB9.out hba)
      have HVa := Lib.hid (bstep (Below.refl _ w9).drew hba)
      clear hba
      go_wp2_with fail
      refine hK.out _ _ (HS.out _ HDa.out) (fun hHeld10 => ?_)
      clear hK K'
      try simp only [Act.put, List.getElem_toArray, List.getElem_cons_zero, List.getElem_cons_succ, List.setIfInBounds_toArray, List.set_cons_zero, List.set_cons_succ]
      refine wpAnyH_ready (rs := [12]) (by kernel_rfl) (by simp) ?_
      refine AllReadyH.cons rfl (fun K' hK => ?_) AllReadyH.nil
      go_simp
      refine (HRCHK.out _ HDBa.out).mono ?_
      rintro e wb ⟨rfl, hbb⟩
      have HDb := Lib.hid (bstep HDa.out hbb)
      have HDBb := Lib.hid (bstep HDBa.out hbb)
      have HVb := Lib.hid (bstep HVa.out hbb)
      clear hbb
      go_wp2_with fail
      refine hK.out _ _ (HS.out _ HDb.out) (fun hHeld12 => ?_)
      clear hK K'
      try simp only [Act.put, List.getElem_toArray, List.getElem_cons_zero, List.getElem_cons_succ, List.setIfInBounds_toArray, List.set_cons_zero, List.set_cons_succ]
      refine wpAnyH_take (i := 13) (v := ?v13q5) rfl (by kernel_rfl) (by kernel_rfl) (by kernel_rfl) (fun _ _ _ h => h) (Or.inl ⟨by rfl, ?y13q5⟩) (by assumption) ?z13q5
      case y13q5 => intro W hSw; (try dsimp only at hSw); go_simp <;> with_reducible rfl
      simp only [Act.put, List.getElem_toArray, List.getElem_cons_zero, List.getElem_cons_succ, List.setIfInBounds_toArray, List.set_cons_zero, List.set_cons_succ]
      refine wpAnyH_take (i := 14) (v := ?v14q5) rfl (by kernel_rfl) (by kernel_rfl) (by kernel_rfl) (fun _ _ _ h => h) (Or.inl ⟨by rfl, ?y14q5⟩) (by assumption) ?z14q5
      case y14q5 => intro W hSw; (try dsimp only at hSw); go_simp <;> with_reducible rfl
      simp only [Act.put, List.getElem_toArray, List.getElem_cons_zero, List.getElem_cons_succ, List.setIfInBounds_toArray, List.set_cons_zero, List.set_cons_succ]
      refine wpAnyH_take (i := 15) (v := ?v15q5) rfl (by kernel_rfl) (by kernel_rfl) (by kernel_rfl) (fun _ _ _ h => h) (Or.inl ⟨by rfl, ?y15q5⟩) (by assumption) ?z15q5
      case y15q5 => intro W hSw; (try dsimp only at hSw); go_simp <;> with_reducible rfl
      simp only [Act.put, List.getElem_toArray, List.getElem_cons_zero, List.getElem_cons_succ, List.setIfInBounds_toArray, List.set_cons_zero, List.set_cons_succ]
      refine wpAnyH_take (i := 16) (v := ?v16q5) rfl (by kernel_rfl) (by kernel_rfl) (by kernel_rfl) (fun _ _ _ h => h) (Or.inl ⟨by rfl, ?y16q5⟩) (by assumption) ?z16q5
      case y16q5 => intro W hSw; (try dsimp only at hSw); go_simp <;> with_reducible rfl
      simp only [Act.put, List.getElem_toArray, List.getElem_cons_zero, List.getElem_cons_succ, List.setIfInBounds_toArray, List.set_cons_zero, List.set_cons_succ]
      refine wpAnyH_take (i := 17) (v := ?v17q5) rfl (by kernel_rfl) (by kernel_rfl) (by kernel_rfl) (fun _ _ _ h => h) (Or.inl ⟨by rfl, ?y17q5⟩) (by assumption) ?z17q5
      case y17q5 => intro W hSw; (try dsimp only at hSw); go_simp <;> with_reducible rfl
      simp only [Act.put, List.getElem_toArray, List.getElem_cons_zero, List.getElem_cons_succ, List.setIfInBounds_toArray, List.set_cons_zero, List.set_cons_succ]
      refine wpAnyH_take (i := 18) (v := ?v18q5) rfl (by kernel_rfl) (by kernel_rfl) (by kernel_rfl) (fun _ _ _ h => h) (Or.inl ⟨by rfl, ?y18q5⟩) (by assumption) ?z18q5
      case y18q5 => intro W hSw; (try dsimp only at hSw); go_simp <;> with_reducible rfl
      simp only [Act.put, List.getElem_toArray, List.getElem_cons_zero, List.getElem_cons_succ, List.setIfInBounds_toArray, List.set_cons_zero, List.set_cons_succ]
      refine wpAnyH_take (i := 19) (v := ?v19q5) rfl (by kernel_rfl) (by kernel_rfl) (by kernel_rfl) (fun _ _ _ h => h) (Or.inl ⟨by rfl, ?y19q5⟩) (by assumption) ?z19q5
      case y19q5 => intro W hSw; (try dsimp only at hSw); go_simp <;> with_reducible rfl
      simp only [Act.put, List.getElem_toArray, List.getElem_cons_zero, List.getElem_cons_succ, List.setIfInBounds_toArray, List.set_cons_zero, List.set_cons_succ]
      refine wpAnyH_take (i := 20) (v := ?v20q5) rfl (by kernel_rfl) (by kernel_rfl) (by kernel_rfl) (fun _ _ _ h => h) (Or.inl ⟨by rfl, ?y20q5⟩) (by assumption) ?z20q5
      case y20q5 => intro W hSw; (try dsimp only at hSw); go_simp <;> with_reducible rfl
      simp only [Act.put, List.getElem_toArray, List.getElem_cons_zero, List.getElem_cons_succ, List.setIfInBounds_toArray, List.set_cons_zero, List.set_cons_succ]
      refine wpAnyH_take (i := 21) (v := ?v21q5) rfl (by kernel_rfl) (by kernel_rfl) (by kernel_rfl) (fun _ _ _ h => h) (Or.inl ⟨by rfl, ?y21q5⟩) (by assumption) ?z21q5
      case y21q5 => intro W hSw; (try dsimp only at hSw); go_simp <;> with_reducible rfl
      simp only [Act.put, List.getElem_toArray, List.getElem_cons_zero, List.getElem_cons_succ, List.setIfInBounds_toArray, List.set_cons_zero, List.set_cons_succ]
      refine wpAnyH_take (i := 22) (v := ?v22q5) rfl (by kernel_rfl) (by kernel_rfl) (by kernel_rfl) (fun _ _ _ h => h) (Or.inl ⟨by rfl, ?y22q5⟩) (by assumption) ?z22q5
      case y22q5 => intro W hSw; (try dsimp only at hSw); go_simp <;> with_reducible rfl
      simp only [Act.put, List.getElem_toArray, List.getElem_cons_zero, List.getElem_cons_succ, List.setIfInBounds_toArray, List.set_cons_zero, List.set_cons_succ]
      refine wpAnyH_take (i := 23) (v := ?v23q5) rfl (by kernel_rfl) (by kernel_rfl) (by kernel_rfl) (fun _ _ _ h => h) (Or.inl ⟨by rfl, ?y23q5⟩) (by assumption) ?z23q5
      case y23q5 => intro W hSw; (try dsimp only at hSw); go_simp <;> with_reducible rfl
      simp only [Act.put, List.getElem_toArray, List.getElem_cons_zero, List.getElem_cons_succ, List.setIfInBounds_toArray, List.set_cons_zero, List.set_cons_succ]
      refine wpAnyH_take (i := 24) (v := ?v24q5) rfl (by kernel_rfl) (by kernel_rfl) (by kernel_rfl) (fun _ _ _ h => h) (Or.inl ⟨by rfl, ?y24q5⟩) (by assumption) ?z24q5
      case y24q5 => intro W hSw; (try dsimp only at hSw); go_simp <;> with_reducible rfl
      simp only [Act.put, List.getElem_toArray, List.getElem_cons_zero, List.getElem_cons_succ, List.setIfInBounds_toArray, List.set_cons_zero, List.set_cons_succ]
      refine wpAnyH_take (i := 25) (v := ?v25q5) rfl (by kernel_rfl) (by kernel_rfl) (by kernel_rfl) (fun _ _ _ h => h) (Or.inl ⟨by rfl, ?y25q5⟩) (by assumption) ?z25q5
      case y25q5 => intro W hSw; (try dsimp only at hSw); go_simp <;> with_reducible rfl
      simp only [Act.put, List.getElem_toArray, List.getElem_cons_zero, List.getElem_cons_succ, List.setIfInBounds_toArray, List.set_cons_zero, List.set_cons_succ]
      refine wpAnyH_take (i := 26) (v := ?v26q5) rfl (by kernel_rfl) (by kernel_rfl) (by kernel_rfl) (fun _ _ _ h => h) (Or.inl ⟨by rfl, ?y26q5⟩) (by assumption) ?z26q5
      case y26q5 => intro W hSw; (try dsimp only at hSw); go_simp <;> with_reducible rfl
      simp only [Act.put, List.getElem_toArray, List.getElem_cons_zero, List.getElem_cons_succ, List.setIfInBounds_toArray, List.set_cons_zero, List.set_cons_succ]
      refine wpAnyH_take (i := 27) (v := ?v27q5) rfl (by kernel_rfl) (by kernel_rfl) (by kernel_rfl) (fun _ _ _ h => h) (Or.inl ⟨by rfl, ?y27q5⟩) (by assumption) ?z27q5
      case y27q5 => intro W hSw; (try dsimp only at hSw); go_simp <;> with_reducible rfl
      simp only [Act.put, List.getElem_toArray, List.getElem_cons_zero, List.getElem_cons_succ, List.setIfInBounds_toArray, List.set_cons_zero, List.set_cons_succ]
      refine wpAnyH_take (i := 28) (v := ?v28q5) rfl (by kernel_rfl) (by kernel_rfl) (by kernel_rfl) (fun _ _ _ h => h) (Or.inl ⟨by rfl, ?y28q5⟩) (by assumption) ?z28q5
      case y28q5 => intro W hSw; (try dsimp only at hSw); go_simp <;> with_reducible rfl
      simp only [Act.put, List.getElem_toArray, List.getElem_cons_zero, List.getElem_cons_succ, List.setIfInBounds_toArray, List.set_cons_zero, List.set_cons_succ]
      refine wpAnyH_take (i := 29) (v := ?v29q5) rfl (by kernel_rfl) (by kernel_rfl) (by kernel_rfl) (fun _ _ _ h => h) (Or.inl ⟨by rfl, ?y29q5⟩) (by assumption) ?z29q5
      case y29q5 => intro W hSw; (try dsimp only at hSw); go_simp <;> with_reducible rfl
      simp only [Act.put, List.getElem_toArray, List.getElem_cons_zero, List.getElem_cons_succ, List.setIfInBounds_toArray, List.set_cons_zero, List.set_cons_succ]
      refine wpAnyH_take (i := 30) (v := undef) rfl (by kernel_rfl) (by kernel_rfl) (by kernel_rfl) (fun _ _ _ h => h) (Or.inr ⟨by rfl, rfl⟩) (by assumption) ?_
      simp only [Act.put, List.getElem_toArray, List.getElem_cons_zero, List.getElem_cons_succ, List.setIfInBounds_toArray, List.set_cons_zero, List.set_cons_succ]
      refine wpAnyH_take (i := 31) (v := undef) rfl (by kernel_rfl) (by kernel_rfl) (by kernel_rfl) (fun _ _ _ h => h) (Or.inr ⟨by rfl, rfl⟩) (by assumption) ?_
      simp only [Act.put, List.getElem_toArray, List.getElem_cons_zero, List.getElem_cons_succ, List.setIfInBounds_toArray, List.set_cons_zero, List.set_cons_succ]
      refine wpAnyH_take (i := 32) (v := undef) rfl (by kernel_rfl) (by kernel_rfl) (by kernel_rfl) (fun _ _ _ h => h) (Or.inr ⟨by rfl, rfl⟩) (by assumption) ?_
      simp only [Act.put, List.getElem_toArray, List.getElem_cons_zero, List.getElem_cons_succ, List.setIfInBounds_toArray, List.set_cons_zero, List.set_cons_succ]
      refine wpAnyH_take (i := 33) (v := undef) rfl (by kernel_rfl) (by kernel_rfl) (by kernel_rfl) (fun _ _ _ h => h) (Or.inr ⟨by rfl, rfl⟩) (by assumption) ?_
      simp only [Act.put, List.getElem_toArray, List.getElem_cons_zero, List.getElem_cons_succ, List.setIfInBounds_toArray, List.set_cons_zero, List.set_cons_succ]
      refine wpAnyH_take (i := 34) (v := ?v34q5) rfl (by kernel_rfl) (by kernel_rfl) (by kernel_rfl) (fun _ _ _ h => h) (Or.inl ⟨by rfl, ?y34q5⟩) (by assumption) ?z34q5
      case y34q5 => intro W hSw; (try dsimp only at hSw); go_simp <;> with_reducible rfl
      simp only [Act.put, List.getElem_toArray, List.getElem_cons_zero, List.getElem_cons_succ, List.setIfInBounds_toArray, List.set_cons_zero, List.set_cons_succ]
      refine wpAnyH_take (i := 35) (v := ?v35q5) rfl (by kernel_rfl) (by kernel_rfl) (by kernel_rfl) (fun _ _ _ h => h) (Or.inl ⟨by rfl, ?y35q5⟩) (by assumption) ?z35q5
      case y35q5 => intro W hSw; (try dsimp only at hSw); go_simp <;> with_reducible rfl
      simp only [Act.put, List.getElem_toArray, List.getElem_cons_zero, List.getElem_cons_succ, List.setIfInBounds_toArray, List.set_cons_zero, List.set_cons_succ]
      refine wpAnyH_take (i := 36) (v := ?v36q5) rfl (by kernel_rfl) (by kernel_rfl) (by kernel_rfl) (fun _ _ _ h => h) (Or.inl ⟨by rfl, ?y36q5⟩) (by assumption) ?z36q5
      case y36q5 => intro W hSw; (try dsimp only at hSw); go_simp <;> with_reducible rfl
      simp only [Act.put, List.getElem_toArray, List.getElem_cons_zero, List.getElem_cons_succ, List.setIfInBounds_toArray, List.set_cons_zero, List.set_cons_succ]
      refine wpAnyH_take (i := 37) (v := ?v37q5) rfl (by kernel_rfl) (by kernel_rfl) (by kernel_rfl) (fun _ _ _ h => h) (Or.inl ⟨by rfl, ?y37q5⟩) (by assumption) ?z37q5
      case y37q5 => intro W hSw; (try dsimp only at hSw); go_simp <;> with_reducible rfl
      simp only [Act.put, List.getElem_toArray, List.getElem_cons_zero, List.getElem_cons_succ, List.setIfInBounds_toArray, List.set_cons_zero, List.set_cons_succ]
      refine wpAnyH_take (i := 38) (v := ?v38q5) rfl (by kernel_rfl) (by kernel_rfl) (by kernel_rfl) (fun _ _ _ h => h) (Or.inl ⟨by rfl, ?y38q5⟩) (by assumption) ?z38q5
      case y38q5 => intro W hSw; (try dsimp only at hSw); go_simp <;> with_reducible rfl
      simp only [Act.put, List.getElem_toArray, List.getElem_cons_zero, List.getElem_cons_succ, List.setIfInBounds_toArray, List.set_cons_zero, List.set_cons_succ]
      refine wpAnyH_take (i := 39) (v := ?v39q5) rfl (by kernel_rfl) (by kernel_rfl) (by kernel_rfl) (fun _ _ _ h => h) (Or.inl ⟨by rfl, ?y39q5⟩) (by assumption) ?z39q5
      case y39q5 => intro W hSw; (try dsimp only at hSw); go_simp <;> with_reducible rfl
      simp only [Act.put, List.getElem_toArray, List.getElem_cons_zero, List.getElem_cons_succ, List.setIfInBounds_toArray, List.set_cons_zero, List.set_cons_succ]
      refine wpAnyH_take (i := 40) (v := ?v40q5) rfl (by kernel_rfl) (by kernel_rfl) (by kernel_rfl) (fun _ _ _ h => h) (Or.inl ⟨by rfl, ?y40q5⟩) (by assumption) ?z40q5
      case y40q5 => intro W hSw; (try dsimp only at hSw); go_simp <;> with_reducible rfl
      simp only [Act.put, List.getElem_toArray, List.getElem_cons_zero, List.getElem_cons_succ, List.setIfInBounds_toArray, List.set_cons_zero, List.set_cons_succ]
      refine wpAnyH_take (i := 41) (v := ?v41q5) rfl (by kernel_rfl) (by kernel_rfl) (by kernel_rfl) (fun _ _ _ h => h) (Or.inl ⟨by rfl, ?y41q5⟩) (by assumption) ?z41q5
      case y41q5 => intro W hSw; (try dsimp only at hSw); go_simp <;> with_reducible rfl
      simp only [Act.put, List.getElem_toArray, List.getElem_cons_zero, List.getElem_cons_succ, List.setIfInBounds_toArray, List.set_cons_zero, List.set_cons_succ]
      refine wpAnyH_take (i := 42) (v := ?v42q5) rfl (by kernel_rfl) (by kernel_rfl) (by kernel_rfl) (fun _ _ _ h => h) (Or.inl ⟨by rfl, ?y42q5⟩) (by assumption) ?z42q5
      case y42q5 => intro W hSw; (try dsimp only at hSw); go_simp <;> with_reducible rfl
      simp only [Act.put, List.getElem_toArray, List.getElem_cons_zero, List.getElem_cons_succ, List.setIfInBounds_toArray, List.set_cons_zero, List.set_cons_succ]
      refine wpAnyH_take (i := 43) (v := ?v43q5) rfl (by kernel_rfl) (by kernel_rfl) (by kernel_rfl) (fun _ _ _ h => h) (Or.inl ⟨by rfl, ?y43q5⟩) (by assumption) ?z43q5
      case y43q5 => intro W hSw; (try dsimp only at hSw); go_simp <;> with_reducible rfl
      simp only [Act.put, List.getElem_toArray, List.getElem_cons_zero, List.getElem_cons_succ, List.setIfInBounds_toArray, List.set_cons_zero, List.set_cons_succ]
      refine wpAnyH_done (by kernel_rfl) ?_ _
      refine NoPanic.normal ?_
      have HRb := Lib.hid (bstep HR8.out HVb.out)
      have HNZb := Lib.hid (HNZ.out.below HVb.out)
      obtain ⟨-, ltz, g0, g1, g2, g3, g4⟩ := HNZ.out.below HVb.out
      go_wp2_with fail
      have HDd := Lib.hid (bstep HDb.out (Below.refl _ wb).drew)
      have HDBd := Lib.hid (bstep HDBb.out (Below.refl _ wb).drew)
      have HRd := Lib.hid (bstep HRb.out (Below.refl _ wb).drew)
      refine wp_region_noPanic ?_
      refine wp_region_held_drew (S := fun (W : World) => (W.cell? ⟨w.heap.size, 0, none⟩ = some (.int .u8 k) ∧ W.cell? ⟨w.heap.size, 1, none⟩ = some x1 ∧ W.cell? ⟨w.heap.size, 2, none⟩ = some (.string sv) ∧ W.cell? ⟨w.heap.size, 3, none⟩ = some x3 ∧ W.cell? ⟨w.heap.size, 4, none⟩ = some x4) ∧ (W.cell? ⟨w.heap.size + 1, 0, none⟩ = some y0 ∧ W.cell? ⟨w.heap.size + 1, 1, none⟩ = some y1 ∧ W.cell? ⟨w.heap.size + 1, 2, none⟩ = some y2 ∧ W.cell? ⟨w.heap.size + 1, 3, none⟩ = some y3 ∧ W.cell? ⟨w.heap.size + 1, 4, none⟩ = some y4)) (by kernel_rfl) (HS.out _ HDd.out) (fun hHeld => ?_)
      refine wpAnyH_take (i := 0) (v := ?v0q6) rfl (by kernel_rfl) (by kernel_rfl) (by kernel_rfl) (fun _ _ _ h => h) (Or.inl ⟨by rfl, ?y0q6⟩) (by assumption) ?z0q6
      case y0q6 => intro W hSw; (try dsimp only at hSw); go_simp <;> with_reducible rfl
      simp only [Act.put, List.getElem_toArray, List.getElem_cons_zero, List.getElem_cons_succ, List.setIfInBounds_toArray, List.set_cons_zero, List.set_cons_succ]
      refine wpAnyH_take (i := 1) (v := ?v1q6) rfl (by kernel_rfl) (by kernel_rfl) (by kernel_rfl) (fun _ _ _ h => h) (Or.inl ⟨by rfl, ?y1q6⟩) (by assumption) ?z1q6
      case y1q6 => intro W hSw; (try dsimp only at hSw); go_simp <;> with_reducible rfl
      simp only [Act.put, List.getElem_toArray, List.getElem_cons_zero, List.getElem_cons_succ, List.setIfInBounds_toArray, List.set_cons_zero, List.set_cons_succ]
      refine wpAnyH_take (i := 4) (v := ?v4q6) rfl (by kernel_rfl) (by kernel_rfl) (by kernel_rfl) (fun _ _ _ h => h) (Or.inl ⟨by rfl, ?y4q6⟩) (by assumption) ?z4q6
      case y4q6 => intro W hSw; (try dsimp only at hSw); go_simp <;> with_reducible rfl
      simp only [Act.put, List.getElem_toArray, List.getElem_cons_zero, List.getElem_cons_succ, List.setIfInBounds_toArray, List.set_cons_zero, List.set_cons_succ]
      refine wpAnyH_take (i := 5) (v := ?v5q6) rfl (by kernel_rfl) (by kernel_rfl) (by kernel_rfl) (fun _ _ _ h => h) (Or.inl ⟨by rfl, ?y5q6⟩) (by assumption) ?z5q6
      case y5q6 => intro W hSw; (try dsimp only at hSw); go_simp <;> with_reducible rfl
      simp only [Act.put, List.getElem_toArray, List.getElem_cons_zero, List.getElem_cons_succ, List.setIfInBounds_toArray, List.set_cons_zero, List.set_cons_succ]
      refine wpAnyH_ready (rs := [2]) (by kernel_rfl) (by simp) ?_
      refine AllReadyH.cons rfl (fun K' hK => ?_) AllReadyH.nil
      go_simp
      refine (HOWN2.out _ HDBd.out).mono ?_
      rintro e we ⟨yy, S2, rfl, hyy, hS2, hbe⟩
      have HDe := Lib.hid (bstep HDd.out hbe)
      have HDBe := Lib.hid (bstep HDBd.out hbe)
      have HRe := Lib.hid (bstep HRd.out hbe)
      have HSM3 := Lib.hid (HSAME.out we _ _ yy HDBe.out (HX.out _ HRe.out) (hyy.kept hS2 (KeptS.refl _ _)) (fun _ h => h))
      clear hyy hS2 hbe
      go_wp2_with fail
      refine hK.out _ _ (HS.out _ HDe.out) (fun hHeld2 => ?_)
      clear hK K'
      try simp only [Act.put, List.getElem_toArray, List.getElem_cons_zero, List.getElem_cons_succ, List.setIfInBounds_toArray, List.set_cons_zero, List.set_cons_succ]
      refine wpAnyH_ready (rs := [3]) (by kernel_rfl) (by simp) ?_
      refine AllReadyH.cons rfl (fun K' hK => ?_) AllReadyH.nil
      go_simp
      refine HSM3.out.mono ?_
      rintro e wf ⟨rfl, hbf⟩
      have HDf := Lib.hid (bstep HDe.out hbf)
      have HDBf := Lib.hid (bstep HDBe.out hbf)
      clear hbf
      go_wp2_with fail
      refine hK.out _ _ (HS.out _ HDf.out) (fun hHeld3 => ?_)
      clear hK K'
      try simp only [Act.put, List.getElem_toArray, List.getElem_cons_zero, List.getElem_cons_succ, List.setIfInBounds_toArray, List.set_cons_zero, List.set_cons_succ]
      refine wpAnyH_ready (rs := [6]) (by kernel_rfl) (by simp) ?_
      refine AllReadyH.cons rfl (fun K' hK => ?_) AllReadyH.nil
      go_simp
      refine (HRSAME.out _ HDBf.out).mono ?_
      rintro e wg ⟨rfl, hbg⟩
      have HDg := Lib.hid (bstep HDf.out hbg)
      have HDBg := Lib.hid (bstep HDBf.out hbg)
      clear hbg
      go_wp2_with fail
      refine hK.out _ _ (HS.out _ HDg.out) (fun hHeld6 => ?_)
      clear hK K'
      try simp only [Act.put, List.getElem_toArray, List.getElem_cons_zero, List.getElem_cons_succ, List.setIfInBounds_toArray, List.set_cons_zero, List.set_cons_succ]
      refine wpAnyH_take (i := 7) (v := ?v7q6) rfl (by kernel_rfl) (by kernel_rfl) (by kernel_rfl) (fun _ _ _ h => h) (Or.inl ⟨by rfl, ?y7q6⟩) (by assumption) ?z7q6
      case y7q6 => intro W hSw; (try dsimp only at hSw); go_simp <;> with_reducible rfl
      simp only [Act.put, List.getElem_toArray, List.getElem_cons_zero, List.getElem_cons_succ, List.setIfInBounds_toArray, List.set_cons_zero, List.set_cons_succ]
      refine wpAnyH_take (i := 8) (v := ?v8q6) rfl (by kernel_rfl) (by kernel_rfl) (by kernel_rfl) (fun _ _ _ h => h) (Or.inl ⟨by rfl, ?y8q6⟩) (by assumption) ?z8q6
      case y8q6 => intro W hSw; (try dsimp only at hSw); go_simp <;> with_reducible rfl
      simp only [Act.put, List.getElem_toArray, List.getElem_cons_zero, List.getElem_cons_succ, List.setIfInBounds_toArray, List.set_cons_zero, List.set_cons_succ]
      refine wpAnyH_take (i := 9) (v := ?v9q6) rfl (by kernel_rfl) (by kernel_rfl) (by kernel_rfl) (fun _ _ _ h => h) (Or.inl ⟨by rfl, ?y9q6⟩) (by assumption) ?z9q6
      case y9q6 => intro W hSw; (try dsimp only at hSw); go_simp <;> with_reducible rfl
      simp only [Act.put, List.getElem_toArray, List.getElem_cons_zero, List.getElem_cons_succ, List.setIfInBounds_toArray, List.set_cons_zero, List.set_cons_succ]
      refine wpAnyH_take (i := 10) (v := ?v10q6) rfl (by kernel_rfl) (by kernel_rfl) (by kernel_rfl) (fun _ _ _ h => h) (Or.inl ⟨by rfl, ?y10q6⟩) (by assumption) ?z10q6
      case y10q6 => intro W hSw; (try dsimp only at hSw); go_simp <;> with_reducible rfl
      simp only [Act.put, List.getElem_toArray, List.getElem_cons_zero, List.getElem_cons_succ, List.setIfInBounds_toArray, List.set_cons_zero, List.set_cons_succ]
      refine wpAnyH_take (i := 11) (v := ?v11q6) rfl (by kernel_rfl) (by kernel_rfl) (by kernel_rfl) (fun _ _ _ h => h) (Or.inl ⟨by rfl, ?y11q6⟩) (by assumption) ?z11q6
      case y11q6 => intro W hSw; (try dsimp only at hSw); go_simp <;> with_reducible rfl
      simp only [Act.put, List.getElem_toArray, List.getElem_cons_zero, List.getElem_cons_succ, List.setIfInBounds_toArray, List.set_cons_zero, List.set_cons_succ]
      refine wpAnyH_take (i := 12) (v := ?v12q6) rfl (by kernel_rfl) (by kernel_rfl) (by kernel_rfl) (fun _ _ _ h => h) (Or.inl ⟨by rfl, ?y12q6⟩) (by assumption) ?z12q6
      case y12q6 => intro W hSw; (try dsimp only at hSw); go_simp <;> with_reducible rfl
      simp only [Act.put, List.getElem_toArray, List.getElem_cons_zero, List.getElem_cons_succ, List.setIfInBounds_toArray, List.set_cons_zero, List.set_cons_succ]
      refine wpAnyH_take (i := 13) (v := undef) rfl (by kernel_rfl) (by kernel_rfl) (by kernel_rfl) (fun _ _ _ h => h) (Or.inr ⟨by rfl, rfl⟩) (by assumption) ?_
      simp only [Act.put, List.getElem_toArray, List.getElem_cons_zero, List.getElem_cons_succ, List.setIfInBounds_toArray, List.set_cons_zero, List.set_cons_succ]
      refine wpAnyH_take (i := 14) (v := undef) rfl (by kernel_rfl) (by kernel_rfl) (by kernel_rfl) (fun _ _ _ h => h) (Or.inr ⟨by rfl, rfl⟩) (by assumption) ?_
      simp only [Act.put, List.getElem_toArray, List.getElem_cons_zero, List.getElem_cons_succ, List.setIfInBounds_toArray, List.set_cons_zero, List.set_cons_succ]
      refine wpAnyH_take (i := 15) (v := undef) rfl (by kernel_rfl) (by kernel_rfl) (by kernel_rfl) (fun _ _ _ h => h) (Or.inr ⟨by rfl, rfl⟩) (by assumption) ?_
      simp only [Act.put, List.getElem_toArray, List.getElem_cons_zero, List.getElem_cons_succ, List.setIfInBounds_toArray, List.set_cons_zero, List.set_cons_succ]
      refine wpAnyH_take (i := 16) (v := undef) rfl (by kernel_rfl) (by kernel_rfl) (by kernel_rfl) (fun _ _ _ h => h) (Or.inr ⟨by rfl, rfl⟩) (by assumption) ?_
      simp only [Act.put, List.getElem_toArray, List.getElem_cons_zero, List.getElem_cons_succ, List.setIfInBounds_toArray, List.set_cons_zero, List.set_cons_succ]
      refine wpAnyH_take (i := 17) (v := undef) rfl (by kernel_rfl) (by kernel_rfl) (by kernel_rfl) (fun _ _ _ h => h) (Or.inr ⟨by rfl, rfl⟩) (by assumption) ?_
      simp only [Act.put, List.getElem_toArray, List.getElem_cons_zero, List.getElem_cons_succ, List.setIfInBounds_toArray, List.set_cons_zero, List.set_cons_succ]
      refine wpAnyH_take (i := 18) (v := ?v18q6) rfl (by kernel_rfl) (by kernel_rfl) (by kernel_rfl) (fun _ _ _ h => h) (Or.inl ⟨by rfl, ?y18q6⟩) (by assumption) ?z18q6
      case y18q6 => intro W hSw; (try dsimp only at hSw); go_simp <;> with_reducible rfl
      simp only [Act.put, List.getElem_toArray, List.getElem_cons_zero, List.getElem_cons_succ, List.setIfInBounds_toArray, List.set_cons_zero, List.set_cons_succ]
      refine wpAnyH_take (i := 19) (v := ?v19q6) rfl (by kernel_rfl) (by kernel_rfl) (by kernel_rfl) (fun _ _ _ h => h) (Or.inl ⟨by rfl, ?y19q6⟩) (by assumption) ?z19q6
      case y19q6 => intro W hSw; (try dsimp only at hSw); go_simp <;> with_reducible rfl
      simp only [Act.put, List.getElem_toArray, List.getElem_cons_zero, List.getElem_cons_succ, List.setIfInBounds_toArray, List.set_cons_zero, List.set_cons_succ]
      refine wpAnyH_take (i := 20) (v := ?v20q6) rfl (by kernel_rfl) (by kernel_rfl) (by kernel_rfl) (fun _ _ _ h => h) (Or.inl ⟨by rfl, ?y20q6⟩) (by assumption) ?z20q6
      case y20q6 => intro W hSw; (try dsimp only at hSw); go_simp <;> with_reducible rfl
      simp only [Act.put, List.getElem_toArray, List.getElem_cons_zero, List.getElem_cons_succ, List.setIfInBounds_toArray, List.set_cons_zero, List.set_cons_succ]
      refine wpAnyH_ready (rs := [21]) (by kernel_rfl) (by simp) ?_
      refine AllReadyH.cons rfl (fun K' hK => ?_) AllReadyH.nil
      go_simp
      refine (HAW.out _ HDBg.out).mono ?_
      rintro e wz ⟨rfl, hbz⟩
      have HDz := Lib.hid (bstep HDg.out hbz)
      have HDBz := Lib.hid (bstep HDBg.out hbz)
      clear hbz
      go_wp2_with fail
      refine hK.out _ _ (HS.out _ HDz.out) (fun hHeld21 => ?_)
      clear hK K'
      try simp only [Act.put, List.getElem_toArray, List.getElem_cons_zero, List.getElem_cons_succ, List.setIfInBounds_toArray, List.set_cons_zero, List.set_cons_succ]
      refine wpAnyH_take (i := 22) (v := ?v22q6) rfl (by kernel_rfl) (by kernel_rfl) (by kernel_rfl) (fun _ _ _ h => h) (Or.inl ⟨by rfl, ?y22q6⟩) (by assumption) ?z22q6
      case y22q6 => intro W hSw; (try dsimp only at hSw); go_simp <;> with_reducible rfl
      simp only [Act.put, List.getElem_toArray, List.getElem_cons_zero, List.getElem_cons_succ, List.setIfInBounds_toArray, List.set_cons_zero, List.set_cons_succ]
      refine wpAnyH_take (i := 23) (v := ?v23q6) rfl (by kernel_rfl) (by kernel_rfl) (by kernel_rfl) (fun _ _ _ h => h) (Or.inl ⟨by rfl, ?y23q6⟩) (by assumption) ?z23q6
      case y23q6 => intro W hSw; (try dsimp only at hSw); go_simp <;> with_reducible rfl
      simp only [Act.put, List.getElem_toArray, List.getElem_cons_zero, List.getElem_cons_succ, List.setIfInBounds_toArray, List.set_cons_zero, List.set_cons_succ]
      refine wpAnyH_done (by kernel_rfl) ?_ _
      refine NoPanic.normal ?_
      go_wp2_with fail
      go_ret
      exact ⟨rfl, HDBz.out⟩
    | some u =>
      rw [if_neg k4] at HTEXT
      rw [show (none : Option (List UInt8)).getD [] = [] from rfl, show (none : Option (List UInt8)).isSome = false from rfl, show bs ([] : List UInt8) = ⟨#[]⟩ from rfl] at HTEXT
      have tk4 : (k == 4) = false := by rw [beq_eq_false_iff_ne]; exact k4
      have tk5 : (k != 4) = true := by rw [bne_iff_ne]; exact k4
      rw [show (some u).isSome = true from rfl] at HFIND HRF
      rw [show (some u).map valN = some (valN u) from rfl] at HFIND
      have HEQ2 := Lib.hid (HEQ.out u rfl)
      obtain ⟨⟨p0, p1, p2, p3, p4⟩, ⟨r0, r1, r2, r3, r4⟩⟩ := HS.out _ HC0.out
      go_enter Tryz.func3, Tryz.ntmps3
      go_wp2_with fail
      try rw [hW0]
      clear hW0
      refine (HL1.out _ HB0.out).mono ?_
      rintro e w1 ⟨rfl, hb1⟩
      have HB1 := Lib.hid (bstep HB0.out hb1)
      have HC1 := Lib.hid (bstep HC0.out hb1)
      clear hb1
      clear p0 p1 p2 p3 p4 r0 r1 r2 r3 r4
      obtain ⟨⟨p0, p1, p2, p3, p4⟩, ⟨r0, r1, r2, r3, r4⟩⟩ := HS.out _ HC1.out
      go_wp2_with fail
      refine (HL2.out _ HB1.out).mono ?_
      rintro e w2 ⟨rfl, hb2⟩
      have HB2 := Lib.hid (bstep HB1.out hb2)
      have HC2 := Lib.hid (bstep HC1.out hb2)
      clear hb2
      clear p0 p1 p2 p3 p4 r0 r1 r2 r3 r4
      obtain ⟨⟨p0, p1, p2, p3, p4⟩, ⟨r0, r1, r2, r3, r4⟩⟩ := HS.out _ HC2.out
      go_wp2_with fail
      refine (HOWN.out _ HB2.out).mono ?_
      rintro e w3 ⟨x, S, rfl, hx, hS, hb3⟩
      have HB3 := Lib.hid (bstep HB2.out hb3)
      have HC3 := Lib.hid (bstep HC2.out hb3)
      have HX : Hid (∀ W, Below w3.heap.size w3 W → AV (fun i => i < W.heap.size) W J x) := Lib.hid (fun W hW => (hx.kept (fun _ h => h) (KeptS.of_below hW hS)).kept (fun i hi => Nat.lt_of_lt_of_le (hS i hi) hW.size) (KeptS.refl _ _))
      have HR3 := Lib.hid (Below.refl w3.heap.size w3)
      clear hb3 hx hS
      clear p0 p1 p2 p3 p4 r0 r1 r2 r3 r4
      obtain ⟨⟨p0, p1, p2, p3, p4⟩, ⟨r0, r1, r2, r3, r4⟩⟩ := HS.out _ HC3.out
      go_wp2_with fail
      have HPU := Lib.hid (HPUT.out w3 _ x HB3.out (HX.out w3 HR3.out) (fun _ h => h))
      refine (HPU.out).mono ?_
      rintro e w4 ⟨rfl, hb4⟩
      have HB4 := Lib.hid (bstep HB3.out hb4)
      have HC4 := Lib.hid (bstep HC3.out hb4)
      have HR4 := Lib.hid (bstep HR3.out hb4)
      clear hb4
      clear p0 p1 p2 p3 p4 r0 r1 r2 r3 r4
      obtain ⟨⟨p0, p1, p2, p3, p4⟩, ⟨r0, r1, r2, r3, r4⟩⟩ := HS.out _ HC4.out
      go_wp2_with fail
      refine (HRP.out _ HB4.out).mono ?_
      rintro e w5 ⟨rfl, hb5⟩
      have HB5 := Lib.hid (bstep HB4.out hb5)
      have HC5 := Lib.hid (bstep HC4.out hb5)
      have HR5 := Lib.hid (bstep HR4.out hb5)
      clear hb5
      clear p0 p1 p2 p3 p4 r0 r1 r2 r3 r4
      obtain ⟨⟨p0, p1, p2, p3, p4⟩, ⟨r0, r1, r2, r3, r4⟩⟩ := HS.out _ HC5.out
      go_wp2_with fail
      have HFD := Lib.hid (HFIND.out w5 _ x HB5.out (HX.out w5 HR5.out) (fun _ h => h))
      refine (HFD.out).mono ?_
      rintro e w6 ⟨⟨y, rfl, hy⟩, hb6⟩
      have HB6 := Lib.hid (bstep HB5.out hb6)
      have HC6 := Lib.hid (bstep HC5.out hb6)
      have HR6 := Lib.hid (bstep HR5.out hb6)
      have HY := Lib.hid hy
      have HV6 := Lib.hid hb6
      clear hb6 hy
      clear p0 p1 p2 p3 p4 r0 r1 r2 r3 r4
      obtain ⟨⟨p0, p1, p2, p3, p4⟩, ⟨r0, r1, r2, r3, r4⟩⟩ := HS.out _ HC6.out
      go_wp2_with fail
      refine (HRF.out _ HB6.out).mono ?_
      rintro e w7 ⟨⟨z0, z1, z2, z3, z4, rfl, hz⟩, hb7⟩
      have HB7 := Lib.hid (bstep HB6.out hb7)
      have HC7 := Lib.hid (bstep HC6.out hb7)
      have HR7 := Lib.hid (bstep HR6.out hb7)
      have HZ := Lib.hid hz
      have HV7 := Lib.hid (bstep HV6.out hb7)
      have HW7 := Lib.hid hb7
      obtain ⟨zk, zn, zs, za, zl, zc, zd, zm, ze, rfl, rfl, rfl, rfl, rfl⟩ := hz.shape
      clear hb7 hz
      clear p0 p1 p2 p3 p4 r0 r1 r2 r3 r4
      obtain ⟨⟨p0, p1, p2, p3, p4⟩, ⟨r0, r1, r2, r3, r4⟩⟩ := HS.out _ HC7.out
      go_wp2_with fail
      have hnz := NB.new w7 (.int .u8 zk) (.int .i64 zn) (.string zs) (.slice za zl zc) (.slice zd zm ze) 25
      obtain ⟨W8, hW8⟩ : ∃ W8, w7.alloc (.cells #[.int .u8 zk, .int .i64 zn, .string zs, .slice za zl zc, .slice zd zm ze] 25) = W8 := ⟨_, rfl⟩
      rw [hW8] at hnz
      try rw [hW8]
      have HNZ := Lib.hid hnz
      have HB8 := Lib.hid (bstep HB7.out hnz.b)
      have HC8 := Lib.hid (bstep HC7.out hnz.b)
      have HR8 := Lib.hid (bstep HR7.out hnz.b)
      have HV8 := Lib.hid (bstep HV7.out hnz.b)
      have HW8 := Lib.hid (bstep HW7.out hnz.b)
      clear hnz hW8
      clear p0 p1 p2 p3 p4 r0 r1 r2 r3 r4
      have HTX := Lib.hid (HTEXT.out W8 _ x (HX.out W8 HR8.out))
      refine HTX.out.mono ?_
      rintro e w9 ⟨rfl, rfl⟩
      go_wp2_with fail
      have HD9 := Lib.hid (bstep HC8.out (Below.refl _ w9).drew)
      have HDB9 := Lib.hid (bstep HB8.out (Below.refl _ w9).drew)
      have HDR9 := Lib.hid (bstep HR8.out (Below.refl _ w9).drew)
      refine wp_region_noPanic ?_
      refine wp_region_held_drew (S := fun (W : World) => (W.cell? ⟨w.heap.size, 0, none⟩ = some (.int .u8 k) ∧ W.cell? ⟨w.heap.size, 1, none⟩ = some x1 ∧ W.cell? ⟨w.heap.size, 2, none⟩ = some (.string sv) ∧ W.cell? ⟨w.heap.size, 3, none⟩ = some x3 ∧ W.cell? ⟨w.heap.size, 4, none⟩ = some x4) ∧ (W.cell? ⟨w.heap.size + 1, 0, none⟩ = some y0 ∧ W.cell? ⟨w.heap.size + 1, 1, none⟩ = some y1 ∧ W.cell? ⟨w.heap.size + 1, 2, none⟩ = some y2 ∧ W.cell? ⟨w.heap.size + 1, 3, none⟩ = some y3 ∧ W.cell? ⟨w.heap.size + 1, 4, none⟩ = some y4)) (by kernel_rfl) (HS.out _ HD9.out) (fun hHeld => ?_)
      refine wpAnyH_take (i := 0) (v := ?v0q7) rfl (by kernel_rfl) (by kernel_rfl) (by kernel_rfl) (fun _ _ _ h => h) (Or.inl ⟨by rfl, ?y0q7⟩) (by assumption) ?z0q7
      case y0q7 => intro W hSw; (try dsimp only at hSw); go_simp <;> with_reducible rfl
      simp only [Act.put, List.getElem_toArray, List.getElem_cons_zero, List.getElem_cons_succ, List.setIfInBounds_toArray, List.set_cons_zero, List.set_cons_succ]
      refine wpAnyH_take (i := 1) (v := ?v1q7) rfl (by kernel_rfl) (by kernel_rfl) (by kernel_rfl) (fun _ _ _ h => h) (Or.inl ⟨by rfl, ?y1q7⟩) (by assumption) ?z1q7
      case y1q7 => intro W hSw; (try dsimp only at hSw); go_simp <;> with_reducible rfl
      simp only [Act.put, List.getElem_toArray, List.getElem_cons_zero, List.getElem_cons_succ, List.setIfInBounds_toArray, List.set_cons_zero, List.set_cons_succ]
      refine wpAnyH_take (i := 2) (v := ?v2q7) rfl (by kernel_rfl) (by kernel_rfl) (by kernel_rfl) (fun _ _ _ h => h) (Or.inl ⟨by rfl, ?y2q7⟩) (by assumption) ?z2q7
      case y2q7 => intro W hSw; (try dsimp only at hSw); go_simp <;> with_reducible rfl
      simp only [Act.put, List.getElem_toArray, List.getElem_cons_zero, List.getElem_cons_succ, List.setIfInBounds_toArray, List.set_cons_zero, List.set_cons_succ]
      refine wpAnyH_take (i := 3) (v := ?v3q7) rfl (by kernel_rfl) (by kernel_rfl) (by kernel_rfl) (fun _ _ _ h => h) (Or.inl ⟨by rfl, ?y3q7⟩) (by assumption) ?z3q7
      case y3q7 => intro W hSw; (try dsimp only at hSw); go_simp <;> with_reducible rfl
      simp only [Act.put, List.getElem_toArray, List.getElem_cons_zero, List.getElem_cons_succ, List.setIfInBounds_toArray, List.set_cons_zero, List.set_cons_succ]
      refine wpAnyH_take (i := 4) (v := ?v4q7) rfl (by kernel_rfl) (by kernel_rfl) (by kernel_rfl) (fun _ _ _ h => h) (Or.inl ⟨by rfl, ?y4q7⟩) (by assumption) ?z4q7
      case y4q7 => intro W hSw; (try dsimp only at hSw); go_simp <;> with_reducible rfl
      simp only [Act.put, List.getElem_toArray, List.getElem_cons_zero, List.getElem_cons_succ, List.setIfInBounds_toArray, List.set_cons_zero, List.set_cons_succ]
      refine wpAnyH_take (i := 5) (v := ?v5q7) rfl (by kernel_rfl) (by kernel_rfl) (by kernel_rfl) (fun _ _ _ h => h) (Or.inl ⟨by rfl, ?y5q7⟩) (by assumption) ?z5q7
      case y5q7 => intro W hSw; (try dsimp only at hSw); go_simp <;> with_reducible rfl
      simp only [Act.put, List.getElem_toArray, List.getElem_cons_zero, List.getElem_cons_succ, List.setIfInBounds_toArray, List.set_cons_zero, List.set_cons_succ]
      refine wpAnyH_take (i := 6) (v := ?v6q7) rfl (by kernel_rfl) (by kernel_rfl) (by kernel_rfl) (fun _ _ _ h => h) (Or.inl ⟨by rfl, ?y6q7⟩) (by assumption) ?z6q7
      case y6q7 => intro W hSw; (try dsimp only at hSw); go_simp <;> with_reducible rfl
      simp only [Act.put, List.getElem_toArray, List.getElem_cons_zero, List.getElem_cons_succ, List.setIfInBounds_toArray, List.set_cons_zero, List.set_cons_succ]
      refine wpAnyH_take (i := 7) (v := ?v7q7) rfl (by kernel_rfl) (by kernel_rfl) (by kernel_rfl) (fun _ _ _ h => h) (Or.inl ⟨by rfl, ?y7q7⟩) (by assumption) ?z7q7
      case y7q7 => intro W hSw; (try dsimp only at hSw); go_simp <;> with_reducible rfl
      simp only [Act.put, List.getElem_toArray, List.getElem_cons_zero, List.getElem_cons_succ, List.setIfInBounds_toArray, List.set_cons_zero, List.set_cons_succ]
      refine wpAnyH_take (i := 8) (v := ?v8q7) rfl (by kernel_rfl) (by kernel_rfl) (by kernel_rfl) (fun _ _ _ h => h) (Or.inl ⟨by rfl, ?y8q7⟩) (by assumption) ?z8q7
      case y8q7 => intro W hSw; (try dsimp only at hSw); go_simp <;> with_reducible rfl
      simp only [Act.put, List.getElem_toArray, List.getElem_cons_zero, List.getElem_cons_succ, List.setIfInBounds_toArray, List.set_cons_zero, List.set_cons_succ]
      refine wpAnyH_take (i := 9) (v := ?v9q7) rfl (by kernel_rfl) (by kernel_rfl) (by kernel_rfl) (fun _ _ _ h => h) (Or.inl ⟨by rfl, ?y9q7⟩) (by assumption) ?z9q7
      case y9q7 => intro W hSw; (try dsimp only at hSw); go_simp <;> with_reducible rfl
      simp only [Act.put, List.getElem_toArray, List.getElem_cons_zero, List.getElem_cons_succ, List.setIfInBounds_toArray, List.set_cons_zero, List.set_cons_succ]
      refine wpAnyH_take (i := 11) (v := ?v11q7) rfl (by kernel_rfl) (by kernel_rfl) (by kernel_rfl) (fun _ _ _ h => h) (Or.inl ⟨by rfl, ?y11q7⟩) (by assumption) ?z11q7
      case y11q7 => intro W hSw; (try dsimp only at hSw); go_simp <;> with_reducible rfl
      simp only [Act.put, List.getElem_toArray, List.getElem_cons_zero, List.getElem_cons_succ, List.setIfInBounds_toArray, List.set_cons_zero, List.set_cons_succ]
      have HCK := Lib.hid (HCHK.out w9.drew _ x HDB9.out (HX.out _ HDR9.out) (fun _ h => h))
      refine wpAnyH_ready (rs := [10]) (by kernel_rfl) (by simp) ?_
      refine AllReadyH.cons rfl (fun K' hK => ?_) AllReadyH.nil
      go_simp
      refine HCK.out.mono ?_
      rintro e wa ⟨rfl, hba⟩
      have HDa := Lib.hid (bstep HD9.out hba)
      have HDBa := Lib.hid (bstep HDB9.out hba)
      have HVa := Lib.hid (bstep (Below.refl _ w9).drew hba)
      clear hba
      go_wp2_with fail
      refine hK.out _ _ (HS.out _ HDa.out) (fun hHeld10 => ?_)
      clear hK K'
      try simp only [Act.put, List.getElem_toArray, List.getElem_cons_zero, List.getElem_cons_succ, List.setIfInBounds_toArray, List.set_cons_zero, List.set_cons_succ]
      refine wpAnyH_ready (rs := [12]) (by kernel_rfl) (by simp) ?_
      refine AllReadyH.cons rfl (fun K' hK => ?_) AllReadyH.nil
      go_simp
      refine (HRCHK.out _ HDBa.out).mono ?_
      rintro e wb ⟨rfl, hbb⟩
      have HDb := Lib.hid (bstep HDa.out hbb)
      have HDBb := Lib.hid (bstep HDBa.out hbb)
      have HVb := Lib.hid (bstep HVa.out hbb)
      clear hbb
      go_wp2_with fail
      refine hK.out _ _ (HS.out _ HDb.out) (fun hHeld12 => ?_)
      clear hK K'
      try simp only [Act.put, List.getElem_toArray, List.getElem_cons_zero, List.getElem_cons_succ, List.setIfInBounds_toArray, List.set_cons_zero, List.set_cons_succ]
      refine wpAnyH_take (i := 13) (v := ?v13q7) rfl (by kernel_rfl) (by kernel_rfl) (by kernel_rfl) (fun _ _ _ h => h) (Or.inl ⟨by rfl, ?y13q7⟩) (by assumption) ?z13q7
      case y13q7 => intro W hSw; (try dsimp only at hSw); go_simp <;> with_reducible rfl
      simp only [Act.put, List.getElem_toArray, List.getElem_cons_zero, List.getElem_cons_succ, List.setIfInBounds_toArray, List.set_cons_zero, List.set_cons_succ]
      refine wpAnyH_take (i := 14) (v := ?v14q7) rfl (by kernel_rfl) (by kernel_rfl) (by kernel_rfl) (fun _ _ _ h => h) (Or.inl ⟨by rfl, ?y14q7⟩) (by assumption) ?z14q7
      case y14q7 => intro W hSw; (try dsimp only at hSw); go_simp <;> with_reducible rfl
      simp only [Act.put, List.getElem_toArray, List.getElem_cons_zero, List.getElem_cons_succ, List.setIfInBounds_toArray, List.set_cons_zero, List.set_cons_succ]
      refine wpAnyH_take (i := 15) (v := ?v15q7) rfl (by kernel_rfl) (by kernel_rfl) (by kernel_rfl) (fun _ _ _ h => h) (Or.inl ⟨by rfl, ?y15q7⟩) (by assumption) ?z15q7
      case y15q7 => intro W hSw; (try dsimp only at hSw); go_simp <;> with_reducible rfl
      simp only [Act.put, List.getElem_toArray, List.getElem_cons_zero, List.getElem_cons_succ, List.setIfInBounds_toArray, List.set_cons_zero, List.set_cons_succ]
      refine wpAnyH_take (i := 16) (v := ?v16q7) rfl (by kernel_rfl) (by kernel_rfl) (by kernel_rfl) (fun _ _ _ h => h) (Or.inl ⟨by rfl, ?y16q7⟩) (by assumption) ?z16q7
      case y16q7 => intro W hSw; (try dsimp only at hSw); go_simp <;> with_reducible rfl
      simp only [Act.put, List.getElem_toArray, List.getElem_cons_zero, List.getElem_cons_succ, List.setIfInBounds_toArray, List.set_cons_zero, List.set_cons_succ]
      refine wpAnyH_take (i := 17) (v := ?v17q7) rfl (by kernel_rfl) (by kernel_rfl) (by kernel_rfl) (fun _ _ _ h => h) (Or.inl ⟨by rfl, ?y17q7⟩) (by assumption) ?z17q7
      case y17q7 => intro W hSw; (try dsimp only at hSw); go_simp <;> with_reducible rfl
      simp only [Act.put, List.getElem_toArray, List.getElem_cons_zero, List.getElem_cons_succ, List.setIfInBounds_toArray, List.set_cons_zero, List.set_cons_succ]
      refine wpAnyH_take (i := 18) (v := ?v18q7) rfl (by kernel_rfl) (by kernel_rfl) (by kernel_rfl) (fun _ _ _ h => h) (Or.inl ⟨by rfl, ?y18q7⟩) (by assumption) ?z18q7
      case y18q7 => intro W hSw; (try dsimp only at hSw); go_simp <;> with_reducible rfl
      simp only [Act.put, List.getElem_toArray, List.getElem_cons_zero, List.getElem_cons_succ, List.setIfInBounds_toArray, List.set_cons_zero, List.set_cons_succ]
      refine wpAnyH_take (i := 19) (v := ?v19q7) rfl (by kernel_rfl) (by kernel_rfl) (by kernel_rfl) (fun _ _ _ h => h) (Or.inl ⟨by rfl, ?y19q7⟩) (by assumption) ?z19q7
      case y19q7 => intro W hSw; (try dsimp only at hSw); go_simp <;> with_reducible rfl
      simp only [Act.put, List.getElem_toArray, List.getElem_cons_zero, List.getElem_cons_succ, List.setIfInBounds_toArray, List.set_cons_zero, List.set_cons_succ]
      refine wpAnyH_take (i := 20) (v := ?v20q7) rfl (by kernel_rfl) (by kernel_rfl) (by kernel_rfl) (fun _ _ _ h => h) (Or.inl ⟨by rfl, ?y20q7⟩) (by assumption) ?z20q7
      case y20q7 => intro W hSw; (try dsimp only at hSw); go_simp <;> with_reducible rfl
      simp only [Act.put, List.getElem_toArray, List.getElem_cons_zero, List.getElem_cons_succ, List.setIfInBounds_toArray, List.set_cons_zero, List.set_cons_succ]
      refine wpAnyH_take (i := 21) (v := ?v21q7) rfl (by kernel_rfl) (by kernel_rfl) (by kernel_rfl) (fun _ _ _ h => h) (Or.inl ⟨by rfl, ?y21q7⟩) (by assumption) ?z21q7
      case y21q7 => intro W hSw; (try dsimp only at hSw); go_simp <;> with_reducible rfl
      simp only [Act.put, List.getElem_toArray, List.getElem_cons_zero, List.getElem_cons_succ, List.setIfInBounds_toArray, List.set_cons_zero, List.set_cons_succ]
      refine wpAnyH_take (i := 22) (v := ?v22q7) rfl (by kernel_rfl) (by kernel_rfl) (by kernel_rfl) (fun _ _ _ h => h) (Or.inl ⟨by rfl, ?y22q7⟩) (by assumption) ?z22q7
      case y22q7 => intro W hSw; (try dsimp only at hSw); go_simp <;> with_reducible rfl
      simp only [Act.put, List.getElem_toArray, List.getElem_cons_zero, List.getElem_cons_succ, List.setIfInBounds_toArray, List.set_cons_zero, List.set_cons_succ]
      refine wpAnyH_take (i := 23) (v := ?v23q7) rfl (by kernel_rfl) (by kernel_rfl) (by kernel_rfl) (fun _ _ _ h => h) (Or.inl ⟨by rfl, ?y23q7⟩) (by assumption) ?z23q7
      case y23q7 => intro W hSw; (try dsimp only at hSw); go_simp <;> with_reducible rfl
      simp only [Act.put, List.getElem_toArray, List.getElem_cons_zero, List.getElem_cons_succ, List.setIfInBounds_toArray, List.set_cons_zero, List.set_cons_succ]
      refine wpAnyH_take (i := 24) (v := ?v24q7) rfl (by kernel_rfl) (by kernel_rfl) (by kernel_rfl) (fun _ _ _ h => h) (Or.inl ⟨by rfl, ?y24q7⟩) (by assumption) ?z24q7
      case y24q7 => intro W hSw; (try dsimp only at hSw); go_simp <;> with_reducible rfl
      simp only [Act.put, List.getElem_toArray, List.getElem_cons_zero, List.getElem_cons_succ, List.setIfInBounds_toArray, List.set_cons_zero, List.set_cons_succ]
      refine wpAnyH_take (i := 25) (v := ?v25q7) rfl (by kernel_rfl) (by kernel_rfl) (by kernel_rfl) (fun _ _ _ h => h) (Or.inl ⟨by rfl, ?y25q7⟩) (by assumption) ?z25q7
      case y25q7 => intro W hSw; (try dsimp only at hSw); go_simp <;> with_reducible rfl
      simp only [Act.put, List.getElem_toArray, List.getElem_cons_zero, List.getElem_cons_succ, List.setIfInBounds_toArray, List.set_cons_zero, List.set_cons_succ]
      refine wpAnyH_take (i := 26) (v := ?v26q7) rfl (by kernel_rfl) (by kernel_rfl) (by kernel_rfl) (fun _ _ _ h => h) (Or.inl ⟨by rfl, ?y26q7⟩) (by assumption) ?z26q7
      case y26q7 => intro W hSw; (try dsimp only at hSw); go_simp <;> with_reducible rfl
      simp only [Act.put, List.getElem_toArray, List.getElem_cons_zero, List.getElem_cons_succ, List.setIfInBounds_toArray, List.set_cons_zero, List.set_cons_succ]
      refine wpAnyH_take (i := 27) (v := ?v27q7) rfl (by kernel_rfl) (by kernel_rfl) (by kernel_rfl) (fun _ _ _ h => h) (Or.inl ⟨by rfl, ?y27q7⟩) (by assumption) ?z27q7
      case y27q7 => intro W hSw; (try dsimp only at hSw); go_simp <;> with_reducible rfl
      simp only [Act.put, List.getElem_toArray, List.getElem_cons_zero, List.getElem_cons_succ, List.setIfInBounds_toArray, List.set_cons_zero, List.set_cons_succ]
      refine wpAnyH_take (i := 28) (v := ?v28q7) rfl (by kernel_rfl) (by kernel_rfl) (by kernel_rfl) (fun _ _ _ h => h) (Or.inl ⟨by rfl, ?y28q7⟩) (by assumption) ?z28q7
      case y28q7 => intro W hSw; (try dsimp only at hSw); go_simp <;> with_reducible rfl
      simp only [Act.put, List.getElem_toArray, List.getElem_cons_zero, List.getElem_cons_succ, List.setIfInBounds_toArray, List.set_cons_zero, List.set_cons_succ]
      refine wpAnyH_take (i := 29) (v := ?v29q7) rfl (by kernel_rfl) (by kernel_rfl) (by kernel_rfl) (fun _ _ _ h => h) (Or.inl ⟨by rfl, ?y29q7⟩) (by assumption) ?z29q7
      case y29q7 => intro W hSw; (try dsimp only at hSw); go_simp <;> with_reducible rfl
      simp only [Act.put, List.getElem_toArray, List.getElem_cons_zero, List.getElem_cons_succ, List.setIfInBounds_toArray, List.set_cons_zero, List.set_cons_succ]
      refine wpAnyH_take (i := 30) (v := undef) rfl (by kernel_rfl) (by kernel_rfl) (by kernel_rfl) (fun _ _ _ h => h) (Or.inr ⟨by rfl, rfl⟩) (by assumption) ?_
      simp only [Act.put, List.getElem_toArray, List.getElem_cons_zero, List.getElem_cons_succ, List.setIfInBounds_toArray, List.set_cons_zero, List.set_cons_succ]
      refine wpAnyH_take (i := 31) (v := undef) rfl (by kernel_rfl) (by kernel_rfl) (by kernel_rfl) (fun _ _ _ h => h) (Or.inr ⟨by rfl, rfl⟩) (by assumption) ?_
      simp only [Act.put, List.getElem_toArray, List.getElem_cons_zero, List.getElem_cons_succ, List.setIfInBounds_toArray, List.set_cons_zero, List.set_cons_succ]
      refine wpAnyH_take (i := 32) (v := undef) rfl (by kernel_rfl) (by kernel_rfl) (by kernel_rfl) (fun _ _ _ h => h) (Or.inr ⟨by rfl, rfl⟩) (by assumption) ?_
      simp only [Act.put, List.getElem_toArray, List.getElem_cons_zero, List.getElem_cons_succ, List.setIfInBounds_toArray, List.set_cons_zero, List.set_cons_succ]
      refine wpAnyH_take (i := 33) (v := undef) rfl (by kernel_rfl) (by kernel_rfl) (by kernel_rfl) (fun _ _ _ h => h) (Or.inr ⟨by rfl, rfl⟩) (by assumption) ?_
      simp only [Act.put, List.getElem_toArray, List.getElem_cons_zero, List.getElem_cons_succ, List.setIfInBounds_toArray, List.set_cons_zero, List.set_cons_succ]
      refine wpAnyH_take (i := 34) (v := ?v34q7) rfl (by kernel_rfl) (by kernel_rfl) (by kernel_rfl) (fun _ _ _ h => h) (Or.inl ⟨by rfl, ?y34q7⟩) (by assumption) ?z34q7
      case y34q7 => intro W hSw; (try dsimp only at hSw); go_simp <;> with_reducible rfl
      simp only [Act.put, List.getElem_toArray, List.getElem_cons_zero, List.getElem_cons_succ, List.setIfInBounds_toArray, List.set_cons_zero, List.set_cons_succ]
      refine wpAnyH_take (i := 35) (v := ?v35q7) rfl (by kernel_rfl) (by kernel_rfl) (by kernel_rfl) (fun _ _ _ h => h) (Or.inl ⟨by rfl, ?y35q7⟩) (by assumption) ?z35q7
      case y35q7 => intro W hSw; (try dsimp only at hSw); go_simp <;> with_reducible rfl
      simp only [Act.put, List.getElem_toArray, List.getElem_cons_zero, List.getElem_cons_succ, List.setIfInBounds_toArray, List.set_cons_zero, List.set_cons_succ]
      refine wpAnyH_take (i := 36) (v := ?v36q7) rfl (by kernel_rfl) (by kernel_rfl) (by kernel_rfl) (fun _ _ _ h => h) (Or.inl ⟨by rfl, ?y36q7⟩) (by assumption) ?z36q7
      case y36q7 => intro W hSw; (try dsimp only at hSw); go_simp <;> with_reducible rfl
      simp only [Act.put, List.getElem_toArray, List.getElem_cons_zero, List.getElem_cons_succ, List.setIfInBounds_toArray, List.set_cons_zero, List.set_cons_succ]
      refine wpAnyH_take (i := 37) (v := ?v37q7) rfl (by kernel_rfl) (by kernel_rfl) (by kernel_rfl) (fun _ _ _ h => h) (Or.inl ⟨by rfl, ?y37q7⟩) (by assumption) ?z37q7
      case y37q7 => intro W hSw; (try dsimp only at hSw); go_simp <;> with_reducible rfl
      simp only [Act.put, List.getElem_toArray, List.getElem_cons_zero, List.getElem_cons_succ, List.setIfInBounds_toArray, List.set_cons_zero, List.set_cons_succ]
      refine wpAnyH_take (i := 38) (v := ?v38q7) rfl (by kernel_rfl) (by kernel_rfl) (by kernel_rfl) (fun _ _ _ h => h) (Or.inl ⟨by rfl, ?y38q7⟩) (by assumption) ?z38q7
      case y38q7 => intro W hSw; (try dsimp only at hSw); go_simp <;> with_reducible rfl
      simp only [Act.put, List.getElem_toArray, List.getElem_cons_zero, List.getElem_cons_succ, List.setIfInBounds_toArray, List.set_cons_zero, List.set_cons_succ]
      refine wpAnyH_take (i := 39) (v := ?v39q7) rfl (by kernel_rfl) (by kernel_rfl) (by kernel_rfl) (fun _ _ _ h => h) (Or.inl ⟨by rfl, ?y39q7⟩) (by assumption) ?z39q7
      case y39q7 => intro W hSw; (try dsimp only at hSw); go_simp <;> with_reducible rfl
      simp only [Act.put, List.getElem_toArray, List.getElem_cons_zero, List.getElem_cons_succ, List.setIfInBounds_toArray, List.set_cons_zero, List.set_cons_succ]
      refine wpAnyH_take (i := 40) (v := ?v40q7) rfl (by kernel_rfl) (by kernel_rfl) (by kernel_rfl) (fun _ _ _ h => h) (Or.inl ⟨by rfl, ?y40q7⟩) (by assumption) ?z40q7
      case y40q7 => intro W hSw; (try dsimp only at hSw); go_simp <;> with_reducible rfl
      simp only [Act.put, List.getElem_toArray, List.getElem_cons_zero, List.getElem_cons_succ, List.setIfInBounds_toArray, List.set_cons_zero, List.set_cons_succ]
      refine wpAnyH_take (i := 41) (v := ?v41q7) rfl (by kernel_rfl) (by kernel_rfl) (by kernel_rfl) (fun _ _ _ h => h) (Or.inl ⟨by rfl, ?y41q7⟩) (by assumption) ?z41q7
      case y41q7 => intro W hSw; (try dsimp only at hSw); go_simp <;> with_reducible rfl
      simp only [Act.put, List.getElem_toArray, List.getElem_cons_zero, List.getElem_cons_succ, List.setIfInBounds_toArray, List.set_cons_zero, List.set_cons_succ]
      refine wpAnyH_take (i := 42) (v := ?v42q7) rfl (by kernel_rfl) (by kernel_rfl) (by kernel_rfl) (fun _ _ _ h => h) (Or.inl ⟨by rfl, ?y42q7⟩) (by assumption) ?z42q7
      case y42q7 => intro W hSw; (try dsimp only at hSw); go_simp <;> with_reducible rfl
      simp only [Act.put, List.getElem_toArray, List.getElem_cons_zero, List.getElem_cons_succ, List.setIfInBounds_toArray, List.set_cons_zero, List.set_cons_succ]
      refine wpAnyH_take (i := 43) (v := ?v43q7) rfl (by kernel_rfl) (by kernel_rfl) (by kernel_rfl) (fun _ _ _ h => h) (Or.inl ⟨by rfl, ?y43q7⟩) (by assumption) ?z43q7
      case y43q7 => intro W hSw; (try dsimp only at hSw); go_simp <;> with_reducible rfl
      simp only [Act.put, List.getElem_toArray, List.getElem_cons_zero, List.getElem_cons_succ, List.setIfInBounds_toArray, List.set_cons_zero, List.set_cons_succ]
      refine wpAnyH_done (by kernel_rfl) ?_ _
      refine NoPanic.normal ?_
      have HRb := Lib.hid (bstep HR8.out HVb.out)
      have HNZb := Lib.hid (HNZ.out.below HVb.out)
      obtain ⟨-, ltz, g0, g1, g2, g3, g4⟩ := HNZ.out.below HVb.out
      go_wp2_with fail
      have HE9 := Lib.hid (HEQ2.out wb (fun i => i < w5.heap.size) y _ _ _ _ _ (NAt.below (bstep HW8.out HVb.out) u _ _ _ _ _ HZ.out) (AV.kept (fun _ h => h) (KeptS.of_below (bstep HV8.out HVb.out) (fun i h => h)) _ _ HY.out) (fun i h => Nat.lt_of_lt_of_le h (bstep HV8.out HVb.out).size))
      refine HE9.out.mono ?_
      rintro e wc ⟨rfl, hbc⟩
      have HDc := Lib.hid (bstep HDb.out hbc)
      have HDBc := Lib.hid (bstep HDBb.out hbc)
      have HRc := Lib.hid (bstep HRb.out hbc)
      clear hbc
      go_wp2_with fail
      have HDd := Lib.hid (bstep HDc.out (Below.refl _ wc).drew)
      have HDBd := Lib.hid (bstep HDBc.out (Below.refl _ wc).drew)
      have HRd := Lib.hid (bstep HRc.out (Below.refl _ wc).drew)
      refine wp_region_noPanic ?_
      refine wp_region_held_drew (S := fun (W : World) => (W.cell? ⟨w.heap.size, 0, none⟩ = some (.int .u8 k) ∧ W.cell? ⟨w.heap.size, 1, none⟩ = some x1 ∧ W.cell? ⟨w.heap.size, 2, none⟩ = some (.string sv) ∧ W.cell? ⟨w.heap.size, 3, none⟩ = some x3 ∧ W.cell? ⟨w.heap.size, 4, none⟩ = some x4) ∧ (W.cell? ⟨w.heap.size + 1, 0, none⟩ = some y0 ∧ W.cell? ⟨w.heap.size + 1, 1, none⟩ = some y1 ∧ W.cell? ⟨w.heap.size + 1, 2, none⟩ = some y2 ∧ W.cell? ⟨w.heap.size + 1, 3, none⟩ = some y3 ∧ W.cell? ⟨w.heap.size + 1, 4, none⟩ = some y4)) (by kernel_rfl) (HS.out _ HDd.out) (fun hHeld => ?_)
      refine wpAnyH_take (i := 0) (v := ?v0q8) rfl (by kernel_rfl) (by kernel_rfl) (by kernel_rfl) (fun _ _ _ h => h) (Or.inl ⟨by rfl, ?y0q8⟩) (by assumption) ?z0q8
      case y0q8 => intro W hSw; (try dsimp only at hSw); go_simp <;> with_reducible rfl
      simp only [Act.put, List.getElem_toArray, List.getElem_cons_zero, List.getElem_cons_succ, List.setIfInBounds_toArray, List.set_cons_zero, List.set_cons_succ]
      refine wpAnyH_take (i := 1) (v := ?v1q8) rfl (by kernel_rfl) (by kernel_rfl) (by kernel_rfl) (fun _ _ _ h => h) (Or.inl ⟨by rfl, ?y1q8⟩) (by assumption) ?z1q8
      case y1q8 => intro W hSw; (try dsimp only at hSw); go_simp <;> with_reducible rfl
      simp only [Act.put, List.getElem_toArray, List.getElem_cons_zero, List.getElem_cons_succ, List.setIfInBounds_toArray, List.set_cons_zero, List.set_cons_succ]
      refine wpAnyH_take (i := 4) (v := ?v4q8) rfl (by kernel_rfl) (by kernel_rfl) (by kernel_rfl) (fun _ _ _ h => h) (Or.inl ⟨by rfl, ?y4q8⟩) (by assumption) ?z4q8
      case y4q8 => intro W hSw; (try dsimp only at hSw); go_simp <;> with_reducible rfl
      simp only [Act.put, List.getElem_toArray, List.getElem_cons_zero, List.getElem_cons_succ, List.setIfInBounds_toArray, List.set_cons_zero, List.set_cons_succ]
      refine wpAnyH_take (i := 5) (v := ?v5q8) rfl (by kernel_rfl) (by kernel_rfl) (by kernel_rfl) (fun _ _ _ h => h) (Or.inl ⟨by rfl, ?y5q8⟩) (by assumption) ?z5q8
      case y5q8 => intro W hSw; (try dsimp only at hSw); go_simp <;> with_reducible rfl
      simp only [Act.put, List.getElem_toArray, List.getElem_cons_zero, List.getElem_cons_succ, List.setIfInBounds_toArray, List.set_cons_zero, List.set_cons_succ]
      refine wpAnyH_ready (rs := [2]) (by kernel_rfl) (by simp) ?_
      refine AllReadyH.cons rfl (fun K' hK => ?_) AllReadyH.nil
      go_simp
      refine (HOWN2.out _ HDBd.out).mono ?_
      rintro e we ⟨yy, S2, rfl, hyy, hS2, hbe⟩
      have HDe := Lib.hid (bstep HDd.out hbe)
      have HDBe := Lib.hid (bstep HDBd.out hbe)
      have HRe := Lib.hid (bstep HRd.out hbe)
      have HSM3 := Lib.hid (HSAME.out we _ _ yy HDBe.out (HX.out _ HRe.out) (hyy.kept hS2 (KeptS.refl _ _)) (fun _ h => h))
      clear hyy hS2 hbe
      go_wp2_with fail
      refine hK.out _ _ (HS.out _ HDe.out) (fun hHeld2 => ?_)
      clear hK K'
      try simp only [Act.put, List.getElem_toArray, List.getElem_cons_zero, List.getElem_cons_succ, List.setIfInBounds_toArray, List.set_cons_zero, List.set_cons_succ]
      refine wpAnyH_ready (rs := [3]) (by kernel_rfl) (by simp) ?_
      refine AllReadyH.cons rfl (fun K' hK => ?_) AllReadyH.nil
      go_simp
      refine HSM3.out.mono ?_
      rintro e wf ⟨rfl, hbf⟩
      have HDf := Lib.hid (bstep HDe.out hbf)
      have HDBf := Lib.hid (bstep HDBe.out hbf)
      clear hbf
      go_wp2_with fail
      refine hK.out _ _ (HS.out _ HDf.out) (fun hHeld3 => ?_)
      clear hK K'
      try simp only [Act.put, List.getElem_toArray, List.getElem_cons_zero, List.getElem_cons_succ, List.setIfInBounds_toArray, List.set_cons_zero, List.set_cons_succ]
      refine wpAnyH_ready (rs := [6]) (by kernel_rfl) (by simp) ?_
      refine AllReadyH.cons rfl (fun K' hK => ?_) AllReadyH.nil
      go_simp
      refine (HRSAME.out _ HDBf.out).mono ?_
      rintro e wg ⟨rfl, hbg⟩
      have HDg := Lib.hid (bstep HDf.out hbg)
      have HDBg := Lib.hid (bstep HDBf.out hbg)
      clear hbg
      go_wp2_with fail
      refine hK.out _ _ (HS.out _ HDg.out) (fun hHeld6 => ?_)
      clear hK K'
      try simp only [Act.put, List.getElem_toArray, List.getElem_cons_zero, List.getElem_cons_succ, List.setIfInBounds_toArray, List.set_cons_zero, List.set_cons_succ]
      refine wpAnyH_take (i := 7) (v := ?v7q8) rfl (by kernel_rfl) (by kernel_rfl) (by kernel_rfl) (fun _ _ _ h => h) (Or.inl ⟨by rfl, ?y7q8⟩) (by assumption) ?z7q8
      case y7q8 => intro W hSw; (try dsimp only at hSw); go_simp <;> with_reducible rfl
      simp only [Act.put, List.getElem_toArray, List.getElem_cons_zero, List.getElem_cons_succ, List.setIfInBounds_toArray, List.set_cons_zero, List.set_cons_succ]
      refine wpAnyH_take (i := 8) (v := ?v8q8) rfl (by kernel_rfl) (by kernel_rfl) (by kernel_rfl) (fun _ _ _ h => h) (Or.inl ⟨by rfl, ?y8q8⟩) (by assumption) ?z8q8
      case y8q8 => intro W hSw; (try dsimp only at hSw); go_simp <;> with_reducible rfl
      simp only [Act.put, List.getElem_toArray, List.getElem_cons_zero, List.getElem_cons_succ, List.setIfInBounds_toArray, List.set_cons_zero, List.set_cons_succ]
      refine wpAnyH_take (i := 9) (v := ?v9q8) rfl (by kernel_rfl) (by kernel_rfl) (by kernel_rfl) (fun _ _ _ h => h) (Or.inl ⟨by rfl, ?y9q8⟩) (by assumption) ?z9q8
      case y9q8 => intro W hSw; (try dsimp only at hSw); go_simp <;> with_reducible rfl
      simp only [Act.put, List.getElem_toArray, List.getElem_cons_zero, List.getElem_cons_succ, List.setIfInBounds_toArray, List.set_cons_zero, List.set_cons_succ]
      refine wpAnyH_take (i := 10) (v := ?v10q8) rfl (by kernel_rfl) (by kernel_rfl) (by kernel_rfl) (fun _ _ _ h => h) (Or.inl ⟨by rfl, ?y10q8⟩) (by assumption) ?z10q8
      case y10q8 => intro W hSw; (try dsimp only at hSw); go_simp <;> with_reducible rfl
      simp only [Act.put, List.getElem_toArray, List.getElem_cons_zero, List.getElem_cons_succ, List.setIfInBounds_toArray, List.set_cons_zero, List.set_cons_succ]
      refine wpAnyH_take (i := 11) (v := ?v11q8) rfl (by kernel_rfl) (by kernel_rfl) (by kernel_rfl) (fun _ _ _ h => h) (Or.inl ⟨by rfl, ?y11q8⟩) (by assumption) ?z11q8
      case y11q8 => intro W hSw; (try dsimp only at hSw); go_simp <;> with_reducible rfl
      simp only [Act.put, List.getElem_toArray, List.getElem_cons_zero, List.getElem_cons_succ, List.setIfInBounds_toArray, List.set_cons_zero, List.set_cons_succ]
      refine wpAnyH_take (i := 12) (v := ?v12q8) rfl (by kernel_rfl) (by kernel_rfl) (by kernel_rfl) (fun _ _ _ h => h) (Or.inl ⟨by rfl, ?y12q8⟩) (by assumption) ?z12q8
      case y12q8 => intro W hSw; (try dsimp only at hSw); go_simp <;> with_reducible rfl
      simp only [Act.put, List.getElem_toArray, List.getElem_cons_zero, List.getElem_cons_succ, List.setIfInBounds_toArray, List.set_cons_zero, List.set_cons_succ]
      refine wpAnyH_take (i := 13) (v := undef) rfl (by kernel_rfl) (by kernel_rfl) (by kernel_rfl) (fun _ _ _ h => h) (Or.inr ⟨by rfl, rfl⟩) (by assumption) ?_
      simp only [Act.put, List.getElem_toArray, List.getElem_cons_zero, List.getElem_cons_succ, List.setIfInBounds_toArray, List.set_cons_zero, List.set_cons_succ]
      refine wpAnyH_take (i := 14) (v := undef) rfl (by kernel_rfl) (by kernel_rfl) (by kernel_rfl) (fun _ _ _ h => h) (Or.inr ⟨by rfl, rfl⟩) (by assumption) ?_
      simp only [Act.put, List.getElem_toArray, List.getElem_cons_zero, List.getElem_cons_succ, List.setIfInBounds_toArray, List.set_cons_zero, List.set_cons_succ]
      refine wpAnyH_take (i := 15) (v := undef) rfl (by kernel_rfl) (by kernel_rfl) (by kernel_rfl) (fun _ _ _ h => h) (Or.inr ⟨by rfl, rfl⟩) (by assumption) ?_
      simp only [Act.put, List.getElem_toArray, List.getElem_cons_zero, List.getElem_cons_succ, List.setIfInBounds_toArray, List.set_cons_zero, List.set_cons_succ]
      refine wpAnyH_take (i := 16) (v := undef) rfl (by kernel_rfl) (by kernel_rfl) (by kernel_rfl) (fun _ _ _ h => h) (Or.inr ⟨by rfl, rfl⟩) (by assumption) ?_
      simp only [Act.put, List.getElem_toArray, List.getElem_cons_zero, List.getElem_cons_succ, List.setIfInBounds_toArray, List.set_cons_zero, List.set_cons_succ]
      refine wpAnyH_take (i := 17) (v := undef) rfl (by kernel_rfl) (by kernel_rfl) (by kernel_rfl) (fun _ _ _ h => h) (Or.inr ⟨by rfl, rfl⟩) (by assumption) ?_
      simp only [Act.put, List.getElem_toArray, List.getElem_cons_zero, List.getElem_cons_succ, List.setIfInBounds_toArray, List.set_cons_zero, List.set_cons_succ]
      refine wpAnyH_take (i := 18) (v := ?v18q8) rfl (by kernel_rfl) (by kernel_rfl) (by kernel_rfl) (fun _ _ _ h => h) (Or.inl ⟨by rfl, ?y18q8⟩) (by assumption) ?z18q8
      case y18q8 => intro W hSw; (try dsimp only at hSw); go_simp <;> with_reducible rfl
      simp only [Act.put, List.getElem_toArray, List.getElem_cons_zero, List.getElem_cons_succ, List.setIfInBounds_toArray, List.set_cons_zero, List.set_cons_succ]
      refine wpAnyH_take (i := 19) (v := ?v19q8) rfl (by kernel_rfl) (by kernel_rfl) (by kernel_rfl) (fun _ _ _ h => h) (Or.inl ⟨by rfl, ?y19q8⟩) (by assumption) ?z19q8
      case y19q8 => intro W hSw; (try dsimp only at hSw); go_simp <;> with_reducible rfl
      simp only [Act.put, List.getElem_toArray, List.getElem_cons_zero, List.getElem_cons_succ, List.setIfInBounds_toArray, List.set_cons_zero, List.set_cons_succ]
      refine wpAnyH_take (i := 20) (v := ?v20q8) rfl (by kernel_rfl) (by kernel_rfl) (by kernel_rfl) (fun _ _ _ h => h) (Or.inl ⟨by rfl, ?y20q8⟩) (by assumption) ?z20q8
      case y20q8 => intro W hSw; (try dsimp only at hSw); go_simp <;> with_reducible rfl
      simp only [Act.put, List.getElem_toArray, List.getElem_cons_zero, List.getElem_cons_succ, List.setIfInBounds_toArray, List.set_cons_zero, List.set_cons_succ]
      refine wpAnyH_ready (rs := [21]) (by kernel_rfl) (by simp) ?_
      refine AllReadyH.cons rfl (fun K' hK => ?_) AllReadyH.nil
      go_simp
      refine (HAW.out _ HDBg.out).mono ?_
      rintro e wz ⟨rfl, hbz⟩
      have HDz := Lib.hid (bstep HDg.out hbz)
      have HDBz := Lib.hid (bstep HDBg.out hbz)
      clear hbz
      go_wp2_with fail
      refine hK.out _ _ (HS.out _ HDz.out) (fun hHeld21 => ?_)
      clear hK K'
      try simp only [Act.put, List.getElem_toArray, List.getElem_cons_zero, List.getElem_cons_succ, List.setIfInBounds_toArray, List.set_cons_zero, List.set_cons_succ]
      refine wpAnyH_take (i := 22) (v := ?v22q8) rfl (by kernel_rfl) (by kernel_rfl) (by kernel_rfl) (fun _ _ _ h => h) (Or.inl ⟨by rfl, ?y22q8⟩) (by assumption) ?z22q8
      case y22q8 => intro W hSw; (try dsimp only at hSw); go_simp <;> with_reducible rfl
      simp only [Act.put, List.getElem_toArray, List.getElem_cons_zero, List.getElem_cons_succ, List.setIfInBounds_toArray, List.set_cons_zero, List.set_cons_succ]
      refine wpAnyH_take (i := 23) (v := ?v23q8) rfl (by kernel_rfl) (by kernel_rfl) (by kernel_rfl) (fun _ _ _ h => h) (Or.inl ⟨by rfl, ?y23q8⟩) (by assumption) ?z23q8
      case y23q8 => intro W hSw; (try dsimp only at hSw); go_simp <;> with_reducible rfl
      simp only [Act.put, List.getElem_toArray, List.getElem_cons_zero, List.getElem_cons_succ, List.setIfInBounds_toArray, List.set_cons_zero, List.set_cons_succ]
      refine wpAnyH_done (by kernel_rfl) ?_ _
      refine NoPanic.normal ?_
      go_wp2_with fail
      go_ret
      exact ⟨rfl, HDBz.out⟩
end Go.Proofs.YtcmkepkeeahioaaGreatDoor
