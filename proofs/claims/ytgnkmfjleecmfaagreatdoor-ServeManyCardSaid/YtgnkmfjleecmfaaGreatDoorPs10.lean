/- What Clip and Told of package ranges, and of its reference, return. What wrong and Told of package ranges, and Told of its reference, return. What Check and sort of package origin, and the replies of both sorts, return. What Answer and Code of package origin return. What the reference of origin returns. The small example of the laws of layer 27. The law OriginTells. A connection in memory; what New, Closed, Rest and Served of package serve return. A request has a least length; so there are few answers (no program in sight). What Put of package serve does. What Put of the reference of serve returns. over of the laws of layer 46. -/
import Derived.Test.YtgnkmfjleecmfaaGreatDoorPs9
import Derived.Deep.RegionHeld3
set_option linter.unusedVariables false
namespace Go.Proofs.YtgnkmfjleecmfaaGreatDoor
open Go.RowKit
/-- a world with two pairs of cells more -/
def W2of (w : World) (a b : Value) (t t2 : TypeId) : World := (w.alloc (.cells #[a, b] t)).alloc (.cells #[.int .i64 0, .int .i64 0] t2)
theorem w2_facts (w : World) (a b : Value) (t t2 : TypeId) : Below w.heap.size w (W2of w a b t t2) ∧ (W2of w a b t t2).heap[w.heap.size]? = some (.cells #[a, b] t (0, 0)) ∧ (W2of w a b t t2).heap[w.heap.size + 1]? = some (.cells #[.int .i64 0, .int .i64 0] t2 (0, 0)) ∧ (W2of w a b t t2).heap.size = w.heap.size + 1 + 1 := by
  refine ⟨bstep (below_agg2 w a b t) (below_agg2 _ _ _ _), ?_, ?_, by unfold W2of; simp⟩
  · exact ((below_agg2 (w.alloc (.cells #[a, b] t)) (.int .i64 0) (.int .i64 0) t2).block w.heap.size (by simp)).trans (heap_alloc_new w _)
  · have := heap_alloc_new (w.alloc (.cells #[a, b] t)) (.cells #[.int .i64 0, .int .i64 0] t2)
    simpa [W2of] using this
set_option maxRecDepth 100000 in
set_option maxHeartbeats 1000000 in
theorem ranges_clip (a b t : Int) (w : World) (ht0 : -9223372036854775807 ≤ t) (ht : t ≤ 9223372036854775807) :
    Calls Tryz.prog 87 #[.agg #[.int .i64 a, .int .i64 b], .int .i64 t] w fun e w' => e = .returned (.tuple #[.agg #[.int .i64 (clipA a b t), .int .i64 (clipB a b t)], .int .i64 (clipE a b t : Nat)]) ∧ Below w.heap.size w w' := by
  have HC := Lib.hid (fun w => ranges_check a b w)
  obtain ⟨hB0, hr0, hk0, hs0⟩ := w2_facts w (.int .i64 a) (.int .i64 b) 105 105
  unfold W2of at hB0 hr0 hk0 hs0
  have HB0 := Lib.hid hB0
  have HR0 := Lib.hid hr0
  have HK0 := Lib.hid hk0
  have HS0 := Lib.hid hs0
  obtain ⟨r0, r1, -, -⟩ := two_of hr0
  clear hB0 hr0 hk0 hs0
  by_cases he : rErr a b = 0
  case neg =>
    have h8 := (rErr_no a b he).1
    have HA : Hid (clipE a b t = 8 ∧ clipA a b t = 0 ∧ clipB a b t = 0) := Lib.hid (by
      have : clipE a b t = 8 := by unfold clipE; rw [if_pos he, h8]
      unfold clipA clipB; rw [this]; exact ⟨rfl, rfl, rfl⟩)
    rw [h8] at HC
    clear he h8
    go_enter Tryz.func87, Tryz.ntmps87
    go_wp2_with fail
    refine (HC.out _).mono ?_
    rintro e w1 ⟨rfl, hb1⟩
    generalize ((w.alloc (.cells #[.int .i64 a, .int .i64 b] 105)).alloc (.cells #[.int .i64 0, .int .i64 0] 105)) = W0 at HB0 HR0 HK0 HS0 hb1 r0 r1 ⊢
    have hk1 : w1.heap[w.heap.size + 1]? = some (.cells #[.int .i64 0, .int .i64 0] 105 (0, 0)) := (hb1.block _ (by have := HS0.out; omega)).trans HK0.out
    obtain ⟨k0, k1, f0, f1⟩ := two_of hk1
    have HK1 := Lib.hid hk1
    have HB1 := Lib.hid (bstep HB0.out hb1)
    clear hk1 hb1
    go_wp2_with fail
    refine ret_field (b := w.heap.size + 1) (x := .int .i64 0) (y := .int .i64 0) rfl (load_range _ _ _ _ _ (two_set HK1.out _ _)) rfl rfl rfl ?_
    refine ⟨?_, two_below HB1.out _ (by omega) _ _⟩
    rw [HA.out.1, HA.out.2.1, HA.out.2.2]; rfl
  have hab := rErr_ok a b he
  rw [he] at HC
  by_cases hf : t ≤ a
  · have HA : Hid (clipE a b t = 8 ∧ clipA a b t = 0 ∧ clipB a b t = 0) := Lib.hid (by
      have : clipE a b t = 8 := by unfold clipE; rw [if_neg (fun h => h he), if_pos hf]
      unfold clipA clipB; rw [this]; exact ⟨rfl, rfl, rfl⟩)
    have tf : decide (a ≥ t) = true := decide_eq_true hf
    clear he hf hab
    go_enter Tryz.func87, Tryz.ntmps87
    go_wp2_with fail
    refine (HC.out _).mono ?_
    rintro e w1 ⟨rfl, hb1⟩
    generalize ((w.alloc (.cells #[.int .i64 a, .int .i64 b] 105)).alloc (.cells #[.int .i64 0, .int .i64 0] 105)) = W0 at HB0 HR0 HK0 HS0 hb1 r0 r1 ⊢
    have hk1 : w1.heap[w.heap.size + 1]? = some (.cells #[.int .i64 0, .int .i64 0] 105 (0, 0)) := (hb1.block _ (by have := HS0.out; omega)).trans HK0.out
    have hr1 : w1.heap[w.heap.size]? = some (.cells #[.int .i64 a, .int .i64 b] 105 (0, 0)) := (hb1.block _ (by have := HS0.out; omega)).trans HR0.out
    clear r0 r1
    obtain ⟨k0, k1, f0, f1⟩ := two_of hk1
    obtain ⟨r0, r1, -, -⟩ := two_of hr1
    have HK1 := Lib.hid hk1
    have HB1 := Lib.hid (bstep HB0.out hb1)
    clear hk1 hb1 hr1
    go_wp2_with fail
    refine ret_field (b := w.heap.size + 1) (x := .int .i64 0) (y := .int .i64 0) rfl (load_range _ _ _ _ _ (two_set HK1.out _ _)) rfl rfl rfl ?_
    refine ⟨?_, two_below HB1.out _ (by omega) _ _⟩
    rw [HA.out.1, HA.out.2.1, HA.out.2.2]; rfl
  have tf : decide (a ≥ t) = false := decide_eq_false hf
  obtain ⟨B, hB⟩ : ∃ B, (if b < t - 1 then b else t - 1) = B := ⟨_, rfl⟩
  have HA : Hid (clipE a b t = 0 ∧ clipA a b t = a ∧ clipB a b t = B) := Lib.hid (by
    have : clipE a b t = 0 := by unfold clipE; rw [if_neg (fun h => h he), if_neg hf]
    unfold clipA clipB; rw [if_pos this, if_pos this, hB]; exact ⟨this, rfl, rfl⟩)
  have hmin : min b (t - 1) = B := by rw [← hB]; split <;> omega
  have HM := Lib.hid hmin
  have tw : IntKind.i64.wrap (t - 1) = t - 1 := by rw [IntKind.wrap_i64]; omega
  clear he hf hab hB hmin
  go_enter Tryz.func87, Tryz.ntmps87
  go_wp2_with fail
  refine (HC.out _).mono ?_
  rintro e w1 ⟨rfl, hb1⟩
  generalize ((w.alloc (.cells #[.int .i64 a, .int .i64 b] 105)).alloc (.cells #[.int .i64 0, .int .i64 0] 105)) = W0 at HB0 HR0 HK0 HS0 hb1 r0 r1 ⊢
  have hk1 : w1.heap[w.heap.size + 1]? = some (.cells #[.int .i64 0, .int .i64 0] 105 (0, 0)) := (hb1.block _ (by have := HS0.out; omega)).trans HK0.out
  have hr1 : w1.heap[w.heap.size]? = some (.cells #[.int .i64 a, .int .i64 b] 105 (0, 0)) := (hb1.block _ (by have := HS0.out; omega)).trans HR0.out
  clear r0 r1
  obtain ⟨k0, k1, f0, f1⟩ := two_of hk1
  obtain ⟨r0, r1, g0, g1⟩ := two_of hr1
  have HK1 := Lib.hid hk1
  have HB1 := Lib.hid (bstep HB0.out hb1)
  clear hk1 hb1 hr1
  go_wp2_with fail
  have hk2 : ∀ V, (w1.setCell ⟨w.heap.size, 1, none⟩ V).heap[w.heap.size + 1]? = some (.cells #[.int .i64 0, .int .i64 0] 105 (0, 0)) := fun V => (Below.heap_setCell _ _ _ _ (by simp)).trans HK1.out
  refine ret_field (b := w.heap.size + 1) (x := .int .i64 a) rfl (load_range _ _ _ _ _ (two_set (hk2 _) _ _)) rfl rfl rfl ?_
  refine ⟨?_, two_below (HB1.out.setCell (Nat.le_refl _) _) _ (by omega) _ _⟩
  rw [HA.out.1, HA.out.2.1, HA.out.2.2, ← HM.out]
  rfl
end Go.Proofs.YtgnkmfjleecmfaaGreatDoor
namespace Go.Proofs.YtgnkmfjleecmfaaGreatDoor
open Go.RowKit
theorem box3 (w : World) (x y z : Value) (t : TypeId) : (w.alloc (.cells #[x, y, z] t)).cell? ⟨w.heap.size, 0, none⟩ = some x ∧ (w.alloc (.cells #[x, y, z] t)).cell? ⟨w.heap.size, 1, none⟩ = some y ∧ (w.alloc (.cells #[x, y, z] t)).cell? ⟨w.heap.size, 2, none⟩ = some z :=
  let ⟨h0, h1, h2, _⟩ := three_facts (heap_alloc_new w (.cells #[x, y, z] t)); ⟨h0, h1, h2⟩
set_option maxRecDepth 100000 in
set_option maxHeartbeats 1000000 in
theorem told_wrong (a b t : Int) (w : World) :
    Calls Tryz.prog 250 #[.agg #[.int .i64 a, .int .i64 b, .int .i64 t]] w fun e w' => e = .returned (.int .i64 (toldE a b t : Nat)) ∧ Below w.heap.size w w' := by
  have HC := Lib.hid (fun w => ranges_check a b w)
  obtain ⟨x0, x1, x2⟩ := box3 w (.int .i64 a) (.int .i64 b) (.int .i64 t) 323
  have hB0 := below_agg3 w (.int .i64 a) (.int .i64 b) (.int .i64 t) 323
  have HB0 := Lib.hid hB0
  have hl : w.heap.size < (w.alloc (.cells #[.int .i64 a, .int .i64 b, .int .i64 t] 323)).heap.size := by simp
  have HL := Lib.hid hl
  clear hB0 hl
  by_cases he : rErr a b = 0
  case neg =>
    have h8 := (rErr_no a b he).1
    have HA : Hid (toldE a b t = 8) := Lib.hid (by unfold toldE; rw [if_pos he, h8])
    rw [h8] at HC
    clear he h8
    go_enter Tryz.func250, Tryz.ntmps250
    go_wp2_with fail
    refine (HC.out _).mono ?_
    rintro e w1 ⟨rfl, hb1⟩
    go_wp2_with fail
    go_ret
    exact ⟨by rw [HA.out]; rfl, bstep HB0.out hb1⟩
  rw [he] at HC
  by_cases h1 : t ≤ b
  · have HA : Hid (toldE a b t = 8) := Lib.hid (by unfold toldE; rw [if_neg (fun h => h he), if_pos (.inl h1)])
    have t1 : decide (t ≤ b) = true := decide_eq_true h1
    clear he h1
    go_enter Tryz.func250, Tryz.ntmps250
    go_wp2_with fail
    refine (HC.out _).mono ?_
    rintro e w1 ⟨rfl, hb1⟩
    have y1 := (hb1.cell (p := ⟨w.heap.size, 1, none⟩) HL.out).trans x1
    have y2 := (hb1.cell (p := ⟨w.heap.size, 2, none⟩) HL.out).trans x2
    have HB1 := Lib.hid (bstep HB0.out hb1)
    clear hb1 x0 x1 x2
    go_wp2_with fail
    go_ret
    exact ⟨by rw [HA.out]; rfl, HB1.out⟩
  have t1 : decide (t ≤ b) = false := decide_eq_false h1
  obtain ⟨r, hr⟩ : ∃ r, decide (t > 9007199254740991) = r := ⟨_, rfl⟩
  have HA : Hid (toldE a b t = if r = true then 8 else 0) := Lib.hid (by
    unfold toldE
    rw [if_neg (fun h => h he)]
    cases r with
    | true => rw [if_pos (.inr (of_decide_eq_true hr)), if_pos rfl]
    | false => rw [if_neg (fun h => h.elim h1 (of_decide_eq_false hr)), if_neg (by decide)])
  clear he h1
  cases r
  all_goals
    go_enter Tryz.func250, Tryz.ntmps250
    go_wp2_with fail
    refine (HC.out _).mono ?_
    rintro e w1 ⟨rfl, hb1⟩
    have y1 := (hb1.cell (p := ⟨w.heap.size, 1, none⟩) HL.out).trans x1
    have y2 := (hb1.cell (p := ⟨w.heap.size, 2, none⟩) HL.out).trans x2
    have HB1 := Lib.hid (bstep HB0.out hb1)
    clear hb1 x0 x1 x2
    go_wp2_with fail
    go_ret
    exact ⟨by rw [HA.out]; rfl, HB1.out⟩
theorem told_text (a b t : Int) (h : toldE a b t = 0) (X Y : ByteArray) (hX : bs (textR a b) = X) (hY : bs (digL t) = Y) : ((⟨#[98, 121, 116, 101, 115, 32]⟩ ++ X) ++ ⟨#[47]⟩) ++ Y = bs (toldL a b t) := by
  unfold toldL
  rw [if_pos h, ← hX, ← hY, show (⟨#[98, 121, 116, 101, 115, 32]⟩ : ByteArray) = bs tellsL from rfl, show (⟨#[47]⟩ : ByteArray) = bs [47] from rfl, bs_cat, bs_cat, bs_cat]
  simp
set_option maxRecDepth 100000 in
set_option maxHeartbeats 2000000 in
theorem ranges_told (a b t : Int) (w : World) (hE : EnvF w) :
    Calls Tryz.prog 249 #[.agg #[.int .i64 a, .int .i64 b], .int .i64 t] w fun e w' => e = .returned (.tuple #[.string (bs (toldL a b t)), .int .i64 (toldE a b t : Nat)]) ∧ Below w.heap.size w w' := by
  have HW := Lib.hid (fun w => told_wrong a b t w)
  obtain ⟨r0, r1⟩ := box2 w (.int .i64 a) (.int .i64 b) 105
  have HB0 := Lib.hid (below_agg2 w (.int .i64 a) (.int .i64 b) 105)
  by_cases he : toldE a b t = 0
  case neg =>
    have HA : Hid (toldL a b t = []) := Lib.hid (by unfold toldL; rw [if_neg he])
    have tz : ((toldE a b t : Int) != 0) = true := by rw [bne_iff_ne]; omega
    generalize toldE a b t = E at HW tz ⊢
    clear he
    go_enter Tryz.func249, Tryz.ntmps249
    go_wp2_with fail
    refine (HW.out _).mono ?_
    rintro e w1 ⟨rfl, hb1⟩
    have HB1 := Lib.hid (bstep HB0.out (bstep (below_agg3 _ _ _ _ _) hb1))
    clear hb1
    go_wp2_with fail
    go_ret2
    exact ⟨by rw [HA.out]; rfl, HB1.out⟩
  obtain ⟨g1, g2, g3⟩ := toldE_ok a b t he
  obtain ⟨q1, q2, q3⟩ := rErr_ok a b g1
  have HX := Lib.hid (fun w hE => ranges_text a b w hE (by omega) (by omega) (by omega) (by omega))
  have HD := Lib.hid (fun w hE => fields_digits t (by omega) (by omega) w hE)
  have hxl := textR_len a b (by omega) (by omega)
  have hdl := digL_len t (by omega)
  obtain ⟨X, hX⟩ : ∃ X, bs (textR a b) = X := ⟨_, rfl⟩
  obtain ⟨Y, hY⟩ : ∃ Y, bs (digL t) = Y := ⟨_, rfl⟩
  have HR := Lib.hid (told_text a b t he X Y hX hY)
  have hXs : X.size ≤ 41 := by rw [← hX, bs_size]; exact hxl
  have hYs : Y.size ≤ 20 := by rw [← hY, bs_size]; exact hdl
  rw [hX] at HX
  rw [hY] at HD
  have p1 := fun w => run_string_add_sum (P := Tryz.prog) w ⟨#[98, 121, 116, 101, 115, 32]⟩ X (by show 6 + _ ≤ _; omega)
  have p2 := fun w => run_string_add_sum (P := Tryz.prog) w (⟨#[98, 121, 116, 101, 115, 32]⟩ ++ X) ⟨#[47]⟩ (by rw [ByteArray.size_append]; show 6 + _ + 1 ≤ _; omega)
  have p3 := fun w => run_string_add_sum (P := Tryz.prog) w ((⟨#[98, 121, 116, 101, 115, 32]⟩ ++ X) ++ ⟨#[47]⟩) Y (by rw [ByteArray.size_append, ByteArray.size_append]; show 6 + _ + 1 + _ ≤ _; omega)
  rw [he] at HW ⊢
  have HE := Lib.hid hE
  clear he g1 g2 g3 q1 q2 q3 hxl hdl hX hY hE
  go_enter Tryz.func249, Tryz.ntmps249
  go_wp2_with fail
  refine (HW.out _).mono ?_
  rintro e w1 ⟨rfl, hb1⟩
  have hsz : (w.alloc (.cells #[.int .i64 a, .int .i64 b] 105)).heap.size = w.heap.size + 1 := by simp
  obtain ⟨y0, y1, y2⟩ := box3 (w.alloc (.cells #[.int .i64 a, .int .i64 b] 105)) (.int .i64 a) (.int .i64 b) (.int .i64 t) 323
  rw [hsz] at y0 y1 y2
  have hl : w.heap.size + 1 < ((w.alloc (.cells #[.int .i64 a, .int .i64 b] 105)).alloc (.cells #[.int .i64 a, .int .i64 b, .int .i64 t] 323)).heap.size := by simp
  have z0 := (hb1.cell (p := ⟨w.heap.size + 1, 0, none⟩) hl).trans y0
  have z1 := (hb1.cell (p := ⟨w.heap.size + 1, 1, none⟩) hl).trans y1
  have z2 := (hb1.cell (p := ⟨w.heap.size + 1, 2, none⟩) hl).trans y2
  have hbl : w.heap.size + 1 < w1.heap.size := Nat.lt_of_lt_of_le hl hb1.size
  have HB1 := Lib.hid (bstep HB0.out (bstep (below_agg3 _ _ _ _ _) hb1))
  have HE1 := Lib.hid (HE.out.below HB1.out)
  clear hb1 y0 y1 y2 hl hsz r0 r1
  go_wp2_with fail
  have k0 : ∀ p : BelowOf w1, p.world.cell? ⟨w.heap.size + 1, 0, none⟩ = some (.int .i64 a) := fun p => cell_of p hbl z0
  have k1 : ∀ p : BelowOf w1, p.world.cell? ⟨w.heap.size + 1, 1, none⟩ = some (.int .i64 b) := fun p => cell_of p hbl z1
  have k2 : ∀ p : BelowOf w1, p.world.cell? ⟨w.heap.size + 1, 2, none⟩ = some (.int .i64 t) := fun p => cell_of p hbl z2
  clear z0 z1 z2
  refine wp_region_quiet_below (by kernel_rfl) (by kernel_rfl) ?_
  repeat (go_big_quiet_step (fail))
  go_big_quiet_step ((go_at_call 245; exact below_of (HX.out _ (HE1.out.below (BelowOf.below _)))))
  repeat (go_big_quiet_step (fail))
  go_big_quiet_step ((go_at_call 83; exact below_of (HD.out _ (HE1.out.below (BelowOf.below _)))))
  repeat (go_big_quiet_step (fail))
  refine wpQuiet_nil ?_
  intro W1 hw'
  have hb2 := of_class hw'
  clear hw'
  go_wp2_with fail
  go_ret2
  exact ⟨by rw [← HR.out]; rfl, bstep HB1.out hb2⟩
theorem told_text2 (a b t : Int) (h : toldE a b t = 0) (X Y Z : ByteArray) (hX : bs (digL a) = X) (hY : bs (digL b) = Y) (hZ : bs (digL t) = Z) : ((((⟨#[98, 121, 116, 101, 115, 32]⟩ ++ X) ++ ⟨#[45]⟩) ++ Y) ++ ⟨#[47]⟩) ++ Z = bs (toldL a b t) := by
  unfold toldL textR
  rw [if_pos h, ← hX, ← hY, ← hZ, show (⟨#[98, 121, 116, 101, 115, 32]⟩ : ByteArray) = bs tellsL from rfl, show (⟨#[47]⟩ : ByteArray) = bs [47] from rfl, show (⟨#[45]⟩ : ByteArray) = bs [45] from rfl, bs_cat, bs_cat, bs_cat, bs_cat, bs_cat]
  simp
end Go.Proofs.YtgnkmfjleecmfaaGreatDoor
namespace Go.Proofs.YtgnkmfjleecmfaaGreatDoor
open Go.RowKit
theorem below_o3 (w : World) (x y z : Value) : Below w.heap.size w (w.alloc (.cells #[x, y, z] 49)) := (Below.refl _ _).alloc (Nat.le_refl _) _
set_option maxRecDepth 100000 in
set_option maxHeartbeats 1000000 in
theorem origin_check (h p f : ByteArray) (w : World) :
    Calls Tryz.prog 47 #[.agg #[.string h, .string p, .string f]] w fun e w' => e = .returned (.int .i64 (orgE h.data.toList p.data.toList : Nat)) ∧ Below w.heap.size w w' := by
  have HC := Lib.hid (fun w => asking_check p h 0 0 w)
  rw [orgE_asks] at HC
  generalize orgE h.data.toList p.data.toList = E at HC ⊢
  obtain ⟨x0, x1, x2⟩ := box3 w (.string h) (.string p) (.string f) 49
  have HB0 := Lib.hid (below_o3 w (.string h) (.string p) (.string f))
  go_enter Tryz.func47, Tryz.ntmps47
  go_wp2_with fail
  refine (HC.out _).mono ?_
  rintro e w1 ⟨rfl, hb1⟩
  go_wp2_with fail
  go_ret
  exact ⟨rfl, bstep HB0.out hb1⟩
/-- a code's reply, without fields and body -/
theorem refusal_reply (c : Int) (w : World) :
    Calls Tryz.prog 247 #[.int .i64 c] w fun e w' => e = .returned (.agg #[.int .i64 c, .slice none 0 0, .string ⟨#[]⟩]) ∧ Below w.heap.size w w' := by
  obtain ⟨k0, k1, k2, f0, f1, f2⟩ := three_facts (heap_alloc_new w (.cells #[.int .i64 0, .slice none 0 0, .string ⟨#[]⟩] 63))
  go_enter Tryz.func247, Tryz.ntmps247
  go_wp2_with fail
  refine ret_cell (A := ⟨w.heap.size, 0, none⟩) rfl (load_rep _ _ _ _ _ _ (heap_alloc_new w _)) rfl rfl ?_
  exact ⟨rfl, below_agg3 _ _ _ _ _⟩
/-- a block of one field is a row of it -/
theorem own_one (w : World) (x y : Value) (T : TypeId) : (w.alloc (.cells #[x, y] T)).ownsRow w.heap.size T 2 (.slice (some ⟨w.heap.size, 0, none⟩) 1 1) 1 [x, y] :=
  ⟨rfl, .inr ⟨w.heap.size, 1, #[x, y], rfl, Nat.le_refl _, heap_alloc_new w _, Nat.le_refl _, by unfold maxLen; decide, rfl, rfl⟩⟩
theorem own_one_at (w : World) (g : Nat) (hg : g = w.heap.size) (x y : Value) (T : TypeId) : (w.alloc (.cells #[x, y] T)).ownsRow 0 T 2 (.slice (some ⟨g, 0, none⟩) 1 1) 1 [x, y] := by
  subst hg
  exact own_lowerF (own_one w x y T) (Nat.zero_le _)
/-- what a reply's making hands over -/
def PartPost (c : Int) (fs : List (List UInt8 × List UInt8)) (x : ByteArray) (T : TypeId) (w : World) (e : Ending) (w' : World) : Prop :=
  ∃ a cp, e = .returned (.agg #[.int .i64 c, .slice a fs.length cp, .string x]) ∧ (∃ B, w'.ownsRow B T 2 (.slice a fs.length cp) fs.length (fcells fs)) ∧ Below w.heap.size w w'
set_option maxRecDepth 100000 in
set_option maxHeartbeats 2000000 in
theorem part_reply (a b : Int) (f : ByteArray) (w : World) (hE : EnvF w) (h0 : 0 ≤ a) (h1 : a ≤ b) (h2 : b < (f.size : Int)) (hf : f.size ≤ 1000000) :
    Calls Tryz.prog 248 #[.agg #[.int .i64 a, .int .i64 b, .string f]] w (PartPost 206 [(crangeK, toldL a b (f.size : Int))] (f.extract a.toNat (b + 1).toNat) 149 w) := by
  have HT := Lib.hid (fun w hE => ranges_told a b (f.size : Int) w hE)
  obtain ⟨V, hV⟩ : ∃ V, bs (toldL a b (f.size : Int)) = V := ⟨_, rfl⟩
  rw [hV] at HT
  have HV := Lib.hid hV
  generalize toldE a b (f.size : Int) = E at HT
  obtain ⟨x0, x1, x2⟩ := box3 w (.int .i64 a) (.int .i64 b) (.string f) 158
  have hB0 := below_agg3 w (.int .i64 a) (.int .i64 b) (.string f) 158
  have hB1 := bstep hB0 (below_agg3 _ (.int .i64 0) (.slice none 0 0) (.string ⟨#[]⟩) 63)
  have hsz : ((w.alloc (.cells #[.int .i64 a, .int .i64 b, .string f] 158)).alloc (.cells #[.int .i64 0, .slice none 0 0, .string ⟨#[]⟩] 63)).heap.size = w.heap.size + 1 + 1 := by simp
  have hk0 := heap_alloc2_new w (.cells #[.int .i64 a, .int .i64 b, .string f] 158) (.cells #[.int .i64 0, .slice none 0 0, .string ⟨#[]⟩] 63)
  have hp0 := ((below_agg3 (w.alloc (.cells #[.int .i64 a, .int .i64 b, .string f] 158)) (.int .i64 0) (.slice none 0 0) (.string ⟨#[]⟩) 63).block w.heap.size (by simp)).trans (heap_alloc_new w _)
  have HB1 := Lib.hid hB1
  have HE1 := Lib.hid (hE.below hB1)
  have HK0 := Lib.hid hk0
  have HP0 := Lib.hid hp0
  have HSZ := Lib.hid hsz
  clear hB0 hB1 hk0 hp0 hsz x0 x1 x2 hE hV
  go_enter Tryz.func248, Tryz.ntmps248
  go_wp2_with fail
  generalize ((w.alloc (.cells #[.int .i64 a, .int .i64 b, .string f] 158)).alloc (.cells #[.int .i64 0, .slice none 0 0, .string ⟨#[]⟩] 63)) = W0 at HB1 HE1 HK0 HP0 HSZ ⊢
  obtain ⟨p0, p1, p2, -, -, -⟩ := three_facts HP0.out
  go_wp2_with fail
  refine (HT.out _ HE1.out).mono ?_
  rintro e w1 ⟨rfl, hb1⟩
  have hp1 := (hb1.block w.heap.size (by have := HSZ.out; omega)).trans HP0.out
  have hk1 := (hb1.block (w.heap.size + 1) (by have := HSZ.out; omega)).trans HK0.out
  clear p0 p1 p2
  obtain ⟨p0, p1, p2, -, -, -⟩ := three_facts hp1
  obtain ⟨k0, k1, k2, f0, f1, f2⟩ := three_facts hk1
  have HK1 := Lib.hid hk1
  have HB2 := Lib.hid (bstep HB1.out hb1)
  have hs1 : w.heap.size + 1 < w1.heap.size := by have := hb1.size; have := HSZ.out; omega
  have hs2 : w.heap.size < w1.heap.size := by omega
  clear hp1 hk1 hb1 HT HE1
  go_wp2_with fail
  refine ret_cell (A := ⟨w.heap.size + 1, 0, none⟩) rfl (load_rep _ _ _ _ _ _ ((heap_alloc_old _ _ (by simp; omega)).trans (three_set HK1.out _ _ _))) rfl rfl ?_
  refine ⟨_, _, rfl, ⟨0, ?_⟩, ?_⟩
  · have := own_one_at (((w1.setCell ⟨w.heap.size + 1, 0, none⟩ (.int .i64 206)).setCell ⟨w.heap.size + 1, 1, none⟩ (.slice (some ⟨w1.heap.size, 0, none⟩) 1 1)).setCell ⟨w.heap.size + 1, 2, none⟩ (.string (f.extract a.toNat (b + 1).toNat))) w1.heap.size (by simp) (.string (bs crangeK)) (.string (bs (toldL a b (f.size : Int)))) 149
    rw [HV.out] at this
    have e : fcells [(crangeK, toldL a b (f.size : Int))] = [.string (bs crangeK), .string V] := by rw [← HV.out]; rfl
    rw [e]
    exact this
  · exact (three_below HB2.out _ (by omega) _ _ _).alloc (by have := HB2.out.size; simp; omega) _
/-- the sort of answer, as an interface's value -/
def sortV (h p f s : ByteArray) : Value := if orgC h.data.toList p.data.toList f.data.toList s = 206 then .iface 158 (.agg #[.int .i64 (orgA f.data.toList s), .int .i64 (orgB f.data.toList s), .string f]) else .iface 154 (.int .i64 (orgC h.data.toList p.data.toList f.data.toList s))
set_option maxRecDepth 100000 in
set_option maxHeartbeats 4000000 in
theorem origin_sort (h p f s : ByteArray) (w : World) (hE : EnvF w) (hs : s.size ≤ 1000000) (hf : f.size ≤ 1000000) :
    Calls Tryz.prog 51 #[.agg #[.string h, .string p, .string f], .string s] w fun e w' => e = .returned (sortV h p f s) ∧ Below w.heap.size w w' := by
  have HA := Lib.hid (fun w hE => asking_parse s w hs hE)
  have hB0 := below_o3 w (.string h) (.string p) (.string f)
  have HE0 := Lib.hid (hE.below hB0)
  have HB0 := Lib.hid hB0
  have HP0 := Lib.hid (heap_alloc_new w (.cells #[.string h, .string p, .string f] 49))
  have hsz : (w.alloc (.cells #[.string h, .string p, .string f] 49)).heap.size = w.heap.size + 1 := by simp
  have HSZ := Lib.hid hsz
  unfold askV at HA
  have hn0 : askE s ≠ 0 → askN s = 0 := fun hh => (ask_bad s hh).2.2.2.2
  have hnb : askE s = 0 → 0 < askN s ∧ askN s ≤ (s.size : Int) := fun hh => let ⟨_, h1, h2, _⟩ := ask_again s hh; ⟨h1, h2⟩
  obtain ⟨P, hP⟩ : ∃ P, bs (askPath s) = P := ⟨_, rfl⟩
  obtain ⟨Q, hQ⟩ : ∃ Q, bs (askHost s) = Q := ⟨_, rfl⟩
  obtain ⟨a, ha⟩ : ∃ a, askA s = a := ⟨_, rfl⟩
  obtain ⟨b, hb⟩ : ∃ b, askB s = b := ⟨_, rfl⟩
  obtain ⟨n, hn⟩ : ∃ n, askN s = n := ⟨_, rfl⟩
  obtain ⟨E, hE1⟩ : ∃ E, askE s = E := ⟨_, rfl⟩
  have hPd : askPath s = P.data.toList := by rw [← hP, bs_data]
  have hQd : askHost s = Q.data.toList := by rw [← hQ, bs_data]
  obtain ⟨C, hC⟩ : ∃ C, orgC h.data.toList p.data.toList f.data.toList s = C := ⟨_, rfl⟩
  have hCC : C = if E ≠ 0 ∨ n < (s.size : Int) then 400 else if P.data.toList ≠ p.data.toList ∨ Q.data.toList ≠ h.data.toList then 404 else if clipE a b (f.size : Int) ≠ 0 then 416 else 206 := by
    rw [← hC]; unfold orgC; rw [hE1, hn, hPd, hQd, ha, hb, size_len]
  have hV : sortV h p f s = if C = 206 then .iface 158 (.agg #[.int .i64 (clipA a b (f.size : Int)), .int .i64 (clipB a b (f.size : Int)), .string f]) else .iface 154 (.int .i64 C) := by
    unfold sortV orgA orgB; rw [hC, ha, hb, size_len]
  obtain ⟨V, hVV⟩ : ∃ V, sortV h p f s = V := ⟨_, rfl⟩
  rw [hVV] at hV ⊢
  have HV := Lib.hid hV
  rw [hP, hQ, ha, hb, hn, hE1] at HA
  have HCC := Lib.hid hCC
  clear hE hP hQ hPd hQd hC hCC hV hVV hB0 hsz hn0 hnb
  by_cases h1 : E = 0
  case neg =>
    have HR : Hid (C = 400) := Lib.hid (by rw [HCC.out, if_pos (.inl h1)])
    have tz : ((E : Int) != 0) = true := by rw [bne_iff_ne]; omega
    clear h1 hE1 hn ha hb
    go_enter Tryz.func51, Tryz.ntmps51
    go_wp2_with fail
    refine (HA.out _ HE0.out).mono ?_
    rintro e w1 ⟨rfl, hb1⟩
    have hp1 := (hb1.block w.heap.size (by have := HSZ.out; omega)).trans HP0.out
    have HB1 := Lib.hid (bstep HB0.out hb1)
    have hs1 : w.heap.size < w1.heap.size := by have := hb1.size; have := HSZ.out; omega
    obtain ⟨o0, o1, o2, -, -, -⟩ := three_facts hp1
    obtain ⟨q0, q1, q2, q3⟩ := box4 w1 (.string P) (.string Q) (.int .i64 a) (.int .i64 b) 107
    clear hp1 hb1 HE0 HP0
    go_wp2_with fail
    go_ret
    exact ⟨by rw [HV.out, HR.out]; rfl, HB1.out.alloc HB1.out.size _⟩
  subst h1
  by_cases h2 : n < (s.size : Int)
  · have HR : Hid (C = 400) := Lib.hid (by rw [HCC.out, if_pos (.inr h2)])
    have t2 : decide (n < (s.size : Int)) = true := decide_eq_true h2
    clear h2 hE1 hn ha hb
    go_enter Tryz.func51, Tryz.ntmps51
    go_wp2_with fail
    refine (HA.out _ HE0.out).mono ?_
    rintro e w1 ⟨rfl, hb1⟩
    have hp1 := (hb1.block w.heap.size (by have := HSZ.out; omega)).trans HP0.out
    have HB1 := Lib.hid (bstep HB0.out hb1)
    have hs1 : w.heap.size < w1.heap.size := by have := hb1.size; have := HSZ.out; omega
    obtain ⟨o0, o1, o2, -, -, -⟩ := three_facts hp1
    obtain ⟨q0, q1, q2, q3⟩ := box4 w1 (.string P) (.string Q) (.int .i64 a) (.int .i64 b) 107
    clear hp1 hb1 HE0 HP0
    go_wp2_with fail
    go_ret
    exact ⟨by rw [HV.out, HR.out]; rfl, HB1.out.alloc HB1.out.size _⟩
  have t2 : decide (n < (s.size : Int)) = false := decide_eq_false h2
  by_cases h3 : P.data.toList = p.data.toList
  case neg =>
    have HR : Hid (C = 404) := Lib.hid (by rw [HCC.out, if_neg (fun e => e.elim (fun e => e rfl) h2), if_pos (.inl h3)])
    have t3 : ¬ P.toList = p.toList := by rw [ByteArray.toList_eq, ByteArray.toList_eq]; exact h3
    clear h2 h3 hE1 hn ha hb
    go_enter Tryz.func51, Tryz.ntmps51
    go_wp2_with fail
    refine (HA.out _ HE0.out).mono ?_
    rintro e w1 ⟨rfl, hb1⟩
    have hp1 := (hb1.block w.heap.size (by have := HSZ.out; omega)).trans HP0.out
    have HB1 := Lib.hid (bstep HB0.out hb1)
    have hs1 : w.heap.size < w1.heap.size := by have := hb1.size; have := HSZ.out; omega
    obtain ⟨o0, o1, o2, -, -, -⟩ := three_facts hp1
    obtain ⟨q0, q1, q2, q3⟩ := box4 w1 (.string P) (.string Q) (.int .i64 a) (.int .i64 b) 107
    clear hp1 hb1 HE0 HP0
    go_wp2_with fail
    go_ret
    exact ⟨by rw [HV.out, HR.out]; rfl, HB1.out.alloc HB1.out.size _⟩
  have t3 : P.toList = p.toList := by rw [ByteArray.toList_eq, ByteArray.toList_eq]; exact h3
  by_cases h4 : Q.data.toList = h.data.toList
  case neg =>
    have HR : Hid (C = 404) := Lib.hid (by rw [HCC.out, if_neg (fun e => e.elim (fun e => e rfl) h2), if_pos (.inr h4)])
    have t4 : ¬ Q.toList = h.toList := by rw [ByteArray.toList_eq, ByteArray.toList_eq]; exact h4
    have t4b : (Q.toList == h.toList) = false := by rw [beq_eq_false_iff_ne]; exact t4
    clear h2 h3 h4 hE1 hn ha hb
    go_enter Tryz.func51, Tryz.ntmps51
    go_wp2_with fail
    refine (HA.out _ HE0.out).mono ?_
    rintro e w1 ⟨rfl, hb1⟩
    have hp1 := (hb1.block w.heap.size (by have := HSZ.out; omega)).trans HP0.out
    have HB1 := Lib.hid (bstep HB0.out hb1)
    have hs1 : w.heap.size < w1.heap.size := by have := hb1.size; have := HSZ.out; omega
    obtain ⟨o0, o1, o2, -, -, -⟩ := three_facts hp1
    obtain ⟨q0, q1, q2, q3⟩ := box4 w1 (.string P) (.string Q) (.int .i64 a) (.int .i64 b) 107
    clear hp1 hb1 HE0 HP0
    go_wp2_with fail
    go_ret
    exact ⟨by rw [HV.out, HR.out]; rfl, HB1.out.alloc HB1.out.size _⟩
  have t4 : Q.toList = h.toList := by rw [ByteArray.toList_eq, ByteArray.toList_eq]; exact h4
  have HCl := Lib.hid (fun w => ranges_clip a b (f.size : Int) w (by omega) (by omega))
  obtain ⟨K, hK⟩ : ∃ K, clipE a b (f.size : Int) = K := ⟨_, rfl⟩
  have HCK : Hid (C = if K ≠ 0 then 416 else 206) := Lib.hid (by
    rw [HCC.out, if_neg (fun e => e.elim (fun e => e rfl) h2), if_neg (fun e => e.elim (fun e => e h3) (fun e => e h4)), hK])
  rw [hK] at HCl
  generalize clipA a b (f.size : Int) = A at HCl HV
  generalize clipB a b (f.size : Int) = B at HCl HV
  by_cases h5 : K = 0
  case neg =>
    have HR : Hid (C = 416) := Lib.hid (by rw [HCK.out, if_pos h5])
    have tz : ((K : Int) != 0) = true := by rw [bne_iff_ne]; omega
    clear h2 h3 h4 h5 hK hE1 hn ha hb
    go_enter Tryz.func51, Tryz.ntmps51
    go_wp2_with fail
    refine (HA.out _ HE0.out).mono ?_
    rintro e w1 ⟨rfl, hb1⟩
    have hp1 := (hb1.block w.heap.size (by have := HSZ.out; omega)).trans HP0.out
    have HB1 := Lib.hid (bstep HB0.out hb1)
    have hs1 : w.heap.size < w1.heap.size := by have := hb1.size; have := HSZ.out; omega
    obtain ⟨o0, o1, o2, -, -, -⟩ := three_facts hp1
    obtain ⟨q0, q1, q2, q3⟩ := box4 w1 (.string P) (.string Q) (.int .i64 a) (.int .i64 b) 107
    clear hp1 hb1 HE0 HP0
    go_wp2_with fail
    refine (HCl.out _).mono ?_
    rintro e w2 ⟨rfl, hb2⟩
    have HB2 := Lib.hid (bstep HB1.out (bstep (below_agg4 _ _ _ _ _ _) hb2))
    clear hb2
    go_wp2_with fail
    go_ret
    exact ⟨by rw [HV.out, HR.out]; rfl, HB2.out.alloc HB2.out.size _⟩
  subst h5
  have HR : Hid (C = 206) := Lib.hid (by rw [HCK.out, if_neg (fun e => e rfl)])
  clear h2 h3 h4 hK hE1 hn ha hb
  go_enter Tryz.func51, Tryz.ntmps51
  go_wp2_with fail
  refine (HA.out _ HE0.out).mono ?_
  rintro e w1 ⟨rfl, hb1⟩
  have hp1 := (hb1.block w.heap.size (by have := HSZ.out; omega)).trans HP0.out
  have HB1 := Lib.hid (bstep HB0.out hb1)
  have hs1 : w.heap.size < w1.heap.size := by have := hb1.size; have := HSZ.out; omega
  obtain ⟨o0, o1, o2, -, -, -⟩ := three_facts hp1
  obtain ⟨q0, q1, q2, q3⟩ := box4 w1 (.string P) (.string Q) (.int .i64 a) (.int .i64 b) 107
  clear hp1 hb1 HE0 HP0
  go_wp2_with fail
  refine (HCl.out _).mono ?_
  rintro e w2 ⟨rfl, hb2⟩
  have hx : w.heap.size < (w1.alloc (.cells #[.string P, .string Q, .int .i64 a, .int .i64 b] 107)).heap.size := by simp; omega
  have o2' := (hb2.cell (p := ⟨w.heap.size, 2, none⟩) hx).trans (((below_agg4 w1 (.string P) (.string Q) (.int .i64 a) (.int .i64 b) 107).cell (p := ⟨w.heap.size, 2, none⟩) hs1).trans o2)
  have HB2 := Lib.hid (bstep HB1.out (bstep (below_agg4 _ _ _ _ _ _) hb2))
  have hs2 : w.heap.size < w2.heap.size := Nat.lt_of_lt_of_le hx hb2.size
  obtain ⟨k0, k1⟩ := box2 w2 (.int .i64 A) (.int .i64 B) 105
  clear hb2 hx o0 o1 o2 q0 q1 q2 q3
  go_wp2_with fail
  go_ret
  exact ⟨by rw [HV.out, HR.out]; rfl, HB2.out.alloc HB2.out.size _⟩
end Go.Proofs.YtgnkmfjleecmfaaGreatDoor
namespace Go.Proofs.YtgnkmfjleecmfaaGreatDoor
open Go.RowKit
/-- what is answered with bytes -/
theorem org_part (h p f : List UInt8) (s : ByteArray) (hc : orgC h p f s = 206) (hf : f.length ≤ 1000000) : 0 ≤ orgA f s ∧ orgA f s ≤ orgB f s ∧ orgB f s < (f.length : Int) ∧ orgF h p f s = [(crangeK, toldL (orgA f s) (orgB f s) (f.length : Int))] ∧ orgY h p f s = (f.take (orgB f s + 1).toNat).drop (orgA f s).toNat := by
  obtain ⟨-, -, -, -, h5⟩ := orgC_206 h p f s hc
  obtain ⟨q1, q2, q3, q4⟩ := clip_ok _ _ _ h5
  obtain ⟨r1, r2, r3⟩ := rErr_ok _ _ q1
  unfold orgA orgB orgF orgY
  rw [q3, q4, if_pos hc, if_pos hc]
  unfold orgA orgB
  rw [q3, q4]
  refine ⟨r1, ?_, ?_, rfl, rfl⟩ <;> split <;> omega
theorem meth_refusal (v : Value) (w : World) : (Go.method 454 154 v "gazetteer/origin.reply").run Tryz.prog w = .ok (247, v) w := by kernel_rfl
theorem meth_part (v : Value) (w : World) : (Go.method 454 158 v "gazetteer/origin.reply").run Tryz.prog w = .ok (248, v) w := by kernel_rfl
theorem field_code (c : Int) (y z : Value) (w : World) : (Instr.field 63 (.agg #[.int .i64 c, y, z]) 0).run Tryz.prog w = .ok (.int .i64 c) w := by kernel_rfl
set_option maxRecDepth 100000 in
set_option maxHeartbeats 4000000 in
theorem origin_answer (h p f s : ByteArray) (w : World) (hE : EnvF w) (hs : s.size ≤ 1000000) (hf : f.size ≤ 1000000) :
    Calls Tryz.prog 24 #[.agg #[.string h, .string p, .string f], .string s] w fun e w' => e = .returned (.string (bs (orgS h.data.toList p.data.toList f.data.toList s))) ∧ Below w.heap.size w w' := by
  have HC := Lib.hid (fun w => origin_check h p f w)
  have HS := Lib.hid (fun w hE => origin_sort h p f s w hE hs hf)
  have hB0 := below_o3 w (.string h) (.string p) (.string f)
  have HE0 := Lib.hid (hE.below hB0)
  have HB0 := Lib.hid hB0
  have HP0 := Lib.hid (heap_alloc_new w (.cells #[.string h, .string p, .string f] 49))
  have hsz : (w.alloc (.cells #[.string h, .string p, .string f] 49)).heap.size = w.heap.size + 1 := by simp
  have HSZ := Lib.hid hsz
  obtain ⟨o0, o1, o2, -, -, -⟩ := three_facts HP0.out
  clear hE hB0 hsz
  by_cases he : orgE h.data.toList p.data.toList = 0
  case neg =>
    have HR : Hid (orgS h.data.toList p.data.toList f.data.toList s = []) := Lib.hid (by unfold orgS; rw [if_neg he])
    have tz : ((orgE h.data.toList p.data.toList : Int) != 0) = true := by rw [bne_iff_ne]; omega
    generalize orgE h.data.toList p.data.toList = E at HC tz
    clear he
    go_enter Tryz.func24, Tryz.ntmps24
    go_wp2_with fail
    refine (HC.out _).mono ?_
    rintro e w1 ⟨rfl, hb1⟩
    go_wp2_with fail
    go_ret
    exact ⟨by rw [HR.out]; rfl, bstep HB0.out hb1⟩
  rw [he] at HC
  by_cases hc : orgC h.data.toList p.data.toList f.data.toList s = 206
  · have hV : sortV h p f s = .iface 158 (.agg #[.int .i64 (orgA f.data.toList s), .int .i64 (orgB f.data.toList s), .string f]) := if_pos hc
    rw [hV] at HS
    obtain ⟨g1, g2, g3, g4, g5⟩ := org_part h.data.toList p.data.toList f.data.toList s hc (by rw [size_len]; exact hf)
    have HR : Hid (orgS h.data.toList p.data.toList f.data.toList s = repS 206 (orgF h.data.toList p.data.toList f.data.toList s) (orgY h.data.toList p.data.toList f.data.toList s)) := Lib.hid (by unfold orgS; rw [if_pos he, hc])
    rw [size_len] at g3 g4
    have hex : bs (orgY h.data.toList p.data.toList f.data.toList s) = f.extract (orgA f.data.toList s).toNat (orgB f.data.toList s + 1).toNat := by rw [extract_bs, g5]
    have hYl := orgY_len h.data.toList p.data.toList f.data.toList s
    rw [size_len] at hYl
    generalize orgY h.data.toList p.data.toList f.data.toList s = Y at HR g5 hex hYl
    have HPa := Lib.hid (fun W hE => part_reply (orgA f.data.toList s) (orgB f.data.toList s) f W hE g1 g2 g3 hf)
    rw [← g4, ← hex] at HPa
    have hFb : ∀ x ∈ orgF h.data.toList p.data.toList f.data.toList s, x.1.length ≤ 1000000 ∧ x.2.length ≤ 1000000 := by
      rw [g4]
      intro x hx
      obtain rfl := List.mem_singleton.1 hx
      exact ⟨by show crangeK.length ≤ 1000000; decide, Nat.le_trans (toldL_len _ _ _) (by decide)⟩
    have hFl : (orgF h.data.toList p.data.toList f.data.toList s).length ≤ 1000000 := by rw [g4]; show 1 ≤ 1000000; decide
    generalize orgF h.data.toList p.data.toList f.data.toList s = F at HR HPa g4 hFb hFl
    generalize orgA f.data.toList s = A at HS HPa
    generalize orgB f.data.toList s = B at HS HPa
    have HPr := Lib.hid (fun W fv BB hE hO => reply_print 206 fv F (bs Y) BB W hE (by decide) (by decide) hO hFl hFb (by rw [bs_size]; omega))
    rw [bs_data] at HPr
    unfold RPost at HPr
    unfold PartPost at HPa
    generalize bs Y = YB at HPa HPr
    have hm := meth_part
    clear hV hc he g1 g2 g3 g4 g5 hex hYl hFb hFl
    go_enter Tryz.func24, Tryz.ntmps24
    go_wp2_with fail
    refine (HC.out _).mono ?_
    rintro e w1 ⟨rfl, hb1⟩
    have hp1 := (hb1.block w.heap.size (by have := HSZ.out; omega)).trans HP0.out
    have HB1 := Lib.hid (bstep HB0.out hb1)
    have HE1 := Lib.hid (HE0.out.below hb1)
    clear hb1 o0 o1 o2
    obtain ⟨o0, o1, o2, -, -, -⟩ := three_facts hp1
    clear hp1
    go_wp2_with fail
    refine (HS.out _ HE1.out).mono ?_
    rintro e w2 ⟨rfl, hb2⟩
    have HB2 := Lib.hid (bstep HB1.out hb2)
    have HE2 := Lib.hid (HE1.out.below hb2)
    clear hb2 o0 o1 o2
    go_wp2_with fail
    refine (HPa.out _ HE2.out).mono ?_
    rintro e w3 ⟨a3, c3, rfl, ⟨BB, hO⟩, hb3⟩
    have HB3 := Lib.hid (bstep HB2.out hb3)
    have HE3 := Lib.hid (HE2.out.below hb3)
    have HO := Lib.hid hO
    clear hb3 hO
    go_wp2_with fail
    refine (HPr.out _ _ _ HE3.out HO.out).mono ?_
    rintro e w4 ⟨rfl, hb4⟩
    go_wp2_with fail
    go_ret
    exact ⟨by rw [HR.out]; rfl, bstep HB3.out hb4⟩
  · have hV : sortV h p f s = .iface 154 (.int .i64 (orgC h.data.toList p.data.toList f.data.toList s)) := if_neg hc
    rw [hV] at HS
    obtain ⟨e1, e2⟩ := orgF_other h.data.toList p.data.toList f.data.toList s hc
    have HR : Hid (orgS h.data.toList p.data.toList f.data.toList s = repS (orgC h.data.toList p.data.toList f.data.toList s) [] []) := Lib.hid (by unfold orgS; rw [if_pos he, e1, e2])
    have hc4 := orgC_four h.data.toList p.data.toList f.data.toList s
    generalize orgC h.data.toList p.data.toList f.data.toList s = C at HS HR hc hc4
    have HPr := Lib.hid (fun W hE => reply_print C (.slice none 0 0) [] ⟨#[]⟩ 0 W hE (by omega) (by omega) (nil_own W) (by decide) (fun f hf => by simp at hf) (by decide))
    have HRe := Lib.hid (fun W => refusal_reply C W)
    have hm := meth_refusal
    unfold RPost at HPr
    clear hV e1 e2 hc hc4 he
    go_enter Tryz.func24, Tryz.ntmps24
    go_wp2_with fail
    refine (HC.out _).mono ?_
    rintro e w1 ⟨rfl, hb1⟩
    have hp1 := (hb1.block w.heap.size (by have := HSZ.out; omega)).trans HP0.out
    have HB1 := Lib.hid (bstep HB0.out hb1)
    have HE1 := Lib.hid (HE0.out.below hb1)
    clear hb1 o0 o1 o2
    obtain ⟨o0, o1, o2, -, -, -⟩ := three_facts hp1
    clear hp1
    go_wp2_with fail
    refine (HS.out _ HE1.out).mono ?_
    rintro e w2 ⟨rfl, hb2⟩
    have HB2 := Lib.hid (bstep HB1.out hb2)
    have HE2 := Lib.hid (HE1.out.below hb2)
    clear hb2 o0 o1 o2
    go_wp2_with fail
    refine (HRe.out _).mono ?_
    rintro e w3 ⟨rfl, hb3⟩
    have HB3 := Lib.hid (bstep HB2.out hb3)
    have HE3 := Lib.hid (HE2.out.below hb3)
    clear hb3
    go_wp2_with fail
    refine (HPr.out _ HE3.out).mono ?_
    rintro e w4 ⟨rfl, hb4⟩
    go_wp2_with fail
    go_ret
    exact ⟨by rw [HR.out]; rfl, bstep HB3.out hb4⟩
end Go.Proofs.YtgnkmfjleecmfaaGreatDoor
namespace Go.Proofs.YtgnkmfjleecmfaaGreatDoor
open Go.RowKit
theorem below_ro3 (w : World) (x y z : Value) : Below w.heap.size w (w.alloc (.cells #[x, y, z] 45)) := (Below.refl _ _).alloc (Nat.le_refl _) _
def overO (h p f : List UInt8) (most : Int) : Bool := decide (300 < h.length) || decide (300 < p.length) || decide (most < (f.length : Int))
set_option maxRecDepth 100000 in
set_option maxHeartbeats 1000000 in
theorem ref_oover (h p f : ByteArray) (m : Int) (w : World) :
    Calls Tryz.prog 20 #[.agg #[.string h, .string p, .string f], .int .i64 m] w fun e w' => e = .returned (.bool (overO h.data.toList p.data.toList f.data.toList m)) ∧ Below w.heap.size w w' := by
  obtain ⟨x0, x1, x2⟩ := box3 w (.string h) (.string p) (.string f) 45
  have HB0 := Lib.hid (below_ro3 w (.string h) (.string p) (.string f))
  obtain ⟨A, hA⟩ : ∃ A, decide (300 < h.size) = A := ⟨_, rfl⟩
  obtain ⟨B, hB⟩ : ∃ B, decide (300 < p.size) = B := ⟨_, rfl⟩
  obtain ⟨C, hC⟩ : ∃ C, decide (m < (f.size : Int)) = C := ⟨_, rfl⟩
  have HR : Hid (overO h.data.toList p.data.toList f.data.toList m = (A || B || C)) := Lib.hid (by unfold overO; rw [size_len, size_len, size_len, hA, hB, hC])
  have tA : decide ((h.size : Int) > 300) = A := by rw [← hA]; exact decide_eq_decide.2 (by omega)
  have tB : decide ((p.size : Int) > 300) = B := by rw [← hB]; exact decide_eq_decide.2 (by omega)
  have tC : decide ((f.size : Int) > m) = C := hC
  clear hA hB hC
  cases A
  · cases B
    all_goals
      go_enter Tryz.func20, Tryz.ntmps20
      go_wp2_with fail
      go_ret
      exact ⟨by rw [HR.out]; rfl, HB0.out⟩
  · go_enter Tryz.func20, Tryz.ntmps20
    go_wp2_with fail
    go_ret
    exact ⟨by rw [HR.out]; rfl, HB0.out⟩
theorem field_rcode (c : Int) (y z : Value) (w : World) : (Instr.field 35 (.agg #[.int .i64 c, y, z]) 0).run Tryz.prog w = .ok (.int .i64 c) w := by kernel_rfl
end Go.Proofs.YtgnkmfjleecmfaaGreatDoor
namespace Go.Proofs.YtgnkmfjleecmfaaGreatDoor
open Go.RowKit
def a27 : List UInt8 := [72, 84, 84, 80, 47, 49, 46, 49, 32, 50, 48, 54, 32, 80, 97, 114, 116, 105, 97, 108, 32, 67, 111, 110, 116, 101, 110, 116, 13, 10, 67, 111, 110, 116, 101, 110, 116, 45, 76, 101, 110, 103, 116, 104, 58, 32, 50, 13, 10, 67, 111, 110, 116, 101, 110, 116, 45, 82, 97, 110, 103, 101, 58, 32, 98, 121, 116, 101, 115, 32, 49, 45, 50, 47, 51, 13, 10, 13, 10, 98, 99]
def q27 : ByteArray := ⟨#[71, 69, 84, 32, 47, 102, 32, 72, 84, 84, 80, 47, 49, 46, 49, 13, 10, 72, 111, 115, 116, 58, 32, 104, 13, 10, 82, 97, 110, 103, 101, 58, 32, 98, 121, 116, 101, 115, 61, 49, 45, 57, 13, 10, 13, 10]⟩
def r27 : ByteArray := ⟨#[71, 69, 84, 32, 47, 103, 32, 72, 84, 84, 80, 47, 49, 46, 49, 13, 10, 72, 111, 115, 116, 58, 32, 104, 13, 10, 82, 97, 110, 103, 101, 58, 32, 98, 121, 116, 101, 115, 61, 49, 45, 57, 13, 10, 13, 10]⟩
set_option maxRecDepth 100000 in
theorem aw27_c : orgE [104] [47, 102] = 0 ∧ orgC [104] [47, 102] [97, 98, 99] q27 = 206 ∧ orgA [97, 98, 99] q27 = 1 ∧ orgB [97, 98, 99] q27 = 2 := by decide +kernel
set_option maxRecDepth 100000 in
theorem aw27_d : orgK [104] [47, 102] [97, 98, 99] ⟨#[120]⟩ = 400 ∧ orgK [104] [47, 102] [97, 98, 99] r27 = 404 := by decide +kernel
theorem aw27_e : orgE [] [] = 2 := by decide
theorem st206 : (printOf 206).data.toList = [72, 84, 84, 80, 47, 49, 46, 49, 32, 50, 48, 54, 32, 80, 97, 114, 116, 105, 97, 108, 32, 67, 111, 110, 116, 101, 110, 116] := by
  rw [printOf_line 206 (by decide) (by decide)]
  exact (statusLine_data 206 (by decide) (by decide)).trans (by decide +kernel)
theorem digL_one (n : Nat) (h : n < 10) : digL (n : Int) = [UInt8.ofNat (48 + n)] := by
  rw [digL_nat, Go.Lib.decDigits_one h]
theorem told123 : toldL 1 2 3 = [98, 121, 116, 101, 115, 32, 49, 45, 50, 47, 51] := by
  have h : toldE 1 2 3 = 0 := by decide
  unfold toldL textR
  rw [if_pos h, show (1 : Int) = ((1 : Nat) : Int) from rfl, show (2 : Int) = ((2 : Nat) : Int) from rfl, show (3 : Int) = ((3 : Nat) : Int) from rfl, digL_one 1 (by decide), digL_one 2 (by decide), digL_one 3 (by decide)]
  decide +kernel
theorem aw27_s : orgS [104] [47, 102] [97, 98, 99] q27 = a27 := by
  obtain ⟨h1, h2, h3, h4⟩ := aw27_c
  rw [orgS_eq _ _ _ _ (by decide) h1, h2]
  have hF : orgF [104] [47, 102] [97, 98, 99] q27 = [(crangeK, toldL 1 2 3)] := by
    unfold orgF; rw [if_pos h2, h3, h4]; rfl
  have hY : orgY [104] [47, 102] [97, 98, 99] q27 = [98, 99] := by
    unfold orgY; rw [if_pos h2, h3, h4]; rfl
  rw [hF, hY]
  unfold repL repLines
  rw [st206, told123, show (([98, 99] : List UInt8).length : Int) = ((2 : Nat) : Int) from rfl, digL_one 2 (by decide)]
  decide +kernel
theorem bs_q27 : bs (orgS (ByteArray.mk #[104]).data.toList (ByteArray.mk #[47, 102]).data.toList (ByteArray.mk #[97, 98, 99]).data.toList q27) = bs a27 := congrArg bs aw27_s
theorem bs_e27 : bs (orgS (ByteArray.mk #[]).data.toList (ByteArray.mk #[]).data.toList (ByteArray.mk #[]).data.toList ⟨#[120]⟩) = ⟨#[]⟩ := by
  unfold orgS
  rw [if_neg (by rw [show orgE (ByteArray.mk #[]).data.toList (ByteArray.mk #[]).data.toList = 2 from aw27_e]; decide)]
  rfl
end Go.Proofs.YtgnkmfjleecmfaaGreatDoor
namespace Go.Proofs.YtgnkmfjleecmfaaGreatDoor
open Go.RowKit
theorem overO_false (h p f : ByteArray) (m : Int) (hh : overO h.data.toList p.data.toList f.data.toList m = false) : h.size ≤ 300 ∧ p.size ≤ 300 ∧ (f.size : Int) ≤ m := by
  unfold overO at hh
  rw [Bool.or_eq_false_iff, Bool.or_eq_false_iff, decide_eq_false_iff_not, decide_eq_false_iff_not, decide_eq_false_iff_not, size_len, size_len, size_len] at hh
  omega
/-- an origin that lies in a block of its type -/
structure OAt (w : World) (b : Nat) (T : TypeId) (h p f : ByteArray) : Prop where
  blk : w.heap[b]? = some (.cells #[.string h, .string p, .string f] T (0, 0))
theorem OAt.lt {w : World} {b : Nat} {T : TypeId} {h p f : ByteArray} (k : OAt w b T h p f) : b < w.heap.size := (Array.getElem?_eq_some_iff.1 k.blk).1
theorem OAt.below {w w' : World} {b : Nat} {T : TypeId} {h p f : ByteArray} (k : OAt w b T h p f) (hb : Below w.heap.size w w') : OAt w' b T h p f := ⟨(hb.block b k.lt).trans k.blk⟩
theorem OAt.new (w : World) (T : TypeId) (h p f : ByteArray) : OAt (w.alloc (.cells #[.string h, .string p, .string f] T)) w.heap.size T h p f := ⟨heap_alloc_new w _⟩
theorem OAt.cells {w : World} {b : Nat} {T : TypeId} {h p f : ByteArray} (k : OAt w b T h p f) : w.cell? ⟨b, 0, none⟩ = some (.string h) ∧ w.cell? ⟨b, 1, none⟩ = some (.string p) ∧ w.cell? ⟨b, 2, none⟩ = some (.string f) :=
  let ⟨h0, h1, h2, _⟩ := three_facts k.blk; ⟨h0, h1, h2⟩
end Go.Proofs.YtgnkmfjleecmfaaGreatDoor
namespace Go.Proofs.YtgnkmfjleecmfaaGreatDoor
open Go.RowKit
/-- a connection in memory: its origin, whether it is open, what is left, how many were served -/
structure CAt (w : World) (b : Nat) (h p f : ByteArray) (op : Bool) (l : List UInt8) (n : Nat) : Prop where
  blk : w.heap[b]? = some (.cells #[.string h, .string p, .string f, .bool op, .string (bs l), .int .i64 (n : Nat)] 92 (0, 0))
theorem CAt.lt {w : World} {b : Nat} {h p f : ByteArray} {op : Bool} {l : List UInt8} {n : Nat} (k : CAt w b h p f op l n) : b < w.heap.size := (Array.getElem?_eq_some_iff.1 k.blk).1
theorem CAt.below {w w' : World} {b : Nat} {h p f : ByteArray} {op : Bool} {l : List UInt8} {n : Nat} (k : CAt w b h p f op l n) (hb : Below w.heap.size w w') : CAt w' b h p f op l n := ⟨(hb.block b k.lt).trans k.blk⟩
theorem CAt.touch {w w' : World} {b : Nat} {h p f : ByteArray} {op : Bool} {l : List UInt8} {n : Nat} {S : Nat → Prop} (k : CAt w b h p f op l n) (ht : Touch S w w') (hn : ¬ S b) : CAt w' b h p f op l n := ⟨(ht.block b k.lt hn).trans k.blk⟩
theorem six_facts {w : World} {b : Nat} {x0 x1 x2 x3 x4 x5 : Value} {t : TypeId} (k : w.heap[b]? = some (.cells #[x0, x1, x2, x3, x4, x5] t (0, 0))) :
    (w.cell? ⟨b, 0, none⟩ = some x0 ∧ w.cell? ⟨b, 1, none⟩ = some x1 ∧ w.cell? ⟨b, 2, none⟩ = some x2 ∧ w.cell? ⟨b, 3, none⟩ = some x3 ∧ w.cell? ⟨b, 4, none⟩ = some x4 ∧ w.cell? ⟨b, 5, none⟩ = some x5) ∧ w.frozen? ⟨b, 3, none⟩ = false ∧ w.frozen? ⟨b, 4, none⟩ = false ∧ w.frozen? ⟨b, 5, none⟩ = false := by
  refine ⟨⟨?_, ?_, ?_, ?_, ?_, ?_⟩, ?_, ?_, ?_⟩ <;> first | (unfold World.cell?; rw [k]; rfl) | (unfold World.frozen?; rw [k]; rfl)
theorem six_set3 {w : World} {b : Nat} {x0 x1 x2 x3 x4 x5 : Value} {t : TypeId} (k : w.heap[b]? = some (.cells #[x0, x1, x2, x3, x4, x5] t (0, 0))) (y : Value) : (w.setCell ⟨b, 3, none⟩ y).heap[b]? = some (.cells #[x0, x1, x2, y, x4, x5] t (0, 0)) := by
  simp [World.setCell, Array.getElem?_modify, k]
theorem six_set4 {w : World} {b : Nat} {x0 x1 x2 x3 x4 x5 : Value} {t : TypeId} (k : w.heap[b]? = some (.cells #[x0, x1, x2, x3, x4, x5] t (0, 0))) (y : Value) : (w.setCell ⟨b, 4, none⟩ y).heap[b]? = some (.cells #[x0, x1, x2, x3, y, x5] t (0, 0)) := by
  simp [World.setCell, Array.getElem?_modify, k]
theorem six_set5 {w : World} {b : Nat} {x0 x1 x2 x3 x4 x5 : Value} {t : TypeId} (k : w.heap[b]? = some (.cells #[x0, x1, x2, x3, x4, x5] t (0, 0))) (y : Value) : (w.setCell ⟨b, 5, none⟩ y).heap[b]? = some (.cells #[x0, x1, x2, x3, x4, y] t (0, 0)) := by
  simp [World.setCell, Array.getElem?_modify, k]
theorem CAt.cells {w : World} {b : Nat} {h p f : ByteArray} {op : Bool} {l : List UInt8} {n : Nat} (k : CAt w b h p f op l n) :
    (w.cell? ⟨b, 0, none⟩ = some (.string h) ∧ w.cell? ⟨b, 1, none⟩ = some (.string p) ∧ w.cell? ⟨b, 2, none⟩ = some (.string f) ∧ w.cell? ⟨b, 3, none⟩ = some (.bool op) ∧ w.cell? ⟨b, 4, none⟩ = some (.string (bs l)) ∧ w.cell? ⟨b, 5, none⟩ = some (.int .i64 (n : Nat))) ∧ w.frozen? ⟨b, 3, none⟩ = false ∧ w.frozen? ⟨b, 4, none⟩ = false ∧ w.frozen? ⟨b, 5, none⟩ = false := six_facts k.blk
/-- a builder in block b holds the text l -/
abbrev BIs (b : Nat) (l : List UInt8) (w : World) : Prop := Lib.IsBuilderF 104 5 b b (Lib.byteCells l) w
theorem BIs.below {b : Nat} {l : List UInt8} {w w' : World} (h : BIs b l w) (hb : Below w.heap.size w w') : BIs b l w' := Lib.IsBuilderF.below h hb
theorem BIs.fresh (w : World) : BIs w.heap.size [] (w.alloc (.cells #[.pointer none, .slice none 0 0] 104 (0, 0))) := Lib.IsBuilderF.of (Lib.fresh_isBuilder _ _ w)
theorem bat_keep {T e : TypeId} {b : Nat} {p : Value} {xs : List Value} {w w' : World} (h : Lib.BuilderAtF T e b b p xs w) (hk : ∀ g, b ≤ g → g < w.heap.size → w'.heap[g]? = w.heap[g]?) : Lib.BuilderAtF T e b b p xs w' := by
  obtain ⟨hB, v, hv, hown, hne⟩ := h
  refine ⟨hB, v, (hk b (Nat.le_refl _) (Array.getElem?_eq_some_iff.1 hv).1).trans hv, ⟨hown.1, ?_⟩, hne⟩
  rcases hown.2 with h0 | ⟨g, cap, cur, fz, h1, h2, h3, h4⟩
  · exact .inl h0
  · exact .inr ⟨g, cap, cur, fz, h1, h2, (hk g h2 (Array.getElem?_eq_some_iff.1 h3).1).trans h3, h4⟩
/-- what is written below the builder does not touch it -/
theorem BIs.keep {b : Nat} {l : List UInt8} {w w' : World} (h : BIs b l w) (hk : ∀ g, b ≤ g → g < w.heap.size → w'.heap[g]? = w.heap[g]?) : BIs b l w' :=
  h.elim (fun x => .inl (bat_keep x hk)) (fun x => .inr (bat_keep x hk))
theorem c_wstr (b : Nat) (l : List UInt8) (s : ByteArray) (w : World) (h : BIs b l w) (hl : l.length + s.size ≤ 1000000000) (hb : b ≤ w.heap.size) :
    Calls Tryz.prog 54 #[.pointer (some ⟨b, 0, none⟩), .string s] w fun e w' => e = .returned (.tuple #[.int .i64 s.size, .nilIface]) ∧ BIs b (l ++ s.data.toList) w' ∧ Below b w w' := by
  refine (c_writeString b (Lib.byteCells l) s w h (by rw [Lib.byteCells_length]; omega) hb).mono ?_
  rintro e w' ⟨rfl, ⟨h1, h2, -⟩, -⟩
  refine ⟨rfl, Or.inr ?_, h2⟩
  rw [Lib.byteCells_append, ← Lib.strCells_eq]; exact h1
set_option maxRecDepth 100000 in
set_option maxHeartbeats 1000000 in
theorem srv_new_bad (h p f : ByteArray) (w : World) (he : orgE h.data.toList p.data.toList ≠ 0) :
    Calls Tryz.prog 22 #[.agg #[.string h, .string p, .string f]] w fun e w' => e = .returned (.tuple #[.pointer none, .int .i64 2]) ∧ Below w.heap.size w w' := by
  have h2 : orgE h.data.toList p.data.toList = 2 := by
    unfold orgE at he ⊢
    split
    · rfl
    · rename_i hh; rw [if_neg hh] at he; exact absurd rfl he
  have HC := Lib.hid (fun w => origin_check h p f w)
  rw [h2] at HC
  have HB0 := Lib.hid (below_o3 w (.string h) (.string p) (.string f))
  obtain ⟨o0, o1, o2, -, -, -⟩ := three_facts (heap_alloc_new w (.cells #[.string h, .string p, .string f] 49))
  clear he h2
  go_enter Tryz.func22, Tryz.ntmps22
  go_wp2_with fail
  refine (HC.out _).mono ?_
  rintro e w1 ⟨rfl, hb1⟩
  go_wp2_with fail
  go_ret2
  exact ⟨rfl, bstep HB0.out hb1⟩
set_option maxRecDepth 100000 in
set_option maxHeartbeats 1000000 in
theorem srv_new (h p f : ByteArray) (w : World) (he : orgE h.data.toList p.data.toList = 0) :
    Calls Tryz.prog 22 #[.agg #[.string h, .string p, .string f]] w fun e w' => ∃ b, e = .returned (.tuple #[.pointer (some ⟨b, 0, none⟩), .int .i64 0]) ∧ w.heap.size ≤ b ∧ CAt w' b h p f true [] 0 ∧ Below w.heap.size w w' := by
  have HC := Lib.hid (fun w => origin_check h p f w)
  rw [he] at HC
  have HB0 := Lib.hid (below_o3 w (.string h) (.string p) (.string f))
  have HP0 := Lib.hid (heap_alloc_new w (.cells #[.string h, .string p, .string f] 49))
  have HSZ : Hid ((w.alloc (.cells #[.string h, .string p, .string f] 49)).heap.size = w.heap.size + 1) := Lib.hid (by simp)
  obtain ⟨o0, o1, o2, -, -, -⟩ := three_facts HP0.out
  clear he
  go_enter Tryz.func22, Tryz.ntmps22
  go_wp2_with fail
  refine (HC.out _).mono ?_
  rintro e w1 ⟨rfl, hb1⟩
  have hp1 := (hb1.block w.heap.size (by have := HSZ.out; omega)).trans HP0.out
  have HB1 := Lib.hid (bstep HB0.out hb1)
  have hs1 : w.heap.size < w1.heap.size := (Array.getElem?_eq_some_iff.1 hp1).1
  clear hb1 o0 o1 o2
  obtain ⟨o0, o1, o2, -, -, -⟩ := three_facts hp1
  clear hp1
  go_wp2_with fail
  go_ret2
  exact ⟨_, rfl, Nat.le_of_lt hs1, ⟨heap_alloc_new w1 _⟩, HB1.out.alloc HB1.out.size _⟩
theorem srv_closed_nil (w : World) : Calls Tryz.prog 27 #[.pointer none] w fun e w' => e = .returned (.bool true) ∧ w' = w := by
  go_enter Tryz.func27, Tryz.ntmps27
  go_wp2_with fail
  go_ret
  exact ⟨rfl, rfl⟩
theorem srv_closed_at {w : World} {b : Nat} {x0 x1 x2 x4 x5 : Value} {op : Bool} (k : w.heap[b]? = some (.cells #[x0, x1, x2, .bool op, x4, x5] 92 (0, 0))) : Calls Tryz.prog 27 #[.pointer (some ⟨b, 0, none⟩)] w fun e w' => e = .returned (.bool (!op)) ∧ w' = w := by
  obtain ⟨⟨-, -, -, c3, -, -⟩, -⟩ := six_facts k
  clear k
  cases op
  all_goals
    go_enter Tryz.func27, Tryz.ntmps27
    go_wp2_with fail
    go_ret
    exact ⟨rfl, rfl⟩
theorem srv_rest_nil (w : World) : Calls Tryz.prog 28 #[.pointer none] w fun e w' => e = .returned (.int .i64 0) ∧ w' = w := by
  go_enter Tryz.func28, Tryz.ntmps28
  go_wp2_with fail
  go_ret
  exact ⟨rfl, rfl⟩
theorem srv_rest_at {w : World} {b : Nat} {x0 x1 x2 x3 x5 : Value} {s : ByteArray} (k : w.heap[b]? = some (.cells #[x0, x1, x2, x3, .string s, x5] 92 (0, 0))) : Calls Tryz.prog 28 #[.pointer (some ⟨b, 0, none⟩)] w fun e w' => e = .returned (.int .i64 (s.size : Nat)) ∧ w' = w := by
  obtain ⟨⟨-, -, -, -, c4, -⟩, -⟩ := six_facts k
  clear k
  go_enter Tryz.func28, Tryz.ntmps28
  go_wp2_with fail
  go_ret
  exact ⟨rfl, rfl⟩
theorem srv_served_nil (w : World) : Calls Tryz.prog 26 #[.pointer none] w fun e w' => e = .returned (.int .i64 0) ∧ w' = w := by
  go_enter Tryz.func26, Tryz.ntmps26
  go_wp2_with fail
  go_ret
  exact ⟨rfl, rfl⟩
theorem srv_served_at {w : World} {b : Nat} {x0 x1 x2 x3 x4 : Value} {n : Int} (k : w.heap[b]? = some (.cells #[x0, x1, x2, x3, x4, .int .i64 n] 92 (0, 0))) : Calls Tryz.prog 26 #[.pointer (some ⟨b, 0, none⟩)] w fun e w' => e = .returned (.int .i64 n) ∧ w' = w := by
  obtain ⟨⟨-, -, -, -, -, c5⟩, -⟩ := six_facts k
  clear k
  go_enter Tryz.func26, Tryz.ntmps26
  go_wp2_with fail
  go_ret
  exact ⟨rfl, rfl⟩
/-- take: the answer to the first n bytes -/
def TakePost (b : Nat) (h p f : ByteArray) (op : Bool) (l : List UInt8) (n : Nat) (k : Nat) (w : World) (e : Ending) (w' : World) : Prop :=
  e = .returned (.string (bs (orgS h.data.toList p.data.toList f.data.toList (bs (l.take k))))) ∧ CAt w' b h p f op (l.drop k) (n + 1) ∧ Touch (fun g => g = b) w w'
set_option maxRecDepth 100000 in
set_option maxHeartbeats 2000000 in
theorem srv_take {w : World} {b : Nat} {h p f : ByteArray} {op : Bool} {l : List UInt8} {n : Nat} (k : Nat) (hc : CAt w b h p f op l n) (hE : EnvF w) (hk : k ≤ l.length) (hl : l.length ≤ 1000000) (hf : f.size ≤ 1000000) (hn : n ≤ 1000000) :
    Calls Tryz.prog 55 #[.pointer (some ⟨b, 0, none⟩), .int .i64 (k : Nat)] w (TakePost b h p f op l n k w) := by
  have hex : (bs l).extract 0 k = bs (l.take k) := by rw [extract_bs, bs_data, List.drop_zero]
  have hex2 : (bs l).extract k (bs l).size = bs (l.drop k) := by rw [extract_bs, bs_data, bs_size, List.take_length]
  have hsz := bs_size l
  have HA := Lib.hid (fun W (hW : Below w.heap.size w W) => origin_answer h p f (bs (l.take k)) W (hE.below hW) (by rw [bs_size, List.length_take]; omega) hf)
  have HCW := Lib.hid (fun W (hW : Below w.heap.size w W) => hc.below hW)
  obtain ⟨S, hS⟩ : ∃ S, bs (orgS h.data.toList p.data.toList f.data.toList (bs (l.take k))) = S := ⟨_, rfl⟩
  unfold TakePost
  rw [hS] at HA ⊢
  obtain ⟨B, hB⟩ : ∃ B, bs l = B := ⟨_, rfl⟩
  have HX := Lib.hid (And.intro hex (And.intro hex2 hB))
  rw [hB] at hex hsz HX
  have HX := Lib.hid HX.out
  have hkS : k ≤ B.size := by omega
  have hkI : (k : Int) ≤ (B.size : Int) := by omega
  have hk0 : (0 : Int) ≤ (k : Int) := by omega
  have tw : IntKind.i64.wrap ((n : Int) + 1) = (n : Int) + 1 := by rw [IntKind.wrap_i64]; omega
  obtain ⟨⟨c0, c1, c2, c3, c4, c5⟩, f3, f4, f5⟩ := hc.cells
  rw [hB] at c4
  have HS : Hid (∀ W, Below w.heap.size w W → W.cell? ⟨b, 0, none⟩ = some (.string h) ∧ W.cell? ⟨b, 1, none⟩ = some (.string p) ∧ W.cell? ⟨b, 2, none⟩ = some (.string f) ∧ W.cell? ⟨b, 4, none⟩ = some (.string B)) := Lib.hid (fun W hW => by
    obtain ⟨⟨y0, y1, y2, -, y4, -⟩, -⟩ := (HCW.out W hW).cells
    rw [hB] at y4
    exact ⟨y0, y1, y2, y4⟩)
  have HDr : Hid (Below w.heap.size w w.drew) := Lib.hid (Below.refl _ _).drew
  clear hc hE hk hl hf hn hex2 hS hsz
  go_enter Tryz.func55, Tryz.ntmps55
  go_wp2_with fail
  go_region_held3 (fun w' => w'.cell? ⟨b, 0, none⟩ = some (.string h) ∧ w'.cell? ⟨b, 1, none⟩ = some (.string p) ∧ w'.cell? ⟨b, 2, none⟩ = some (.string f) ∧ w'.cell? ⟨b, 4, none⟩ = some (.string B)) (first | exact HS.out _ HDr.out | exact HS.out _ HA1.out)
    (first
      | (go_at_call 24; (try rw [hex]); refine (HA.out _ HDr.out).mono ?_; rintro e wa ⟨rfl, hba⟩; have HA1 : Hid (Below w.heap.size w wa) := Lib.hid (bstep HDr.out hba); clear hba))
  have hc2 := HCW.out _ HA1.out
  clear c0 c1 c2 c3 c4 c5 f3 f4 f5
  obtain ⟨⟨c0, c1, c2, c3, c4, c5⟩, f3, f4, f5⟩ := hc2.cells
  rw [hB] at c4
  have HC2 := Lib.hid hc2
  clear hc2
  go_wp2_with fail
  go_ret
  refine ⟨rfl, ⟨?_⟩, touch_set _ (touch_set _ (Touch.of_below HA1.out) (.inl rfl)) (.inl rfl)⟩
  rw [HX.out.2.1, show ((n + 1 : Nat) : Int) = (n : Int) + 1 from Int.natCast_add n 1]
  exact six_set5 (six_set4 HC2.out.blk _) _
end Go.Proofs.YtgnkmfjleecmfaaGreatDoor
namespace Go.Proofs.YtgnkmfjleecmfaaGreatDoor
open Go.RowKit
theorem words_sum (l : List UInt8) : ((words l).map (fun x => x.length + 1)).sum = l.length + 1 := by
  induction l with
  | nil => rfl
  | cons c r ih =>
    rw [words]
    split
    · rw [List.map_cons, List.sum_cons, ih]
      show 0 + 1 + (r.length + 1) = r.length + 1 + 1
      omega
    · cases h : words r with
      | nil => exact absurd h (words_ne r)
      | cons w ws =>
        rw [h] at ih
        simp only [List.map_cons, List.sum_cons, List.length_cons] at ih ⊢
        omega
theorem headR_pre (s : ByteArray) : ∀ (f : Nat) (a : Int) (xs : List (List UInt8)), (headR f s a xs).2.2 = 0 → ∃ t, (headR f s a xs).1 = xs ++ t := by
  intro f
  induction f with
  | zero => intro a xs h; exact absurd (show (21 : Nat) = 0 from h) (by decide)
  | succ f ih =>
    intro a xs h
    by_cases he : takeErr s a = 0
    · by_cases hm : (takeLine s a).toList.isEmpty = true
      · rw [headR_end f s a xs he hm]; exact ⟨[], by simp⟩
      · rw [Bool.not_eq_true] at hm
        by_cases h17 : xs.length = 17
        · rw [headR_many f s a xs he hm h17] at h; exact absurd h (by decide)
        · rw [headR_more f s a xs he hm h17] at h ⊢
          obtain ⟨t, ht⟩ := ih _ _ h
          exact ⟨(takeLine s a).data.toList :: t, by rw [ht]; simp⟩
    · rw [headR_err f s a xs he] at h; exact absurd h he
theorem first_len (ls : List (List UInt8)) (h : firstL ls = 0) : ls ≠ [] ∧ 13 ≤ (ls.getD 0 []).length := by
  unfold firstL at h
  split at h
  · exact absurd h (by decide)
  · rename_i hne
    refine ⟨hne, ?_⟩
    have hs := words_sum (ls.getD 0 [])
    generalize ls.getD 0 [] = x at h hs ⊢
    generalize words x = W at h hs
    unfold firstW at h
    split at h
    · exact absurd h (by decide)
    rename_i g1
    split at h
    · exact absurd h (by decide)
    rename_i g2
    split at h
    · exact absurd h (by decide)
    rename_i g3
    rw [Decidable.not_not] at g1
    match W, g1 with
    | [w0, w1, w2], _ =>
      simp only [List.map_cons, List.map_nil, List.sum_cons, List.sum_nil] at hs
      have e0 : w0.length = 3 := by
        have : w0 = [71, 69, 84] := by simpa using g2
        rw [this]; rfl
      have e2 : w2.length = 8 := by
        have : w2 = [72, 84, 84, 80, 47, 49, 46, 49] := by simpa using g3
        rw [this]; rfl
      omega
theorem ask_min (s : ByteArray) (h0 : askE s = 0) : 17 ≤ askN s := by
  have hh : (headOf s).2.2 = 0 := by
    by_cases h : (headOf s).2.2 = 0
    · exact h
    · unfold askE at h0; rw [if_pos h] at h0; exact h0
  have hl : lnE (headOf s).1 = 0 := by unfold askE at h0; rw [if_neg (by simp [hh])] at h0; exact h0
  have h1 : firstL (headOf s).1 = 0 := by
    by_cases h : firstL (headOf s).1 = 0
    · exact h
    · unfold lnE at hl; rw [if_pos h] at hl; exact hl
  obtain ⟨hne, h13⟩ := first_len _ h1
  have hN : askN s = (headOf s).2.1 := by unfold askN; rw [if_pos h0]
  rw [hN]
  clear hN hl h1 h0
  unfold headOf at hh hne h13 ⊢
  by_cases he : takeErr s 0 = 0
  · by_cases hm : (takeLine s 0).toList.isEmpty = true
    · rw [headR_end 17 s 0 [] he hm] at hne; exact absurd rfl hne
    · rw [Bool.not_eq_true] at hm
      rw [headR_more 17 s 0 [] he hm (by decide)] at hh hne h13 ⊢
      obtain ⟨t, ht⟩ := headR_pre s 17 _ _ hh
      rw [ht] at h13
      have hx : (([] ++ [(takeLine s 0).data.toList] ++ t).getD 0 []) = (takeLine s 0).data.toList := rfl
      rw [hx, size_len] at h13
      have hb := take_next_bd s 0 he (Int.le_refl _)
      obtain ⟨b1, -⟩ := headR_bd s 17 (takeNext s 0) ([] ++ [(takeLine s 0).data.toList]) (by omega) hh (by decide)
      have hn : takeNext s 0 = 0 + (scanAt s.data.toList 0 0).1 + 2 := by unfold takeNext; rw [if_pos he]; rfl
      have ht2 : (takeLine s 0).size ≤ (scanAt s.data.toList 0 0).1 := by
        unfold takeLine
        rw [if_pos he, ByteArray.size_extract]
        show min (0 + (scanAt s.data.toList 0 0).1) s.size - 0 ≤ _
        omega
      omega
  · rw [headR_err 17 s 0 [] he] at hh; exact absurd hh he
/-- few answers come -/
def SrvFew (h p f : List UInt8) (l : List UInt8) : Prop := 17 * (srvOf h p f l).2.2.1 ≤ l.length + 17
theorem srv_few (h p f : List UInt8) : ∀ l, SrvFew h p f l := by
  refine srv_ind (SrvFew h p f) ?_
  intro l ih
  unfold SrvFew at ih ⊢
  by_cases h0 : askE (bs l) = 0
  · have ih0 := ih h0
    obtain ⟨n1, n2, n3⟩ := ask_n l h0
    have hm := ask_min (bs l) h0
    rw [srv_more h p f l h0]
    rw [List.length_drop] at ih0
    show 17 * ((srvOf h p f (l.drop (askN (bs l)).toNat)).2.2.1 + 1) ≤ _
    omega
  · by_cases h3 : askE (bs l) = 3
    · rw [srv_short h p f l h3]; exact Nat.zero_le _
    · rw [srv_bad h p f l h0 h3]; show 17 * 1 ≤ _; omega
end Go.Proofs.YtgnkmfjleecmfaaGreatDoor
namespace Go.Proofs.YtgnkmfjleecmfaaGreatDoor
open Go.RowKit
/-- what Put hands over -/
def SPost (b : Nat) (h p f : ByteArray) (n : Nat) (R : List UInt8 × List UInt8 × Nat × Bool) (w : World) (e : Ending) (w' : World) : Prop :=
  e = .returned (.string (bs R.1)) ∧ CAt w' b h p f (!R.2.2.2) R.2.1 (n + R.2.2.1) ∧ Touch (fun g => g = b) w w'
theorem touch_from {S : Nat → Prop} {w w' w'' : World} {B : Nat} (h : Touch S w w') (hb : Below B w' w'') (hB : w.heap.size ≤ B) : Touch S w w'' :=
  h.trans (S' := fun g => B ≤ g) ⟨hb.os, hb.tape, hb.output, hb.size, fun k _ hn => hb.block k (Nat.lt_of_not_le hn)⟩ (fun g hg => .inr (Nat.le_trans hB hg))
/-- the state of Put's loop -/
structure SRel (w wr : World) (b B : Nat) (h p f : ByteArray) (n : Nat) (R : List UInt8 × List UInt8 × Nat × Bool) (l1 acc : List UInt8) (n1 : Nat) (op : Bool) : Prop where
  c : CAt wr b h p f op l1 n1
  bi : BIs B acc wr
  hB : w.heap.size ≤ B
  lt : b < B
  sz : B ≤ wr.heap.size
  t : Touch (fun g => g = b) w wr
  go : op = true → R.1 = acc ++ (srvOf h.data.toList p.data.toList f.data.toList l1).1 ∧ R.2.1 = (srvOf h.data.toList p.data.toList f.data.toList l1).2.1 ∧ n + R.2.2.1 = n1 + (srvOf h.data.toList p.data.toList f.data.toList l1).2.2.1 ∧ R.2.2.2 = (srvOf h.data.toList p.data.toList f.data.toList l1).2.2.2
  stop : op = false → R.1 = acc ∧ R.2.1 = l1 ∧ n + R.2.2.1 = n1 ∧ R.2.2.2 = true
  ll : l1.length ≤ 100000
  al : acc.length ≤ R.1.length
  nl : n1 ≤ n + R.2.2.1
theorem SRel.start {w w1 : World} {b : Nat} {h p f : ByteArray} {n : Nat} {L : List UInt8} (hc : CAt w1 b h p f true L n) (ht : Touch (fun g => g = b) w w1) (hl : L.length ≤ 100000) :
    SRel w (w1.alloc (.cells #[.pointer none, .slice none 0 0] 104 (0, 0))) b w1.heap.size h p f n (srvOf h.data.toList p.data.toList f.data.toList L) L [] n true :=
  ⟨hc.below ((Below.refl _ _).alloc (Nat.le_refl _) _), BIs.fresh w1, ht.size, hc.lt, by simp, ht.trans (S' := fun g => g = b) (Touch.of_below ((Below.refl _ _).alloc (Nat.le_refl _) _)) (fun g hg => .inl hg), fun _ => ⟨rfl, rfl, rfl, rfl⟩, fun h => absurd h (by decide), hl, Nat.zero_le _, Nat.le_add_right _ _⟩
/-- take and WriteString, as one step -/
theorem SRel.step {w wr w2 w3 : World} {b B : Nat} {h p f : ByteArray} {n : Nat} {R : List UInt8 × List UInt8 × Nat × Bool} {l1 acc S : List UInt8} {n1 k : Nat} {op op' : Bool} (hr : SRel w wr b B h p f n R l1 acc n1 op)
    (hc : CAt w2 b h p f op' (l1.drop k) (n1 + 1)) (ht : Touch (fun g => g = b) wr w2) (hb : Below B w2 w3) (hbi : BIs B (acc ++ S) w3)
    (hgo : op' = true → R.1 = (acc ++ S) ++ (srvOf h.data.toList p.data.toList f.data.toList (l1.drop k)).1 ∧ R.2.1 = (srvOf h.data.toList p.data.toList f.data.toList (l1.drop k)).2.1 ∧ n + R.2.2.1 = (n1 + 1) + (srvOf h.data.toList p.data.toList f.data.toList (l1.drop k)).2.2.1 ∧ R.2.2.2 = (srvOf h.data.toList p.data.toList f.data.toList (l1.drop k)).2.2.2)
    (hstop : op' = false → R.1 = acc ++ S ∧ R.2.1 = l1.drop k ∧ n + R.2.2.1 = n1 + 1 ∧ R.2.2.2 = true) : SRel w w3 b B h p f n R (l1.drop k) (acc ++ S) (n1 + 1) op' := by
  refine ⟨⟨(hb.block b hr.lt).trans hc.blk⟩, hbi, hr.hB, hr.lt, Nat.le_trans hr.sz (Nat.le_trans ht.size hb.size), touch_from (hr.t.trans ht (fun g hg => .inl hg)) hb hr.hB, hgo, hstop, ?_, ?_, ?_⟩
  · rw [List.length_drop]; have := hr.ll; omega
  · cases op' with
    | true => rw [(hgo rfl).1]; simp only [List.length_append]; omega
    | false => rw [(hstop rfl).1]; exact Nat.le_refl _
  · cases op' with
    | true => have := (hgo rfl).2.2.1; omega
    | false => have := (hstop rfl).2.2.1; omega
theorem BIs.take {b B : Nat} {l : List UInt8} {w w' : World} (h : BIs B l w) (ht : Touch (fun g => g = b) w w') (hlt : b < B) : BIs B l w' :=
  h.keep (fun g hg hs => ht.block g hs (fun e => by have : g = b := e; omega))
theorem CAt.shut {w : World} {b : Nat} {h p f : ByteArray} {op : Bool} {l : List UInt8} {n : Nat} (k : CAt w b h p f op l n) : CAt (w.setCell ⟨b, 3, none⟩ (.bool false)) b h p f false l n := ⟨six_set3 k.blk _⟩
set_option maxRecDepth 100000 in
set_option maxHeartbeats 1000000 in
theorem srv_put_closed {w : World} {b : Nat} {h p f : ByteArray} {l : List UInt8} {n : Nat} (s : ByteArray) (hc : CAt w b h p f false l n) :
    Calls Tryz.prog 25 #[.pointer (some ⟨b, 0, none⟩), .string s] w fun e w' => e = .returned (.string ⟨#[]⟩) ∧ w' = w := by
  have HC := Lib.hid (srv_closed_at hc.blk)
  clear hc
  go_enter Tryz.func25, Tryz.ntmps25
  go_wp2_with fail
  refine HC.out.mono ?_
  rintro e w' ⟨rfl, hww⟩
  obtain rfl := hww.symm
  go_wp2_with fail
  go_ret
  exact ⟨rfl, rfl⟩
def mOf (op : Bool) (l : List UInt8) : Nat := if op = true then l.length + 1 else 0
/-- the loop's end: closed, or too short -/
theorem SRel.done {w wr w9 : World} {b B : Nat} {h p f : ByteArray} {n : Nat} {R : List UInt8 × List UInt8 × Nat × Bool} {l1 acc : List UInt8} {n1 : Nat} (hr : SRel w wr b B h p f n R l1 acc n1 false) (hb : Below B wr w9) :
    SPost b h p f n R w (.returned (.string (bs acc))) w9 := by
  obtain ⟨s1, s2, s3, s4⟩ := hr.stop rfl
  refine ⟨by rw [s1], ?_, touch_from hr.t hb hr.hB⟩
  rw [s2, s3, s4]
  exact ⟨(hb.block b hr.lt).trans hr.c.blk⟩
theorem SRel.short {w wr w9 : World} {b B : Nat} {h p f : ByteArray} {n : Nat} {R : List UInt8 × List UInt8 × Nat × Bool} {l1 acc : List UInt8} {n1 : Nat} (hr : SRel w wr b B h p f n R l1 acc n1 true) (h3 : askE (bs l1) = 3) (hb : Below B wr w9) :
    SPost b h p f n R w (.returned (.string (bs acc))) w9 := by
  obtain ⟨s1, s2, s3, s4⟩ := hr.go rfl
  rw [srv_short _ _ _ l1 h3] at s1 s2 s3 s4
  refine ⟨by rw [s1]; simp, ?_, touch_from hr.t hb hr.hB⟩
  rw [s2, s3, s4]
  exact ⟨(hb.block b hr.lt).trans hr.c.blk⟩
theorem SRel.more {w wr w2 w3 : World} {b B : Nat} {h p f : ByteArray} {n : Nat} {R : List UInt8 × List UInt8 × Nat × Bool} {l1 acc : List UInt8} {n1 k : Nat} (hr : SRel w wr b B h p f n R l1 acc n1 true) (h0 : askE (bs l1) = 0) (hk : (askN (bs l1)).toNat = k)
    (hc : CAt w2 b h p f true (l1.drop k) (n1 + 1)) (ht : Touch (fun g => g = b) wr w2) (hb : Below B w2 w3) (hbi : BIs B (acc ++ orgS h.data.toList p.data.toList f.data.toList (bs (l1.take k))) w3) : SRel w w3 b B h p f n R (l1.drop k) (acc ++ orgS h.data.toList p.data.toList f.data.toList (bs (l1.take k))) (n1 + 1) true := by
  obtain ⟨s1, s2, s3, s4⟩ := hr.go rfl
  rw [srv_more _ _ _ l1 h0, hk] at s1 s2 s3 s4
  refine hr.step hc ht hb hbi (fun _ => ⟨by rw [s1, List.append_assoc], s2, ?_, s4⟩) (fun h => absurd h (by decide))
  simp only at s3
  omega
theorem SRel.bad {w wr w2 w3 : World} {b B : Nat} {h p f : ByteArray} {n : Nat} {R : List UInt8 × List UInt8 × Nat × Bool} {l1 acc : List UInt8} {n1 : Nat} (hr : SRel w wr b B h p f n R l1 acc n1 true) (h0 : askE (bs l1) ≠ 0) (h3 : askE (bs l1) ≠ 3)
    (hc : CAt w2 b h p f false (l1.drop l1.length) (n1 + 1)) (ht : Touch (fun g => g = b) wr w2) (hb : Below B w2 w3) (hbi : BIs B (acc ++ orgS h.data.toList p.data.toList f.data.toList (bs l1)) w3) : SRel w w3 b B h p f n R (l1.drop l1.length) (acc ++ orgS h.data.toList p.data.toList f.data.toList (bs l1)) (n1 + 1) false := by
  obtain ⟨s1, s2, s3, s4⟩ := hr.go rfl
  rw [srv_bad _ _ _ l1 h0 h3] at s1 s2 s3 s4
  refine hr.step hc ht hb hbi (fun h => absurd h (by decide)) (fun _ => ⟨s1, by rw [s2, List.drop_length], ?_, s4⟩)
  simp only at s3
  omega
set_option maxRecDepth 100000 in
set_option maxHeartbeats 8000000 in
theorem srv_put {w : World} {b : Nat} {h p f : ByteArray} {l : List UInt8} {n : Nat} (s : ByteArray) (hc : CAt w b h p f true l n) (hE : ∀ W, Touch (fun g => g = b) w W → EnvF W) (hl : l.length + s.size ≤ 100000) (hf : f.size ≤ 2000) (hn : n ≤ 100000) :
    Calls Tryz.prog 25 #[.pointer (some ⟨b, 0, none⟩), .string s] w (SPost b h p f n (srvOf h.data.toList p.data.toList f.data.toList (l ++ s.data.toList)) w) := by
  have HC := Lib.hid (srv_closed_at hc.blk)
  have HCt := Lib.hid hc
  obtain ⟨⟨c0, c1, c2, c3, c4, c5⟩, f3, f4, f5⟩ := hc.cells
  obtain ⟨L, hL⟩ : ∃ L, l ++ s.data.toList = L := ⟨_, rfl⟩
  have hLl : L.length ≤ 100000 := by rw [← hL, List.length_append, size_len]; exact hl
  have HLS : Hid (bs l ++ s = bs L) := Lib.hid (by rw [← hL]; conv => lhs; rhs; rw [← bs_self s]
                                                   rw [bs_cat])
  have padd := fun w => run_string_add_sum (P := Tryz.prog) w (bs l) s (by rw [bs_size]; omega)
  obtain ⟨R, hR⟩ : ∃ R, srvOf h.data.toList p.data.toList f.data.toList L = R := ⟨_, rfl⟩
  have hfl : f.data.toList.length ≤ 1000000 := by rw [size_len]; omega
  have hrest := srv_rest h.data.toList p.data.toList f.data.toList hfl L
  unfold SrvRest at hrest
  rw [hR, size_len] at hrest
  have HRl : Hid (R.1.length ≤ 900000000 ∧ n + R.2.2.1 ≤ 300000) := Lib.hid (by
    obtain ⟨-, -, -, r4, r5⟩ := hrest
    refine ⟨Nat.le_trans r5 (Nat.le_trans (Nat.mul_le_mul (show R.2.2.1 ≤ 100001 by omega) (show 4400 + f.size ≤ 6400 by omega)) (by decide)), by omega⟩)
  have HST : Hid (∀ w1, CAt w1 b h p f true L n → Touch (fun g => g = b) w w1 → SRel w (w1.alloc (.cells #[.pointer none, .slice none 0 0] 104 (0, 0))) b w1.heap.size h p f n R L [] n true) := Lib.hid (fun w1 h1 h2 => by rw [← hR]; exact SRel.start h1 h2 hLl)
  have HE := Lib.hid hE
  have HFL := Lib.hid hfl
  rw [hL, hR]
  have HSZ := Lib.hid hf
  clear hc hE hl hL hR hrest hfl hLl hf hn
  go_enter Tryz.func25, Tryz.ntmps25
  go_wp2_with fail
  refine HC.out.mono ?_
  rintro e w' ⟨rfl, hww⟩
  obtain rfl := hww.symm
  clear hww HC
  go_wp2_with fail
  rw [HLS.out]
  have HS0 := Lib.hid (HST.out (w.setCell ⟨b, 4, none⟩ (.string (bs L))) ⟨six_set4 HCt.out.blk _⟩ (touch_set _ (Touch.refl _ _) (.inl rfl)))
  have hsz : (w.setCell ⟨b, 4, none⟩ (.string (bs L))).heap.size = w.heap.size := by simp
  rw [hsz] at HS0
  clear hsz padd c0 c1 c2 c3 c4 c5 f3 f4 f5
  generalize ((w.setCell ⟨b, 4, none⟩ (.string (bs L))).alloc (.cells #[.pointer none, .slice none 0 0] 104)) = W0 at HS0 ⊢
  have HM0 : Hid (mOf true L < L.length + 2) := Lib.hid (by show L.length + 1 < _; omega)
  go_loopg [7] (L.length + 2) (fun gk s7 wr => ∃ (l1 acc : List UInt8) (n1 : Nat) (op : Bool), Hid (mOf op l1 < gk) ∧ Hid (SRel w wr b w.heap.size h p f n R l1 acc n1 op))
  case atStart => exact ⟨L, [], n, true, HM0, HS0⟩
  case round =>
    obtain ⟨l1, acc, n1, op, HM, HRr⟩ := hrel
    obtain ⟨g', rfl⟩ : ∃ g', gk = g' + 1 := ⟨gk - 1, by have := HM.out; omega⟩
    obtain ⟨⟨c0, c1, c2, c3, c4, c5⟩, f3, f4, f5⟩ := HRr.out.c.cells
    clear HS0 HM0
    cases op with
    | false =>
      have HS := Lib.hid (c_string w.heap.size acc wr HRr.out.bi HRr.out.sz)
      go_wp2_with fail
      refine HS.out.mono ?_
      rintro e w9 ⟨rfl, -, hb9⟩
      have HD := Lib.hid (HRr.out.done hb9)
      clear hb9 HS
      go_wp2_with fail
      go_ret
      exact HD.out
    | true =>
      have hl1 : l1.length ≤ 100000 := HRr.out.ll
      have HEr := Lib.hid (HE.out wr HRr.out.t)
      have HA := asking_parse (bs l1) wr (by rw [bs_size]; omega) HEr.out
      unfold askV at HA
      generalize bs (askPath (bs l1)) = P at HA
      generalize bs (askHost (bs l1)) = Q at HA
      generalize askA (bs l1) = a1 at HA
      generalize askB (bs l1) = b1 at HA
      obtain ⟨E, hE1⟩ : ∃ E, askE (bs l1) = E := ⟨_, rfl⟩
      by_cases h0 : E = 0
      · subst h0
        obtain ⟨n1', n2', n3'⟩ := ask_n l1 hE1
        obtain ⟨k, hk⟩ : ∃ k, (askN (bs l1)).toNat = k := ⟨_, rfl⟩
        rw [hk] at n1' n2' n3'
        rw [n3', hE1] at HA
        have HA := Lib.hid HA
        have HK := Lib.hid (And.intro n1' n2')
        have HX := Lib.hid (And.intro hE1 hk)
        clear n1' n2' n3' hk hE1
        go_wp2_with fail
        refine HA.out.mono ?_
        rintro e w1 ⟨rfl, hb0⟩
        have hb1 := bstep hb0 (below_agg4 w1 (.string P) (.string Q) (.int .i64 a1) (.int .i64 b1) 107)
        clear hb0
        have HC1 := Lib.hid (HRr.out.c.below hb1)
        have HBI1 := Lib.hid (HRr.out.bi.below hb1)
        have HT1 := Lib.hid (Touch.of_below (S := fun g => g = b) hb1)
        have HE1 := Lib.hid (HE.out _ (HRr.out.t.trans HT1.out (fun g hg => .inl hg)))
        clear c0 c1 c2 c3 c4 c5 f3 f4 f5 hb1
        have HTk := Lib.hid (srv_take k HC1.out HE1.out HK.out.2 (by omega) (by have := HSZ.out; omega) (by have := HRr.out.nl; have := HRl.out.2; omega))
        unfold TakePost at HTk
        go_wp2_with fail
        refine HTk.out.mono ?_
        rintro e w2 ⟨rfl, hc2, ht2⟩
        have HC2 := Lib.hid hc2
        have HT2 : Hid (Touch (fun g => g = b) wr w2) := Lib.hid (HT1.out.trans ht2 (fun g hg => .inl hg))
        have HBI2 := Lib.hid (HBI1.out.take ht2 HRr.out.lt)
        have HSZ2 : Hid (w.heap.size ≤ w2.heap.size) := Lib.hid (Nat.le_trans HRr.out.sz HT2.out.size)
        have HOl := orgS_len h.data.toList p.data.toList f.data.toList (bs (l1.take k)) HFL.out
        have HW := Lib.hid (c_wstr w.heap.size acc (bs (orgS h.data.toList p.data.toList f.data.toList (bs (l1.take k)))) w2 HBI2.out (by rw [bs_size]; have := HRr.out.al; have := HRl.out.1; have := HSZ.out; rw [size_len] at HOl; omega) HSZ2.out)
        rw [bs_data] at HW
        clear hc2 ht2 HOl HTk
        go_wp2_with fail
        refine HW.out.mono ?_
        rintro e w3 ⟨rfl, hbi3, hb3⟩
        have HN := Lib.hid (HRr.out.more HX.out.1 HX.out.2 HC2.out HT2.out hb3 hbi3)
        have HMn : Hid (mOf true (l1.drop k) < g') := Lib.hid (by
          have h1 := HM.out
          have h2 := HK.out
          have e1 : mOf true l1 = l1.length + 1 := rfl
          have e2 : mOf true (l1.drop k) = (l1.drop k).length + 1 := rfl
          rw [List.length_drop] at e2
          omega)
        clear hbi3 hb3 HW
        go_wp2_with fail
        go_roundg g'
        case measure => omega
        case rel => exact ⟨_, _, _, true, HMn, HN⟩
      · by_cases h3 : E = 3
        · subst h3
          rw [hE1] at HA
          generalize askN (bs l1) = N1 at HA
          have HA := Lib.hid HA
          have HX := Lib.hid hE1
          clear hE1 h0
          go_wp2_with fail
          refine HA.out.mono ?_
          rintro e w1 ⟨rfl, hb0⟩
          have hb1 := bstep hb0 (below_agg4 w1 (.string P) (.string Q) (.int .i64 a1) (.int .i64 b1) 107)
          clear hb0
          have HBI1 := Lib.hid (HRr.out.bi.below hb1)
          have HS := Lib.hid (c_string w.heap.size acc _ HBI1.out (Nat.le_trans HRr.out.sz hb1.size))
          have HB1 := Lib.hid hb1
          clear c0 c1 c2 c3 c4 c5 f3 f4 f5 hb1
          go_wp2_with fail
          refine HS.out.mono ?_
          rintro e w9 ⟨rfl, -, hb9⟩
          have HD := Lib.hid (HRr.out.short HX.out ((HB1.out.mono HRr.out.sz).trans hb9))
          clear hb9 HS
          go_wp2_with fail
          go_ret
          exact HD.out
        · have tz : ((E : Int) == 0) = false := by rw [beq_eq_false_iff_ne]; omega
          have tz3 : ((E : Int) == 3) = false := by rw [beq_eq_false_iff_ne]; omega
          rw [hE1] at HA
          generalize askN (bs l1) = N1 at HA
          have HA := Lib.hid HA
          have HX : Hid (askE (bs l1) ≠ 0 ∧ askE (bs l1) ≠ 3) := Lib.hid (by rw [hE1]; exact ⟨h0, h3⟩)
          have hbz := bs_size l1
          clear hE1 h0 h3
          go_wp2_with fail
          refine HA.out.mono ?_
          rintro e w1 ⟨rfl, hb0⟩
          have hb1 := bstep hb0 (below_agg4 w1 (.string P) (.string Q) (.int .i64 a1) (.int .i64 b1) 107)
          clear hb0
          have hc1 := HRr.out.c.below hb1
          have HBI1 := Lib.hid (HRr.out.bi.below hb1)
          have HT1 := Lib.hid (Touch.of_below (S := fun g => g = b) hb1)
          have HC1 := Lib.hid hc1.shut
          have HT1' : Hid (Touch (fun g => g = b) wr ((w1.alloc (.cells #[.string P, .string Q, .int .i64 a1, .int .i64 b1] 107)).setCell ⟨b, 3, none⟩ (.bool false))) := Lib.hid (touch_set _ HT1.out (.inl rfl))
          have HBI1' : Hid (BIs w.heap.size acc ((w1.alloc (.cells #[.string P, .string Q, .int .i64 a1, .int .i64 b1] 107)).setCell ⟨b, 3, none⟩ (.bool false))) := Lib.hid (HBI1.out.take (touch_set _ (Touch.refl (fun g => g = b) _) (.inl rfl)) HRr.out.lt)
          have HE1 := Lib.hid (HE.out _ (HRr.out.t.trans HT1'.out (fun g hg => .inl hg)))
          clear c0 c1 c2 c3 c4 c5 f3 f4 f5 hb1
          obtain ⟨⟨c0, c1, c2, c3, c4, c5⟩, f3, f4, f5⟩ := hc1.cells
          clear hc1
          have HTk := Lib.hid (srv_take l1.length HC1.out HE1.out (Nat.le_refl _) (by omega) (by have := HSZ.out; omega) (by have := HRr.out.nl; have := HRl.out.2; omega))
          unfold TakePost at HTk
          rw [List.take_length, ← hbz] at HTk
          go_wp2_with fail
          refine HTk.out.mono ?_
          rw [hbz]
          rintro e w2 ⟨rfl, hc2, ht2⟩
          have HC2 := Lib.hid hc2
          have HT2 : Hid (Touch (fun g => g = b) wr w2) := Lib.hid (HT1'.out.trans ht2 (fun g hg => .inl hg))
          have HBI2 := Lib.hid (HBI1'.out.take ht2 HRr.out.lt)
          have HSZ2 : Hid (w.heap.size ≤ w2.heap.size) := Lib.hid (Nat.le_trans HRr.out.sz HT2.out.size)
          have HOl := orgS_len h.data.toList p.data.toList f.data.toList (bs l1) HFL.out
          have HW := Lib.hid (c_wstr w.heap.size acc (bs (orgS h.data.toList p.data.toList f.data.toList (bs l1))) w2 HBI2.out (by rw [bs_size]; have := HRr.out.al; have := HRl.out.1; have := HSZ.out; rw [size_len] at HOl; omega) HSZ2.out)
          rw [bs_data] at HW
          clear hc2 ht2 HOl HTk c0 c1 c2 c3 c4 c5 f3 f4 f5 hbz
          go_wp2_with fail
          refine HW.out.mono ?_
          rintro e w3 ⟨rfl, hbi3, hb3⟩
          have HN := Lib.hid (HRr.out.bad HX.out.1 HX.out.2 HC2.out HT2.out hb3 hbi3)
          have HMn : Hid (mOf false (l1.drop l1.length) < g') := Lib.hid (by
            have h1 := HM.out
            have e1 : mOf true l1 = l1.length + 1 := rfl
            have e2 : mOf false (l1.drop l1.length) = 0 := rfl
            omega)
          clear hbi3 hb3 HW
          go_wp2_with fail
          go_roundg g'
          case measure => omega
          case rel => exact ⟨_, _, _, false, HMn, HN⟩
end Go.Proofs.YtgnkmfjleecmfaaGreatDoor
namespace Go.Proofs.YtgnkmfjleecmfaaGreatDoor
open Go.RowKit
/-- what a put comes to, closed or not -/
def srvP (h p f : List UInt8) (cl : Bool) (l s : List UInt8) : List UInt8 × List UInt8 × Nat × Bool := if cl = true then ([], l, 0, true) else srvOf h p f (l ++ s)
def RSPost (h p f : ByteArray) (n : Nat) (R : List UInt8 × List UInt8 × Nat × Bool) (w : World) (e : Ending) (w' : World) : Prop :=
  e = .returned (.tuple #[.agg #[.string h, .string p, .string f, .string (bs R.2.1), .bool R.2.2.2, .int .i64 ((n + R.2.2.1 : Nat) : Int)], .string (bs R.1)]) ∧ Below w.heap.size w w'
theorem six_all {w : World} {b : Nat} {x0 x1 x2 x3 x4 x5 : Value} {t : TypeId} (k : w.heap[b]? = some (.cells #[x0, x1, x2, x3, x4, x5] t (0, 0))) (y0 y1 y2 y3 y4 y5 : Value) :
    ((((((w.setCell ⟨b, 0, none⟩ y0).setCell ⟨b, 1, none⟩ y1).setCell ⟨b, 2, none⟩ y2).setCell ⟨b, 3, none⟩ y3).setCell ⟨b, 4, none⟩ y4).setCell ⟨b, 5, none⟩ y5).heap[b]? = some (.cells #[y0, y1, y2, y3, y4, y5] t (0, 0)) := by
  simp [World.setCell, Array.getElem?_modify, k]
theorem six_below {B : Nat} {w0 w : World} (h : Below B w0 w) (b : Nat) (hB : B ≤ b) (y0 y1 y2 y3 y4 y5 : Value) : Below B w0 ((((((w.setCell ⟨b, 0, none⟩ y0).setCell ⟨b, 1, none⟩ y1).setCell ⟨b, 2, none⟩ y2).setCell ⟨b, 3, none⟩ y3).setCell ⟨b, 4, none⟩ y4).setCell ⟨b, 5, none⟩ y5) :=
  (((((h.setCell (p := ⟨b, 0, none⟩) hB _).setCell (p := ⟨b, 1, none⟩) hB _).setCell (p := ⟨b, 2, none⟩) hB _).setCell (p := ⟨b, 3, none⟩) hB _).setCell (p := ⟨b, 4, none⟩) hB _).setCell (p := ⟨b, 5, none⟩) hB _
theorem six_free {w : World} {b : Nat} {x0 x1 x2 x3 x4 x5 : Value} {t : TypeId} (k : w.heap[b]? = some (.cells #[x0, x1, x2, x3, x4, x5] t (0, 0))) :
    w.frozen? ⟨b, 0, none⟩ = false ∧ w.frozen? ⟨b, 1, none⟩ = false ∧ w.frozen? ⟨b, 2, none⟩ = false ∧ w.frozen? ⟨b, 3, none⟩ = false ∧ w.frozen? ⟨b, 4, none⟩ = false ∧ w.frozen? ⟨b, 5, none⟩ = false := by
  refine ⟨?_, ?_, ?_, ?_, ?_, ?_⟩ <;> (unfold World.frozen?; rw [k]; rfl)
theorem set_far6 {w : World} {b c o : Nat} {y : Value} (h : b ≠ c) : (w.setCell ⟨c, o, none⟩ y).heap[b]? = w.heap[b]? := Below.heap_setCell _ _ _ _ h
/-- what is still to come, in the reference's loop -/
structure RGo (h p f : ByteArray) (n : Nat) (R : List UInt8 × List UInt8 × Nat × Bool) (l1 acc : List UInt8) (n1 : Nat) : Prop where
  go : R.1 = acc ++ (srvOf h.data.toList p.data.toList f.data.toList l1).1 ∧ R.2.1 = (srvOf h.data.toList p.data.toList f.data.toList l1).2.1 ∧ n + R.2.2.1 = n1 + (srvOf h.data.toList p.data.toList f.data.toList l1).2.2.1 ∧ R.2.2.2 = (srvOf h.data.toList p.data.toList f.data.toList l1).2.2.2
  ll : l1.length ≤ 100000
  al : acc.length ≤ R.1.length
  nl : n1 ≤ n + R.2.2.1
theorem RGo.more {h p f : ByteArray} {n : Nat} {R : List UInt8 × List UInt8 × Nat × Bool} {l1 acc : List UInt8} {n1 k : Nat} (g : RGo h p f n R l1 acc n1) (h0 : askE (bs l1) = 0) (hk : (askN (bs l1)).toNat = k) : RGo h p f n R (l1.drop k) (acc ++ orgS h.data.toList p.data.toList f.data.toList (bs (l1.take k))) (n1 + 1) := by
  obtain ⟨s1, s2, s3, s4⟩ := g.go
  rw [srv_more _ _ _ l1 h0, hk] at s1 s2 s3 s4
  simp only at s1 s2 s3 s4
  refine ⟨⟨by rw [s1, List.append_assoc], s2, by omega, s4⟩, ?_, ?_, by omega⟩
  · rw [List.length_drop]; have := g.ll; omega
  · rw [s1]; simp only [List.length_append]; omega
theorem RGo.short {w w9 : World} {h p f : ByteArray} {n : Nat} {R : List UInt8 × List UInt8 × Nat × Bool} {l1 acc : List UInt8} {n1 : Nat} (g : RGo h p f n R l1 acc n1) (h3 : askE (bs l1) = 3) (hb : Below w.heap.size w w9) :
    RSPost h p f n R w (.returned (.tuple #[.agg #[.string h, .string p, .string f, .string (bs l1), .bool false, .int .i64 (n1 : Nat)], .string (bs acc)])) w9 := by
  obtain ⟨s1, s2, s3, s4⟩ := g.go
  rw [srv_short _ _ _ l1 h3] at s1 s2 s3 s4
  simp only [List.append_nil, Nat.add_zero] at s1 s2 s3 s4
  exact ⟨by rw [s1, s2, s3, s4], hb⟩
theorem RGo.bad {w w9 : World} {h p f : ByteArray} {n : Nat} {R : List UInt8 × List UInt8 × Nat × Bool} {l1 acc : List UInt8} {n1 : Nat} (g : RGo h p f n R l1 acc n1) (h0 : askE (bs l1) ≠ 0) (h3 : askE (bs l1) ≠ 3) (hb : Below w.heap.size w w9) :
    RSPost h p f n R w (.returned (.tuple #[.agg #[.string h, .string p, .string f, .string (bs []), .bool true, .int .i64 ((n1 : Int) + 1)], .string (bs (acc ++ orgS h.data.toList p.data.toList f.data.toList (bs l1)))])) w9 := by
  obtain ⟨s1, s2, s3, s4⟩ := g.go
  rw [srv_bad _ _ _ l1 h0 h3] at s1 s2 s3 s4
  simp only at s1 s2 s3 s4
  exact ⟨by rw [s1, s2, s3, s4, Int.natCast_add]; rfl, hb⟩
end Go.Proofs.YtgnkmfjleecmfaaGreatDoor
namespace Go.Proofs.YtgnkmfjleecmfaaGreatDoor
open Go.RowKit Go.Shelf Go.Lib
/-- how many bytes stand in the first k pieces -/
def offF (l : List (List UInt8)) (k : Nat) : Nat := (l.take k).flatten.length
theorem offF_zero (l : List (List UInt8)) : offF l 0 = 0 := rfl
theorem offF_succ (l : List (List UInt8)) (k : Nat) (h : k < l.length) : offF l (k + 1) = offF l k + l[k].length := by
  unfold offF
  rw [List.take_succ_eq_append_getElem h, List.flatten_append, List.length_append]
  simp
theorem offF_all (l : List (List UInt8)) : offF l l.length = l.flatten.length := by unfold offF; rw [List.take_length]
theorem offF_le (l : List (List UInt8)) (k : Nat) : offF l k ≤ l.flatten.length := by
  unfold offF
  conv => rhs; rw [← List.take_append_drop k l, List.flatten_append, List.length_append]
  omega
def overB (l : List (List UInt8)) (most bytes : Nat) : Bool := decide (bytes < l.flatten.length) || decide (most < l.length)
theorem small46 (l : List (List UInt8)) (h : overB l 20 2000 = false) : l.length ≤ 20 ∧ l.flatten.length ≤ 2000 := by
  unfold overB at h
  rw [Bool.or_eq_false_iff, decide_eq_false_iff_not, decide_eq_false_iff_not] at h
  omega
end Go.Proofs.YtgnkmfjleecmfaaGreatDoor
