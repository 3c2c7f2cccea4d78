/- What Ask of package ranges, and Ask, cut, two and Asked of its reference return. -/
import Derived.Test.YtgaojfebmcmpaaaGreatDoorRangesAsked
namespace Go.Proofs.YtgaojfebmcmpaaaGreatDoor
open Go.RowKit

theorem textR_len (a b : Int) (ha : a ≤ 9223372036854775807) (hb : b ≤ 9223372036854775807) : (textR a b).length ≤ 41 := by
  unfold textR
  have h1 := digL_len a ha
  have h2 := digL_len b hb
  rw [List.length_append, List.length_cons]; omega
theorem box_two {w w1 : World} {x y : Value} {t : TypeId} (hb : Below (w.alloc (.cells #[x, y] t)).heap.size (w.alloc (.cells #[x, y] t)) w1) : w1.cell? ⟨w.heap.size, 0, none⟩ = some x ∧ w1.cell? ⟨w.heap.size, 1, none⟩ = some y :=
  ⟨(two_of (two_box hb)).c0, (two_of (two_box hb)).c1⟩
theorem below_agg2 (w : World) (x y : Value) (t : TypeId) : Below w.heap.size w (w.alloc (.cells #[x, y] t)) := (Below.refl _ _).alloc (Nat.le_refl _) _
theorem ask_ok (a b : Int) (h : rErr a b = 0) (X : ByteArray) (hX : bs (textR a b) = X) : (⟨#[98, 121, 116, 101, 115, 61]⟩ : ByteArray) ++ X = bs (askL a b) := by
  unfold askL
  rw [if_pos h, ← hX]
  exact bs_cat asksL (textR a b)
set_option maxRecDepth 100000 in
set_option maxHeartbeats 1000000 in
theorem ranges_ask (a b : Int) (w : World) (hE : EnvF w) (ha0 : -9223372036854775808 ≤ a) (ha : a ≤ 9223372036854775807) (hb0 : -9223372036854775808 ≤ b) (hb : b ≤ 9223372036854775807) :
    Calls Tryz.prog 55 #[.agg #[.int .i64 a, .int .i64 b]] w fun e w' => e = .returned (.tuple #[.string (bs (askL a b)), .int .i64 (rErr a b : Nat)]) ∧ Below w.heap.size w w' := by
  have HK := Lib.hid (fun w => ranges_check a b w)
  have HT := Lib.hid (fun w hE => ranges_text a b w hE ha0 ha hb0 hb)
  have HE := Lib.hid (hE.below (below_agg2 w (.int .i64 a) (.int .i64 b) 30))
  clear hE
  by_cases hr : rErr a b = 0
  · obtain ⟨X, hX⟩ : ∃ X, bs (textR a b) = X := ⟨_, rfl⟩
    have hXs : X.size ≤ 41 := by rw [← hX, bs_size]; exact textR_len a b ha hb
    have HR := Lib.hid (ask_ok a b hr X hX)
    rw [hX] at HT
    have padd := fun w => run_string_add_sum (P := Tryz.prog) w ⟨#[98, 121, 116, 101, 115, 61]⟩ X (by show 6 + _ ≤ _; omega)
    rw [hr]
    rw [hr] at HK
    clear hr hX
    go_enter Tryz.func55, Tryz.ntmps55
    go_wp2_with fail
    refine (HK.out _).mono ?_
    rintro e w1 ⟨rfl, hb1⟩
    obtain ⟨c0, c1⟩ := box_two hb1
    have HE1 := Lib.hid (HE.out.below hb1)
    have hb1' := bstep (below_agg2 w _ _ _) hb1
    clear hb1
    go_wp2_with fail
    refine (HT.out _ HE1.out).mono ?_
    rintro e w2 ⟨rfl, hb2⟩
    go_wp2_with fail
    go_ret2
    exact ⟨by rw [← HR.out]; rfl, bstep hb1' hb2⟩
  · obtain ⟨h8, -⟩ := rErr_no _ _ hr
    have HR : Hid (askL a b = []) := Lib.hid (by unfold askL; rw [if_neg hr])
    rw [h8]
    rw [h8] at HK
    clear hr h8 HT
    go_enter Tryz.func55, Tryz.ntmps55
    go_wp2_with fail
    refine (HK.out _).mono ?_
    rintro e w1 ⟨rfl, hb1⟩
    go_wp2_with fail
    go_ret2
    exact ⟨by rw [HR.out]; rfl, bstep (below_agg2 w _ _ _) hb1⟩
set_option maxRecDepth 100000 in
set_option maxHeartbeats 1000000 in
theorem ref_ask (a b : Int) (w : World) (ha : a ≤ 9223372036854775807) (hb : b ≤ 9223372036854775807) :
    Calls Tryz.prog 58 #[.agg #[.int .i64 a, .int .i64 b]] w fun e w' => e = .returned (.tuple #[.string (bs (askL a b)), .int .i64 (rErr a b : Nat)]) ∧ Below w.heap.size w w' := by
  have HK := Lib.hid (fun w => ref_rcheck a b w)
  by_cases hr : rErr a b = 0
  · have HA := Lib.hid (fun w => ref_digitsZ a w ha)
    have HB := Lib.hid (fun w => ref_digitsZ b w hb)
    obtain ⟨X, hX⟩ : ∃ X, bs (digL a) = X := ⟨_, rfl⟩
    obtain ⟨Y, hY⟩ : ∃ Y, bs (digL b) = Y := ⟨_, rfl⟩
    have hXs : X.size ≤ 20 := by rw [← hX, bs_size]; exact digL_len a ha
    have hYs : Y.size ≤ 20 := by rw [← hY, bs_size]; exact digL_len b hb
    have HR : Hid (((⟨#[98, 121, 116, 101, 115, 61]⟩ ++ X) ++ ⟨#[45]⟩) ++ Y = bs (askL a b)) := Lib.hid (by
      unfold askL
      rw [if_pos hr, ← hX, ← hY, show (⟨#[98, 121, 116, 101, 115, 61]⟩ : ByteArray) = bs asksL from rfl, show (⟨#[45]⟩ : ByteArray) = bs [45] from rfl, bs_cat, bs_cat, bs_cat]
      unfold textR; simp)
    rw [hX] at HA
    rw [hY] at HB
    have p1 := fun w => run_string_add_sum (P := Tryz.prog) w ⟨#[98, 121, 116, 101, 115, 61]⟩ X (by show 6 + _ ≤ _; omega)
    have p2 := fun w => run_string_add_sum (P := Tryz.prog) w (⟨#[98, 121, 116, 101, 115, 61]⟩ ++ X) ⟨#[45]⟩ (by rw [ByteArray.size_append]; show 6 + _ + 1 ≤ _; omega)
    have p3 := fun w => run_string_add_sum (P := Tryz.prog) w ((⟨#[98, 121, 116, 101, 115, 61]⟩ ++ X) ++ ⟨#[45]⟩) Y (by rw [ByteArray.size_append, ByteArray.size_append]; show 6 + _ + 1 + _ ≤ _; omega)
    rw [hr]
    rw [hr] at HK
    clear hr hX hY
    go_enter Tryz.func58, Tryz.ntmps58
    go_wp2_with fail
    refine (HK.out _).mono ?_
    rintro e w1 ⟨rfl, hb1⟩
    obtain ⟨c0, c1⟩ := box_two hb1
    have hbl : w.heap.size < w1.heap.size := by have := hb1.size; simp at this; omega
    have hb1' := Lib.hid (bstep (below_agg2 w _ _ _) hb1)
    clear hb1
    go_wp2_with fail
    have k0 : ∀ p : BelowOf w1, p.world.cell? ⟨w.heap.size, 0, none⟩ = some (.int .i64 a) := fun p => cell_of p hbl c0
    have k1 : ∀ p : BelowOf w1, p.world.cell? ⟨w.heap.size, 1, none⟩ = some (.int .i64 b) := fun p => cell_of p hbl c1
    clear c0 c1
    refine wp_region_quiet_below (by kernel_rfl) (by kernel_rfl) ?_
    repeat (go_big_quiet_step (fail))
    go_big_quiet_step ((go_at_call 84; exact below_same (HA.out _)))
    repeat (go_big_quiet_step (fail))
    go_big_quiet_step ((go_at_call 84; exact below_same (HB.out _)))
    repeat (go_big_quiet_step (fail))
    refine wpQuiet_nil ?_
    intro W1 hw'
    have hb2 := of_class hw'
    clear hw'
    go_wp2_with fail
    go_ret2
    exact ⟨by rw [← HR.out]; rfl, bstep hb1'.out hb2⟩
  · obtain ⟨h8, -⟩ := rErr_no _ _ hr
    have HR : Hid (askL a b = []) := Lib.hid (by unfold askL; rw [if_neg hr])
    rw [h8]
    rw [h8] at HK
    clear hr h8
    go_enter Tryz.func58, Tryz.ntmps58
    go_wp2_with fail
    refine (HK.out _).mono ?_
    rintro e w1 ⟨rfl, hb1⟩
    go_wp2_with fail
    go_ret2
    exact ⟨by rw [HR.out]; rfl, bstep (below_agg2 w _ _ _) hb1⟩
end Go.Proofs.YtgaojfebmcmpaaaGreatDoor
