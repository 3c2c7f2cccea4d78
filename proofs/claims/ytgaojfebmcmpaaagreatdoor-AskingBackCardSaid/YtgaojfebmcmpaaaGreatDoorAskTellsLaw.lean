/- The law function AskingTells. -/
import Derived.Test.YtgaojfebmcmpaaaGreatDoorAskAwake
namespace Go.Proofs.YtgaojfebmcmpaaaGreatDoor
open Go.RowKit

theorem aparse_vals (s : ByteArray) : ∃ (P H : ByteArray) (a b n : Int) (e : Nat), askV s = .tuple #[.agg #[.string P, .string H, .int .i64 a, .int .i64 b], .int .i64 n, .int .i64 (e : Nat)] := ⟨_, _, _, _, _, _, rfl⟩
theorem cells_of {W : World} {b : Nat} {x y z u : Value} (h : Four W b x y z u) : (∀ p : BelowOf W, p.world.cell? ⟨b, 0, none⟩ = some x) ∧ (∀ p : BelowOf W, p.world.cell? ⟨b, 1, none⟩ = some y) ∧ (∀ p : BelowOf W, p.world.cell? ⟨b, 2, none⟩ = some z) ∧ (∀ p : BelowOf W, p.world.cell? ⟨b, 3, none⟩ = some u) :=
  ⟨fun p => cell_of p h.1 h.2.1, fun p => cell_of p h.1 h.2.2.1, fun p => cell_of p h.1 h.2.2.2.1, fun p => cell_of p h.1 h.2.2.2.2⟩
set_option maxRecDepth 100000 in
set_option maxHeartbeats 4000000 in
theorem askingTells_walk (p h : ByteArray) (a b : Int) (s : ByteArray) (w : World) (hE : EnvF w) (ha0 : -9223372036854775808 ≤ a) (ha : a ≤ 9223372036854775807) (hb0 : -9223372036854775808 ≤ b) (hb : b ≤ 9223372036854775807) (hp : p.size ≤ 9223372036854775807) (hh : h.size ≤ 9223372036854775807) (hs : s.size ≤ 9223372036854775807) :
    Calls Tryz.prog 3 #[.agg #[.string p, .string h, .int .i64 a, .int .i64 b], .string s] w fun e w' => e = .returned (.bool true) ∧ Below w.heap.size w w' := by
  have HE0 := Lib.hid (hE.below (below_agg4 w (.string p) (.string h) (.int .i64 a) (.int .i64 b) 25))
  have hbb := below_agg4 w (.string p) (.string h) (.int .i64 a) (.int .i64 b) 25
  clear hE
  by_cases h1 : (700 : Int) < (p.size : Int)
  · go_enter Tryz.func3, Tryz.ntmps3
    go_wp2_with fail
    refine (awake25 _ HE0.out).mono ?_
    rintro e w1 ⟨rfl, hb⟩
    go_wp2_with fail
    go_ret
    exact ⟨rfl, bstep hbb hb⟩
  by_cases h2 : (700 : Int) < (h.size : Int)
  · go_enter Tryz.func3, Tryz.ntmps3
    go_wp2_with fail
    refine (awake25 _ HE0.out).mono ?_
    rintro e w1 ⟨rfl, hb⟩
    go_wp2_with fail
    go_ret
    exact ⟨rfl, bstep hbb hb⟩
  by_cases h3 : (700 : Int) < (s.size : Int)
  · go_enter Tryz.func3, Tryz.ntmps3
    go_wp2_with fail
    refine (awake25 _ HE0.out).mono ?_
    rintro e w1 ⟨rfl, hb⟩
    go_wp2_with fail
    go_ret
    exact ⟨rfl, bstep hbb hb⟩
  have HA := Lib.hid (fun w hE => asking_print p h a b w hE ha0 ha hb0 hb)
  have HR := Lib.hid (fun w => ref_aprint p h a b w ha hb hp hh)
  have HC := Lib.hid (fun w => asking_check p h a b w)
  have HD := Lib.hid (fun w => ref_acheck p h a b w hp hh)
  have HP := Lib.hid (fun w hE => asking_parse s w (by omega) hE)
  have HQ := Lib.hid (fun w => ref_aparse s w (by omega))
  generalize bs (aPrint p.data.toList h.data.toList a b) = S at HA HR
  generalize aErr p.data.toList h.data.toList a b = E at HA HR HC HD
  obtain ⟨P1, H1, a1, b1, n1, e1, hv⟩ := aparse_vals s
  rw [hv] at HP HQ
  have Q0 := Lib.hid (Four.new w (.string p) (.string h) (.int .i64 a) (.int .i64 b) 25)
  have heq := eq_req
  have hgd := guard_req
  clear hv
  go_enter Tryz.func3, Tryz.ntmps3
  go_wp2_with fail
  refine (law_ownq p h a b _).mono ?_
  rintro e w1 ⟨rfl, hb1⟩
  have HE1 := Lib.hid (HE0.out.below hb1)
  have Q1 := Lib.hid (Q0.out.below hb1)
  have hb1' := bstep hbb hb1
  clear hb1 hbb Q0
  go_wp2_with fail
  refine (HA.out _ HE1.out).mono ?_
  rintro e w2 ⟨rfl, hb2⟩
  have HE2 := Lib.hid (HE1.out.below hb2)
  have Q2 := Q1.out.below hb2
  obtain ⟨lq, q0, q1, q2, q3⟩ := Q2
  have hb2' := bstep hb1' hb2
  clear hb2 hb1' Q1 HE1
  go_wp2_with fail
  refine (HR.out _).mono ?_
  rintro e w3 ⟨rfl, hb3⟩
  have HE3 := Lib.hid (HE2.out.below hb3)
  have Q3 := Lib.hid (Four.below ⟨lq, q0, q1, q2, q3⟩ hb3)
  have hb3' := bstep hb2' hb3
  clear hb3 hb2' HE2 lq q0 q1 q2 q3
  go_wp2_with fail
  refine (HP.out _ HE3.out).mono ?_
  rintro e w4 ⟨rfl, hb4⟩
  have HE4 := Lib.hid ((HE3.out.below hb4).below (below_agg4 w4 (.string P1) (.string H1) (.int .i64 a1) (.int .i64 b1) 32))
  have Q4 := Lib.hid ((Q3.out.below hb4).alloc (.cells #[.string P1, .string H1, .int .i64 a1, .int .i64 b1] 32))
  have X4 := Lib.hid (Four.new w4 (.string P1) (.string H1) (.int .i64 a1) (.int .i64 b1) 32)
  have hb4' := bstep hb3' (bstep hb4 (below_agg4 w4 (.string P1) (.string H1) (.int .i64 a1) (.int .i64 b1) 32))
  clear hb4 hb3' HE3 Q3
  go_wp2_with fail
  refine (HQ.out _).mono ?_
  rintro e w5 ⟨rfl, hb5⟩
  have HE5 := Lib.hid ((HE4.out.below hb5).below (below_agg4 w5 (.string P1) (.string H1) (.int .i64 a1) (.int .i64 b1) 25))
  have Q5 := (Q4.out.below hb5).alloc (.cells #[.string P1, .string H1, .int .i64 a1, .int .i64 b1] 25)
  have X5 := (X4.out.below hb5).alloc (.cells #[.string P1, .string H1, .int .i64 a1, .int .i64 b1] 25)
  have Y5 := Four.new w5 (.string P1) (.string H1) (.int .i64 a1) (.int .i64 b1) 25
  have hb5' := Lib.hid (bstep hb4' (bstep hb5 (below_agg4 w5 (.string P1) (.string H1) (.int .i64 a1) (.int .i64 b1) 25)))
  clear hb5 hb4' HE4 Q4 X4
  go_wp2_with fail
  generalize w5.alloc (.cells #[.string P1, .string H1, .int .i64 a1, .int .i64 b1] 25) = W0 at HE5 Q5 X5 Y5 hb5' ⊢
  obtain ⟨k0, k1, k2, k3⟩ := cells_of Q5
  obtain ⟨x0, x1, x2, x3⟩ := cells_of X5
  obtain ⟨y0, y1, y2, y3⟩ := cells_of Y5
  clear Q5 X5 Y5
  refine wp_region_quiet_below (by kernel_rfl) (by kernel_rfl) ?_
  repeat (go_big_quiet_step ((first
    | (go_at_call 17; exact below_of (law_ownq _ _ _ _ _))
    | (go_at_call 21; exact below_of (HC.out _))
    | (go_at_call 22; exact below_of (HD.out _))
    | (go_at_call 15; exact below_of (awake25 _ (HE5.out.below (BelowOf.below _))))
    | fail)))
  refine wpQuiet_nil ?_
  intro W1 hw'
  have hb6 := of_class hw'
  clear hw'
  go_wp2_with fail
  go_ret
  exact ⟨rfl, bstep hb5'.out hb6⟩
end Go.Proofs.YtgaojfebmcmpaaaGreatDoor
