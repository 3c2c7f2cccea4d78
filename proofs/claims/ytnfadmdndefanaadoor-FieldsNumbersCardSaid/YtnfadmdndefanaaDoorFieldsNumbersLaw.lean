/- The law function FieldsNumbers. -/
import Derived.Test.YtnfadmdndefanaaDoorFieldsGetsLaw
namespace Go.Proofs.YtnfadmdndefanaaDoor
open Go.RowKit

theorem number_num (s : ByteArray) (v : Int) (e : Nat) (h : (numV s.data.toList : Int) = v ∧ numE s.data.toList = e) (w : World) (hs : s.size ≤ 1000000) (hE : EnvF w) :
    Calls Tryd.prog 41 #[.string s] w fun r w' => r = .returned (.tuple #[.int .i64 v, .int .i64 e]) ∧ Below w.heap.size w w' := by
  have := fields_number s w hs hE
  rw [h.1, h.2] at this
  exact this
theorem digL_size (n : Int) (h1 : n ≤ 9223372036854775807) : (bs (digL n)).size ≤ 20 := by
  rw [bs_size]
  unfold digL
  split
  · exact Nat.zero_le _
  · exact decDigits_len n.toNat (by omega)

set_option maxRecDepth 100000 in
set_option maxHeartbeats 8000000 in
theorem fieldsNumbers_walk (n : Int) (s : ByteArray) (w : World) (hE : EnvF w) (hs : s.size ≤ 9223372036854775807) (h0 : -9223372036854775808 ≤ n) (h1 : n ≤ 9223372036854775807) :
    Calls Tryd.prog 11 #[.int .i64 n, .string s] w fun e w' => e = .returned (.bool true) ∧ Below w.heap.size w w' := by
  have HE := Lib.hid hE
  clear hE
  by_cases hsl : (400 : Int) < (s.size : Int)
  · go_enter Tryd.func11, Tryd.ntmps11
    go_wp2_with fail
    refine (awake22 _ HE.out).mono ?_
    rintro e w1 ⟨rfl, hb⟩
    go_wp2_with fail
    go_ret
    exact ⟨rfl, hb⟩
  · have hD := Lib.hid (fun w hE => fields_digits n h0 h1 w hE)
    have hDs := digL_size n h1
    have key : ∃ (X : Int) (E : Nat), ((n < 0 ∧ X = 0 ∧ E = 4) ∨ (0 ≤ n ∧ n ≤ 9007199254740991 ∧ X = n ∧ E = 0) ∨ (9007199254740991 < n ∧ X = 0 ∧ E = 11)) ∧ (numV (bs (digL n)).data.toList : Int) = X ∧ numE (bs (digL n)).data.toList = E := by
      rw [bs_data]
      by_cases hn : n < 0
      · refine ⟨0, 4, .inl ⟨hn, rfl, rfl⟩, ?_⟩
        rw [show digL n = [] from if_pos hn]; exact ⟨rfl, rfl⟩
      · obtain ⟨k, rfl⟩ := Int.eq_ofNat_of_zero_le (show 0 ≤ n by omega)
        have hk := num_digits k
        rw [show digL (k : Int) = Go.Lib.decDigits k from if_neg hn]
        by_cases hb : 9007199254740991 < k
        · rw [if_pos hb, if_pos hb] at hk
          exact ⟨0, 11, .inr (.inr ⟨by omega, rfl, rfl⟩), by rw [hk.2]; rfl, hk.1⟩
        · rw [if_neg hb, if_neg hb] at hk
          exact ⟨k, 0, .inr (.inl ⟨by omega, by omega, rfl, rfl⟩), by rw [hk.2], hk.1⟩
    obtain ⟨X, E, hc, hX⟩ := key
    obtain ⟨D, hDe⟩ : ∃ D, D = bs (digL n) := ⟨_, rfl⟩
    rw [← hDe] at hD hDs hX
    have hN := fun w hE => number_num D X E hX w (by omega) hE
    clear hDe hX hDs
    have hy := num_cases s.data.toList
    rcases hc with ⟨c1, rfl, rfl⟩ | ⟨c1, c2, rfl, rfl⟩ | ⟨c1, rfl, rfl⟩
    case' inl =>
      have HN := Lib.hid hN
      have t1 : decide (n < 0) = true := decide_eq_true c1
      have t2 : decide (n ≥ 0) = false := decide_eq_false (by omega)
      have t3 : decide (n > 9007199254740991) = false := decide_eq_false (by omega)
    case' inr.inl =>
      have HN := Lib.hid hN
      have t1 : decide (X < 0) = false := decide_eq_false (by omega)
      have t2 : decide (X ≥ 0) = true := decide_eq_true c1
      have t3 : decide (X > 9007199254740991) = false := decide_eq_false (by omega)
      have t4 : decide (X ≤ 9007199254740991) = true := decide_eq_true c2
    case' inr.inr =>
      have HN := Lib.hid hN
      have t1 : decide (n < 0) = false := decide_eq_false (by omega)
      have t2 : decide (n ≥ 0) = true := decide_eq_true (by omega)
      have t3 : decide (n > 9007199254740991) = true := decide_eq_true c1
      have t4 : decide (n ≤ 9007199254740991) = false := decide_eq_false (by omega)
    all_goals
      clear hN
      rcases hy with hy | hy | hy
      · obtain ⟨y1, y2, y3⟩ := num_zero _ hy
        obtain ⟨Y, hY⟩ : ∃ Y, Y = decV s.data.toList := ⟨_, rfl⟩
        have HM := Lib.hid (fun w hE => number_num s Y 0 ⟨by rw [y1, hY], hy⟩ w (by omega) hE)
        rw [← hY] at y2 y3
        have hDY := fun w hE => fields_digits (Y : Int) (by omega) (by omega) w hE
        rw [y3, bs_self] at hDY
        have HDY := Lib.hid hDY
        have y5 : decide ((Y : Int) ≥ 0) = true := decide_eq_true (by omega)
        have y6 : decide ((Y : Int) ≤ 9007199254740991) = true := decide_eq_true (by omega)
        clear hy y1 y2 y3 hY hDY
        go_enter Tryd.func11, Tryd.ntmps11
        go_wp2_with fail
        refine (hD.out _ HE.out).mono ?_
        rintro e w1 ⟨rfl, hb1⟩
        have HE1 := Lib.hid (HE.out.below hb1)
        go_wp2_with fail
        refine (HN.out _ HE1.out).mono ?_
        rintro e w2 ⟨rfl, hb2⟩
        have HE2 := Lib.hid (HE1.out.below hb2)
        go_wp2_with fail
        refine (HM.out _ HE2.out).mono ?_
        rintro e w3 ⟨rfl, hb3⟩
        have HE3 := Lib.hid (HE2.out.below hb3)
        go_wp2_with fail
        refine (HDY.out _ HE3.out).mono ?_
        rintro e w4 ⟨rfl, hb4⟩
        have HE4 := Lib.hid (HE3.out.below hb4)
        go_wp2_with fail
        refine (awake22 _ HE4.out).mono ?_
        rintro e w5 ⟨rfl, hb5⟩
        go_wp2_with fail
        go_ret
        exact ⟨rfl, bstep hb1 (bstep hb2 (bstep hb3 (bstep hb4 hb5)))⟩
      · have HM := Lib.hid (fun w hE => number_num s 0 4 ⟨by unfold numV; rw [hy]; rfl, hy⟩ w (by omega) hE)
        have hz : s.size + 1 ≤ 9223372036854775807 := by omega
        have hone : (ByteArray.mk #[48]).size = 1 := rfl
        have hs0 : (s ++ ⟨#[48]⟩).size ≤ 1000000 := by rw [ByteArray.size_append]; show s.size + 1 ≤ _; omega
        have HZ := Lib.hid (fun w hE => fields_number (s ++ ⟨#[48]⟩) w hs0 hE)
        generalize numV (s ++ ⟨#[48]⟩).data.toList = P at HZ
        generalize numE (s ++ ⟨#[48]⟩).data.toList = Q at HZ
        clear hy hs0
        go_enter Tryd.func11, Tryd.ntmps11
        go_wp2_with fail
        refine (hD.out _ HE.out).mono ?_
        rintro e w1 ⟨rfl, hb1⟩
        have HE1 := Lib.hid (HE.out.below hb1)
        go_wp2_with fail
        refine (HN.out _ HE1.out).mono ?_
        rintro e w2 ⟨rfl, hb2⟩
        have HE2 := Lib.hid (HE1.out.below hb2)
        go_wp2_with fail
        refine (HM.out _ HE2.out).mono ?_
        rintro e w3 ⟨rfl, hb3⟩
        have HE3 := Lib.hid (HE2.out.below hb3)
        go_wp2_with fail
        refine (HZ.out _ HE3.out).mono ?_
        rintro e w4 ⟨rfl, hb4⟩
        have HE4 := Lib.hid (HE3.out.below hb4)
        go_wp2_with fail
        refine (awake22 _ HE4.out).mono ?_
        rintro e w5 ⟨rfl, hb5⟩
        go_wp2_with fail
        go_ret
        exact ⟨rfl, bstep hb1 (bstep hb2 (bstep hb3 (bstep hb4 hb5)))⟩
      · have HM := Lib.hid (fun w hE => number_num s 0 11 ⟨by unfold numV; rw [hy]; rfl, hy⟩ w (by omega) hE)
        have hz : s.size + 1 ≤ 9223372036854775807 := by omega
        have hone : (ByteArray.mk #[48]).size = 1 := rfl
        have hs0 : (s ++ ⟨#[48]⟩).size ≤ 1000000 := by rw [ByteArray.size_append]; show s.size + 1 ≤ _; omega
        have HZ := Lib.hid (fun w hE => number_num (s ++ ⟨#[48]⟩) 0 11 (by
          have := over_more _ hy
          rw [data_cat]
          exact ⟨by unfold numV; rw [show numE (s.data.toList ++ (ByteArray.mk #[48]).data.toList) = 11 from this]; rfl, this⟩) w hs0 hE)
        clear hy hs0
        go_enter Tryd.func11, Tryd.ntmps11
        go_wp2_with fail
        refine (hD.out _ HE.out).mono ?_
        rintro e w1 ⟨rfl, hb1⟩
        have HE1 := Lib.hid (HE.out.below hb1)
        go_wp2_with fail
        refine (HN.out _ HE1.out).mono ?_
        rintro e w2 ⟨rfl, hb2⟩
        have HE2 := Lib.hid (HE1.out.below hb2)
        go_wp2_with fail
        refine (HM.out _ HE2.out).mono ?_
        rintro e w3 ⟨rfl, hb3⟩
        have HE3 := Lib.hid (HE2.out.below hb3)
        go_wp2_with fail
        refine (HZ.out _ HE3.out).mono ?_
        rintro e w4 ⟨rfl, hb4⟩
        have HE4 := Lib.hid (HE3.out.below hb4)
        go_wp2_with fail
        refine (awake22 _ HE4.out).mono ?_
        rintro e w5 ⟨rfl, hb5⟩
        go_wp2_with fail
        go_ret
        exact ⟨rfl, bstep hb1 (bstep hb2 (bstep hb3 (bstep hb4 hb5)))⟩
end Go.Proofs.YtnfadmdndefanaaDoor
