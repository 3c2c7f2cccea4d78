/- The law functions of layer 23: StatusTells, StatusBack. -/
import Derived.Test.YtnfadmdndefanaaDoorStatusPlain3
namespace Go.Proofs.YtnfadmdndefanaaDoor
open Go.RowKit

theorem print404 : (statusLine (404 : Nat) : ByteArray) = ⟨#[72, 84, 84, 80, 47, 49, 46, 49, 32, 52, 48, 52, 32, 78, 111, 116, 32, 70, 111, 117, 110, 100]⟩ := by
  have h := statusLine_data 404 (by decide) (by decide)
  rw [← bs_self (statusLine (404 : Nat)), h]
  decide +kernel
theorem st404 : printOf 404 = ⟨#[72, 84, 84, 80, 47, 49, 46, 49, 32, 52, 48, 52, 32, 78, 111, 116, 32, 70, 111, 117, 110, 100]⟩ ∧ printErr 404 = 0 :=
  ⟨(if_neg (by decide)).trans print404, if_neg (by decide)⟩
theorem st99 : printOf 99 = ⟨#[]⟩ ∧ printErr 99 = 8 := ⟨if_pos (by decide), if_pos (by decide)⟩
theorem sp206 : statusOf (ByteArray.mk #[72, 84, 84, 80, 47, 49, 46, 49, 32, 50, 48, 54, 32, 120]).data.toList = (206, 0) := by decide +kernel
theorem sp10 : statusOf (ByteArray.mk #[72, 84, 84, 80, 47, 49, 46, 48, 32, 50, 48, 54]).data.toList = (0, 13) := by decide +kernel
theorem sp20 : statusOf (ByteArray.mk #[72, 84, 84, 80, 47, 49, 46, 49, 32, 50, 48]).data.toList = (0, 4) := by decide +kernel

theorem parse_at (s : ByteArray) (n : Int) (e : Nat) (h : statusOf s.data.toList = (n, e)) (w : World) (hs : s.size ≤ 9223372036854775807) :
    Calls Tryd.prog 28 #[.string s] w fun r w' => r = .returned (.tuple #[.int .i64 n, .int .i64 e]) ∧ Below w.heap.size w w' := by
  have := status_parse s w hs
  rw [h] at this
  exact this
theorem print_at (code : Int) (S : ByteArray) (e : Nat) (h : printOf code = S ∧ printErr code = e) (w : World) (hE : Env w) (h0 : -9223372036854775808 ≤ code) (h1 : code ≤ 9223372036854775807) :
    Calls Tryd.prog 30 #[.int .i64 code] w fun r w' => r = .returned (.tuple #[.string S, .int .i64 e]) ∧ Below w.heap.size w w' := by
  have := status_print code w hE h0 h1
  rw [h.1, h.2] at this
  exact this

set_option maxRecDepth 100000 in
set_option maxHeartbeats 2000000 in
theorem awake23 (w : World) (hE : Env w) :
    Calls Tryd.prog 27 #[] w fun e w' => e = .returned (.bool true) ∧ Below w.heap.size w w' := by
  have HE := Lib.hid hE
  clear hE
  have r1 : reasonOf 7 = ⟨#[79, 116, 104, 101, 114]⟩ := rfl
  have r2 : classOf 502 = 5 := rfl
  have r3 : classOf 600 = 0 := rfl
  go_enter Tryd.func27, Tryd.ntmps27
  go_wp2_with fail
  refine (print_at 404 _ _ st404 _ HE.out (by decide) (by decide)).mono ?_
  rintro e w1 ⟨rfl, hb1⟩
  have HE1 := Lib.hid (HE.out.below hb1)
  go_wp2_with fail
  refine (print_at 99 _ _ st99 _ HE1.out (by decide) (by decide)).mono ?_
  rintro e w2 ⟨rfl, hb2⟩
  go_wp2_with fail
  refine (parse_at _ _ _ sp206 _ (by decide)).mono ?_
  rintro e w3 ⟨rfl, hb3⟩
  go_wp2_with fail
  refine (parse_at _ _ _ sp10 _ (by decide)).mono ?_
  rintro e w4 ⟨rfl, hb4⟩
  go_wp2_with fail
  refine (parse_at _ _ _ sp20 _ (by decide)).mono ?_
  rintro e w5 ⟨rfl, hb5⟩
  have hb := bstep hb1 (bstep hb2 (bstep hb3 (bstep hb4 hb5)))
  clear hb1 hb2 hb3 hb4 hb5 HE HE1
  go_wp2_with (first
    | (go_at_call 32; refine (status_reason _ _).mono ?_; rintro e w' ⟨rfl, rfl⟩)
    | (go_at_call 34; refine (status_class _ _).mono ?_; rintro e w' ⟨rfl, rfl⟩))
  go_ret
  exact ⟨rfl, hb⟩

theorem statusOf_err (l : List UInt8) : (statusOf l).2 ≤ 13 := by
  unfold statusOf
  split
  · decide
  · split
    · decide
    · unfold codeOf
      split
      · (repeat' split) <;> first | decide | exact Nat.zero_le _
      · decide

set_option maxRecDepth 100000 in
set_option maxHeartbeats 4000000 in
theorem statusTells_walk (s : ByteArray) (code : Int) (w : World) (hE : Env w) (hs : s.size ≤ 9223372036854775807) (h0 : -9223372036854775808 ≤ code) (h1 : code ≤ 9223372036854775807) :
    Calls Tryd.prog 8 #[.string s, .int .i64 code] w fun e w' => e = .returned (.bool true) ∧ Below w.heap.size w w' := by
  have HE := Lib.hid hE
  clear hE
  by_cases hl : (400 : Int) < (s.size : Int)
  · go_enter Tryd.func8, Tryd.ntmps8
    go_wp2_with (go_at_call 27; refine (awake23 _ HE.out).mono ?_; rintro e w' ⟨rfl, hb⟩)
    go_ret
    exact ⟨rfl, by assumption⟩
  · have e13 := statusOf_err s.data.toList
    have hE8 : printErr code ≤ 8 := by unfold printErr; split <;> decide
    have hP := fun w => status_parse s w hs
    have hQ := fun w => ref_status_parse s w hs
    obtain ⟨n, hn⟩ : ∃ n, n = (statusOf s.data.toList).1 := ⟨_, rfl⟩
    obtain ⟨e, he⟩ : ∃ e, e = (statusOf s.data.toList).2 := ⟨_, rfl⟩
    rw [← he] at e13
    rw [← hn, ← he] at hP hQ
    obtain ⟨S, hS⟩ : ∃ S, S = printOf code := ⟨_, rfl⟩
    obtain ⟨f, hf⟩ : ∃ f, f = printErr code := ⟨_, rfl⟩
    have hA := fun w hE => status_print code w hE h0 h1
    have hB := fun w => ref_print code w h0 h1
    rw [← hf] at hE8
    rw [← hS, ← hf] at hA hB
    obtain ⟨T, hT⟩ : ∃ T, T = reasonOf code := ⟨_, rfl⟩
    obtain ⟨C, hC⟩ : ∃ C, C = classOf code := ⟨_, rfl⟩
    have hR1 := fun w => status_reason code w
    have hR2 := fun w => ref_reason code w
    have hC1 := fun w => status_class code w
    have hC2 := fun w => ref_class code w
    rw [← hT] at hR1 hR2
    rw [← hC] at hC1 hC2
    have HP := Lib.hid hP
    have HQ := Lib.hid hQ
    have HA := Lib.hid hA
    have HB := Lib.hid hB
    have HR1 := Lib.hid hR1
    have HR2 := Lib.hid hR2
    have HC1 := Lib.hid hC1
    have HC2 := Lib.hid hC2
    clear hP hQ hA hB hn he hS hf hT hC hR1 hR2 hC1 hC2
    go_enter Tryd.func8, Tryd.ntmps8
    go_wp2_with fail
    refine (HP.out _).mono ?_
    rintro r w1 ⟨rfl, hb1⟩
    go_wp2_with fail
    refine (HQ.out _).mono ?_
    rintro r w' ⟨rfl, rfl⟩
    go_wp2_with fail
    refine (HA.out _ (HE.out.below hb1)).mono ?_
    rintro r w2 ⟨rfl, hb2⟩
    go_wp2_with fail
    refine (HB.out _).mono ?_
    rintro r w3 ⟨rfl, hb3⟩
    go_wp2_with fail
    refine (HR1.out _).mono ?_
    rintro r w' ⟨rfl, rfl⟩
    go_wp2_with fail
    refine (HR2.out _).mono ?_
    rintro r w4 ⟨rfl, hb4⟩
    go_wp2_with fail
    refine (HC1.out _).mono ?_
    rintro r w' ⟨rfl, rfl⟩
    go_wp2_with fail
    refine (HC2.out _).mono ?_
    rintro r w' ⟨rfl, rfl⟩
    have hb14 := bstep hb1 (bstep hb2 (bstep hb3 hb4))
    have HE4 := Lib.hid (HE.out.below hb14)
    clear HP HQ HA HB HR1 HR2 HC1 HC2
    go_wp2_with fail
    refine (awake23 _ HE4.out).mono ?_
    rintro r w5 ⟨rfl, hb5⟩
    go_wp2_with fail
    go_ret
    exact ⟨rfl, bstep hb14 hb5⟩

set_option maxRecDepth 100000 in
set_option maxHeartbeats 4000000 in
theorem statusBack_walk (code : Int) (words : ByteArray) (w : World) (hE : Env w) (hs : words.size ≤ 9223372036854775807) (h0 : -9223372036854775808 ≤ code) (h1 : code ≤ 9223372036854775807) :
    Calls Tryd.prog 9 #[.int .i64 code, .string words] w fun e w' => e = .returned (.bool true) ∧ Below w.heap.size w w' := by
  have HE := Lib.hid hE
  clear hE
  by_cases hl : (200 : Int) < (words.size : Int)
  · go_enter Tryd.func9, Tryd.ntmps9
    go_wp2_with (go_at_call 27; refine (awake23 _ HE.out).mono ?_; rintro e w' ⟨rfl, hb⟩)
    go_ret
    exact ⟨rfl, by assumption⟩
  · by_cases hlo : code < 100
    · have hc := class_out code (.inl hlo)
      have hA := fun w hE => status_print code w hE h0 h1
      rw [show printOf code = ⟨#[]⟩ from if_pos hc, show printErr code = 8 from if_pos hc] at hA
      have hC := fun w => status_class code w
      rw [hc] at hC
      have HA := Lib.hid hA
      have HC := Lib.hid hC
      clear hA hC hc
      go_enter Tryd.func9, Tryd.ntmps9
      go_wp2_with fail
      refine (HA.out _ HE.out).mono ?_
      rintro r w1 ⟨rfl, hb1⟩
      go_wp2_with fail
      refine (HC.out _).mono ?_
      rintro r w' ⟨rfl, rfl⟩
      have HE1 := Lib.hid (HE.out.below hb1)
      go_wp2_with (go_at_call 27; refine (awake23 _ HE1.out).mono ?_; rintro e w2 ⟨rfl, hb2⟩)
      go_ret
      exact ⟨rfl, bstep hb1 (by assumption)⟩
    · by_cases hhi : 599 < code
      · have hc := class_out code (.inr hhi)
        have hA := fun w hE => status_print code w hE h0 h1
        rw [show printOf code = ⟨#[]⟩ from if_pos hc, show printErr code = 8 from if_pos hc] at hA
        have hC := fun w => status_class code w
        rw [hc] at hC
        have HA := Lib.hid hA
        have HC := Lib.hid hC
        clear hA hC hc
        go_enter Tryd.func9, Tryd.ntmps9
        go_wp2_with fail
        refine (HA.out _ HE.out).mono ?_
        rintro r w1 ⟨rfl, hb1⟩
        go_wp2_with fail
        refine (HC.out _).mono ?_
        rintro r w' ⟨rfl, rfl⟩
        have HE1 := Lib.hid (HE.out.below hb1)
        go_wp2_with (go_at_call 27; refine (awake23 _ HE1.out).mono ?_; rintro e w2 ⟨rfl, hb2⟩)
        go_ret
        exact ⟨rfl, bstep hb1 (by assumption)⟩
      · obtain ⟨n, rfl⟩ := Int.eq_ofNat_of_zero_le (show 0 ≤ code by omega)
        have n1 : 100 ≤ n := by omega
        have n2 : n ≤ 599 := by omega
        have hcl := class_pos (n : Int) (by omega) (by omega)
        have hc0 : ¬ classOf (n : Int) = 0 := by omega
        have hC := fun w => status_class (n : Int) w
        have hcv := class_in (n : Int) (by omega) (by omega)
        rw [hcv] at hC hcl
        obtain ⟨c1, c2⟩ := hcl
        have hA := fun w hE => status_print (n : Int) w hE h0 h1
        rw [show printOf (n : Int) = statusLine (n : Int) from if_neg hc0, show printErr (n : Int) = 0 from if_neg hc0] at hA
        have hlen := statusLine_len n n1 (by omega)
        have hr := reason_size (n : Int)
        obtain ⟨S, hS⟩ : ∃ S, S = statusLine (n : Int) := ⟨_, rfl⟩
        have hput := fun w => lines_put S w (by rw [hS]; omega)
        rw [hS, status_print_put n n1 n2, ← hS] at hput
        obtain ⟨PL, hPL⟩ : ∃ PL, PL = putLine S := ⟨_, rfl⟩
        rw [← hPL] at hput
        have hp1 := fun w => parse_at S n 0 (by rw [hS]; exact status_print_parse n n1 n2) w (by rw [hS]; omega)
        have hp2 := fun w => parse_at (S.extract 0 12) n 0 (by rw [hS]; exact status_cut12 n n1 n2) w (by rw [ByteArray.size_extract]; omega)
        have hS13 : 13 ≤ S.size := by rw [hS]; omega
        have hS34 : S.size ≤ 34 := by rw [hS]; omega
        have hcat : (S.extract 0 13).size + words.size ≤ 9223372036854775807 := by rw [ByteArray.size_extract]; omega
        have hp3 := status_cut13 n n1 n2 words
        rw [← hS] at hp3 hA
        have hpw := fun w => lines_put words w hs
        obtain ⟨WL, hWL⟩ : ∃ WL, WL = putLine words := ⟨_, rfl⟩
        rw [← hWL] at hpw
        have hZ : (S.extract 0 13 ++ words).size ≤ 9223372036854775807 := by rw [ByteArray.size_append]; exact hcat
        have HA := Lib.hid hA
        have HC := Lib.hid hC
        have Hput := Lib.hid hput
        have Hp1 := Lib.hid hp1
        have Hp2 := Lib.hid hp2
        clear hA hC hput hp1 hp2 hS hPL hWL hlen hr hcv hc0 hlo hhi
        by_cases hw4 : putErr words.data.toList = 4
        · rw [if_pos hw4] at hp3
          rw [hw4] at hpw
          have Hp3 := Lib.hid (fun w => parse_at _ _ _ hp3 w hZ)
          have Hpw := Lib.hid hpw
          clear hpw hp3 hw4
          go_enter Tryd.func9, Tryd.ntmps9
          go_wp2_with fail
          refine (HA.out _ HE.out).mono ?_
          rintro r w1 ⟨rfl, hb1⟩
          go_wp2_with fail
          refine (HC.out _).mono ?_
          rintro r w' ⟨rfl, rfl⟩
          go_wp2_with fail
          refine (Hput.out _).mono ?_
          rintro r w' ⟨rfl, rfl⟩
          go_wp2_with fail
          refine (Hp1.out _).mono ?_
          rintro r w2 ⟨rfl, hb2⟩
          go_wp2_with fail
          refine (Hp2.out _).mono ?_
          rintro r w3 ⟨rfl, hb3⟩
          go_wp2_with fail
          refine (Hp3.out _).mono ?_
          rintro r w4 ⟨rfl, hb4⟩
          go_wp2_with fail
          refine (Hpw.out _).mono ?_
          rintro r w' ⟨rfl, rfl⟩
          have hb14 := bstep hb1 (bstep hb2 (bstep hb3 hb4))
          have HE4 := Lib.hid (HE.out.below hb14)
          go_wp2_with (go_at_call 27; refine (awake23 _ HE4.out).mono ?_; rintro e w5 ⟨rfl, hb5⟩)
          go_ret
          exact ⟨rfl, bstep hb14 (by assumption)⟩
        · rw [if_neg hw4] at hp3
          obtain ⟨E, hEq⟩ : ∃ E, E = putErr words.data.toList := ⟨_, rfl⟩
          rw [← hEq] at hpw hw4
          have e4 : ((E : Int) == 4) = false := by rw [beq_eq_false_iff_ne]; omega
          have e4n : ¬ (E : Int) = 4 := by omega
          have e4b : ((E : Int) != 4) = true := by rw [bne_iff_ne]; omega
          have e4' : (E == 4) = false := by rw [beq_eq_false_iff_ne]; omega
          have Hp3 := Lib.hid (fun w => parse_at _ _ _ hp3 w hZ)
          have Hpw := Lib.hid hpw
          clear hpw hp3 hw4 hEq
          go_enter Tryd.func9, Tryd.ntmps9
          go_wp2_with fail
          refine (HA.out _ HE.out).mono ?_
          rintro r w1 ⟨rfl, hb1⟩
          go_wp2_with fail
          refine (HC.out _).mono ?_
          rintro r w' ⟨rfl, rfl⟩
          go_wp2_with fail
          refine (Hput.out _).mono ?_
          rintro r w' ⟨rfl, rfl⟩
          go_wp2_with fail
          refine (Hp1.out _).mono ?_
          rintro r w2 ⟨rfl, hb2⟩
          go_wp2_with fail
          refine (Hp2.out _).mono ?_
          rintro r w3 ⟨rfl, hb3⟩
          go_wp2_with fail
          refine (Hp3.out _).mono ?_
          rintro r w4 ⟨rfl, hb4⟩
          go_wp2_with fail
          refine (Hpw.out _).mono ?_
          rintro r w' ⟨rfl, rfl⟩
          have hb14 := bstep hb1 (bstep hb2 (bstep hb3 hb4))
          have HE4 := Lib.hid (HE.out.below hb14)
          go_wp2_with (go_at_call 27; refine (awake23 _ HE4.out).mono ?_; rintro e w5 ⟨rfl, hb5⟩)
          all_goals first
            | (exfalso; omega)
            | (go_ret; exact ⟨rfl, bstep hb14 (by assumption)⟩)
end Go.Proofs.YtnfadmdndefanaaDoor
