/- What pair and mark of package jtext return. -/
import Derived.Test.YtjkhihdghjoneaaDoorJCodeWalk
namespace Go.Proofs.YtjkhihdghjoneaaDoor
open Go.RowKit Go.Lib

theorem tail_list (s : ByteArray) (a : Nat) : (s.extract a s.size).data.toList = s.data.toList.drop a := by
  rw [extract_bs, bs_data, ← size_len, List.take_length]
set_option maxRecDepth 100000 in
theorem pair (s : ByteArray) (w : World) (hs : s.size ≤ 1000000) :
    Calls Tryd.prog 28 #[.string s] w fun e w' => e = .returned (.tuple #[.int .i32 ((pairP s.data.toList).1 : Nat), .int .i64 ((pairP s.data.toList).2.1 : Nat), .int .i64 ((pairP s.data.toList).2.2 : Nat)]) ∧ w' = w := by
  obtain ⟨ANS, hANS⟩ : ∃ ANS, pairP s.data.toList = ANS := ⟨_, rfl⟩
  rw [hANS]
  unfold pairP at hANS
  have c1 := code s w hs
  have hok := codeP_ok s.data.toList
  obtain ⟨n, hn⟩ : ∃ n, (codeP s.data.toList).1 = n := ⟨_, rfl⟩
  obtain ⟨f, hf⟩ : ∃ f, (codeP s.data.toList).2 = f := ⟨_, rfl⟩
  rw [hn, hf] at hANS c1
  rw [hn, hf, size_len] at hok
  by_cases hf0 : f ≠ 0
  · rw [if_pos hf0] at hANS
    have HA := Lib.hid hANS
    have t1 : ((f : Int) != 0) = true := by rw [bne_iff_ne]; omega
    clear hANS hok hf hn
    go_enter Tryd.func28, Tryd.ntmps28
    go_wp2_with fail
    refine c1.mono ?_
    rintro e W' ⟨rfl, rfl⟩
    go_wp2_with fail
    go_ret3
    exact ⟨by rw [← HA.out]; rfl, rfl⟩
  · rw [if_neg hf0] at hANS
    have hf1 : f = 0 := by omega
    subst hf1
    obtain ⟨h6, hn6⟩ := hok rfl
    by_cases h2 : n < 55296 ∨ 57343 < n
    · rw [if_pos h2] at hANS
      have HA := Lib.hid hANS
      clear hANS hok hf hn hf0
      go_enter Tryd.func28, Tryd.ntmps28
      by_cases h3 : n < 55296
      · have t1 : decide ((n : Int) < 55296) = true := decide_eq_true (by omega)
        go_wp2_with fail
        refine c1.mono ?_
        rintro e W' ⟨rfl, rfl⟩
        go_wp2_with fail
        go_ret3
        exact ⟨by rw [← HA.out]; rfl, rfl⟩
      · have t1 : decide ((n : Int) < 55296) = false := decide_eq_false (by omega)
        have t2 : decide ((n : Int) > 57343) = true := decide_eq_true (by omega)
        go_wp2_with fail
        refine c1.mono ?_
        rintro e W' ⟨rfl, rfl⟩
        go_wp2_with fail
        go_ret3
        exact ⟨by rw [← HA.out]; rfl, rfl⟩
    · rw [if_neg h2] at hANS
      have t1 : decide ((n : Int) < 55296) = false := decide_eq_false (by omega)
      have t2 : decide ((n : Int) > 57343) = false := decide_eq_false (by omega)
      by_cases h3 : 56320 ≤ n
      · rw [if_pos h3] at hANS
        have HA := Lib.hid hANS
        have t3 : decide ((n : Int) ≥ 56320) = true := decide_eq_true (by omega)
        clear hANS hok hf hn hf0
        go_enter Tryd.func28, Tryd.ntmps28
        go_wp2_with fail
        refine c1.mono ?_
        rintro e W' ⟨rfl, rfl⟩
        go_wp2_with fail
        go_ret3
        exact ⟨by rw [← HA.out]; rfl, rfl⟩
      · rw [if_neg h3] at hANS
        have t3 : decide ((n : Int) ≥ 56320) = false := decide_eq_false (by omega)
        have c2 := code (s.extract 6 s.size) w (by rw [ByteArray.size_extract]; omega)
        rw [tail_list] at c2
        have hok2 := codeP_ok (s.data.toList.drop 6)
        obtain ⟨m, hm⟩ : ∃ m, (codeP (s.data.toList.drop 6)).1 = m := ⟨_, rfl⟩
        obtain ⟨f, hf2⟩ : ∃ f, (codeP (s.data.toList.drop 6)).2 = f := ⟨_, rfl⟩
        rw [hm, hf2] at hANS c2
        rw [hm, hf2] at hok2
        by_cases hf3 : f ≠ 0
        · rw [if_pos hf3] at hANS
          have HA := Lib.hid hANS
          have t4 : ((f : Int) != 0) = true := by rw [bne_iff_ne]; omega
          clear hANS hok hf hn hf0 hok2 hm hf2
          go_enter Tryd.func28, Tryd.ntmps28
          go_wp2_with fail
          refine c1.mono ?_
          rintro e W' ⟨rfl, rfl⟩
          go_wp2_with fail
          refine c2.mono ?_
          rintro e W' ⟨rfl, rfl⟩
          go_wp2_with fail
          go_ret3
          exact ⟨by rw [← HA.out]; rfl, rfl⟩
        · rw [if_neg hf3] at hANS
          have hf4 : f = 0 := by omega
          subst hf4
          obtain ⟨_, hm6⟩ := hok2 rfl
          by_cases h4 : m < 56320 ∨ 57343 < m
          · rw [if_pos h4] at hANS
            have HA := Lib.hid hANS
            clear hANS hok hf hn hf0 hok2 hm hf2
            go_enter Tryd.func28, Tryd.ntmps28
            go_wp2_with fail
            refine c1.mono ?_
            rintro e W' ⟨rfl, rfl⟩
            go_wp2_with fail
            refine c2.mono ?_
            rintro e W' ⟨rfl, rfl⟩
            by_cases h5 : m < 56320
            · have t5 : decide ((m : Int) < 56320) = true := decide_eq_true (by omega)
              go_wp2_with fail
              go_ret3
              exact ⟨by rw [← HA.out]; rfl, rfl⟩
            · have t5 : decide ((m : Int) < 56320) = false := decide_eq_false (by omega)
              have t6 : decide ((m : Int) > 57343) = true := decide_eq_true (by omega)
              go_wp2_with fail
              go_ret3
              exact ⟨by rw [← HA.out]; rfl, rfl⟩
          · rw [if_neg h4] at hANS
            have HA : Hid ((((ANS.1 : Nat) : Int) = 65536 + ((n : Int) - 55296) * 1024 + (m : Int) - 56320) ∧ ANS.2.1 = 12 ∧ ANS.2.2 = 0) := Lib.hid (by
              rw [← hANS]; exact ⟨by show ((65536 + (n - 55296) * 1024 + (m - 56320) : Nat) : Int) = _; omega, rfl, rfl⟩)
            have t5 : decide ((m : Int) < 56320) = false := decide_eq_false (by omega)
            have t6 : decide ((m : Int) > 57343) = false := decide_eq_false (by omega)
            clear hANS hok hf hn hf0 hok2 hm hf2
            go_enter Tryd.func28, Tryd.ntmps28
            go_wp2_with fail
            refine c1.mono ?_
            rintro e W' ⟨rfl, rfl⟩
            go_wp2_with fail
            refine c2.mono ?_
            rintro e W' ⟨rfl, rfl⟩
            go_wp2_with fail
            go_ret3
            exact ⟨by rw [HA.out.1, HA.out.2.1, HA.out.2.2]; rfl, rfl⟩
end Go.Proofs.YtjkhihdghjoneaaDoor
