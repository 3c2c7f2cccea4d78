/- What Unquote of package jtext returns. -/
import Derived.Test.YtjkhihdghjoneaaDoorJTake
namespace Go.Proofs.YtjkhihdghjoneaaDoor
open Go.RowKit Go.Lib

def unqP (l : List UInt8) : List UInt8 × Nat := if (takeP l 0).2.2 ≠ 0 then ([], (takeP l 0).2.2) else if (takeP l 0).2.1 < (l.length : Int) then ([], 4) else ((takeP l 0).1, 0)
theorem unquote (s : ByteArray) (w : World) (hs : s.size ≤ 10000) (hu : U8 w) :
    Calls Tryd.prog 13 #[.string s] w fun e w' => e = .returned (.tuple #[.string (bs (unqP s.data.toList).1), .int .i64 ((unqP s.data.toList).2 : Nat)]) ∧ Below w.heap.size w w' := by
  have cT := take s 0 w hs hu
  obtain ⟨ANS, hANS⟩ : ∃ ANS, unqP s.data.toList = ANS := ⟨_, rfl⟩
  rw [hANS]
  unfold unqP at hANS
  rw [size_len] at hANS
  obtain ⟨⟨t, n, f⟩, hT⟩ : ∃ T, takeP s.data.toList 0 = T := ⟨_, rfl⟩
  rw [hT] at cT hANS
  change (if f ≠ 0 then (([] : List UInt8), f) else if n < (s.size : Int) then ([], 4) else (t, 0)) = ANS at hANS
  change Calls _ _ _ _ fun e w' => e = .returned (.tuple #[.string (bs t), .int .i64 n, .int .i64 (f : Int)]) ∧ _ at cT
  clear hT
  by_cases h1 : f ≠ 0
  · rw [if_pos h1] at hANS
    have HA := Lib.hid hANS
    have t1 : ((f : Int) != 0) = true := by rw [bne_iff_ne]; omega
    clear hANS
    go_enter Tryd.func13, Tryd.ntmps13
    go_wp2_with fail
    refine cT.mono ?_
    rintro e w1 ⟨rfl, hb⟩
    go_wp2_with fail
    go_ret2
    exact ⟨by rw [← HA.out]; rfl, hb⟩
  · rw [if_neg h1] at hANS
    have hf : f = 0 := by omega
    subst hf
    by_cases h2 : n < (s.size : Int)
    · rw [if_pos h2] at hANS
      have HA := Lib.hid hANS
      have t1 : decide (n < (s.size : Int)) = true := decide_eq_true h2
      clear hANS
      go_enter Tryd.func13, Tryd.ntmps13
      go_wp2_with fail
      refine cT.mono ?_
      rintro e w1 ⟨rfl, hb⟩
      go_wp2_with fail
      go_ret2
      exact ⟨by rw [← HA.out]; rfl, hb⟩
    · rw [if_neg h2] at hANS
      have HA := Lib.hid hANS
      have t1 : decide (n < (s.size : Int)) = false := decide_eq_false h2
      clear hANS
      go_enter Tryd.func13, Tryd.ntmps13
      go_wp2_with fail
      refine cT.mono ?_
      rintro e w1 ⟨rfl, hb⟩
      go_wp2_with fail
      go_ret2
      exact ⟨by rw [← HA.out]; rfl, hb⟩
end Go.Proofs.YtjkhihdghjoneaaDoor
