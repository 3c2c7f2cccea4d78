/- What Over of the reference of fields returns. -/
import Derived.Test.YtnfadmdndefanaaGreatDoorFieldsHeld
namespace Go.Proofs.YtnfadmdndefanaaGreatDoor
open Go.RowKit

def longF (f : List UInt8 × List UInt8) : Bool := decide (400 < f.1.length) || decide (400 < f.2.length)
def overF (fs : List (List UInt8 × List UInt8)) (most : Int) : Bool := fs.any longF || decide (most < (fs.length : Int))

set_option maxRecDepth 100000 in
set_option maxHeartbeats 2000000 in
theorem ref_over (v : Value) (fs : List (List UInt8 × List UInt8)) (most : Int) (w : World) (hv : HoldsF w v fs) (hlen : fs.length ≤ 9223372036854775807) :
    Calls Tryz.prog 6 #[v, .int .i64 most] w fun e w' => e = .returned (.bool (overF fs most)) ∧ w' = w := by
  obtain ⟨a, c, rfl, hc, hx⟩ := hv
  have HX := Lib.hid hx
  clear hx
  go_enter Tryz.func6, Tryz.ntmps6
  go_wp2_with fail
  go_loop [5] (fun i => ∃ k : Nat, k ≤ fs.length ∧ i = .int .i64 k ∧ Hid ((fs.take k).any longF = false)) (fun i => fs.length - (intOf i).toNat)
  case atStart => exact ⟨0, by omega, rfl, Lib.hid rfl⟩
  case round =>
    obtain ⟨k, hk, rfl, Hst⟩ := hrel
    by_cases hlt : k < fs.length
    · obtain ⟨b, o, rfl, hbl, hcell⟩ := HX.out (fun e => by rw [e] at hlt; exact absurd hlt (Nat.not_lt_zero _))
      have c0 := (hcell k hlt).1
      have c1 := (hcell k hlt).2
      clear hcell
      have hstep : (fs.take (k + 1)).any longF = longF fs[k] := by
        rw [List.take_succ_eq_append_getElem hlt, List.any_append, Hst.out]; simp
      have hover : longF fs[k] = true → overF fs most = true := fun h => by
        unfold overF
        rw [List.any_eq_true.2 ⟨fs[k], List.getElem_mem hlt, h⟩]; rfl
      have s0 : (bs fs[k].1).size = fs[k].1.length := bs_size _
      have s1 : (bs fs[k].2).size = fs[k].2.length := bs_size _
      by_cases h1 : 400 < fs[k].1.length
      · have H := Lib.hid (hover (by unfold longF; rw [decide_eq_true h1]; rfl))
        have z0 : 400 < (bs fs[k].1).size := by omega
        obtain ⟨X, hX⟩ : ∃ X, X = bs fs[k].1 := ⟨_, rfl⟩
        rw [← hX] at c0 z0
        clear hX hstep hover s0 s1 h1 Hst HX
        have t : decide ((X.size : Int) > 400) = true := by simp; omega
        go_wp2_with fail
        go_ret
        exact ⟨ret_bool H.out.symm, rfl⟩
      · by_cases h2 : 400 < fs[k].2.length
        · have H := Lib.hid (hover (by unfold longF; rw [decide_eq_true h2, Bool.or_true]))
          have z0 : (bs fs[k].1).size ≤ 400 := by omega
          have z1 : 400 < (bs fs[k].2).size := by omega
          obtain ⟨X, hX⟩ : ∃ X, X = bs fs[k].1 := ⟨_, rfl⟩
          obtain ⟨Y, hY⟩ : ∃ Y, Y = bs fs[k].2 := ⟨_, rfl⟩
          rw [← hX] at c0 z0
          rw [← hY] at c1 z1
          clear hX hY hstep hover s0 s1 h1 h2 Hst HX
          have t : decide ((X.size : Int) > 400) = false := by simp; omega
          have t2 : decide ((Y.size : Int) > 400) = true := by simp; omega
          go_wp2_with fail
          go_ret
          exact ⟨ret_bool H.out.symm, rfl⟩
        · have H := Lib.hid (hstep.trans (by unfold longF; rw [decide_eq_false h1, decide_eq_false h2, Bool.or_false]))
          have z0 : (bs fs[k].1).size ≤ 400 := by omega
          have z1 : (bs fs[k].2).size ≤ 400 := by omega
          obtain ⟨X, hX⟩ : ∃ X, X = bs fs[k].1 := ⟨_, rfl⟩
          obtain ⟨Y, hY⟩ : ∃ Y, Y = bs fs[k].2 := ⟨_, rfl⟩
          rw [← hX] at c0 z0
          rw [← hY] at c1 z1
          clear hX hY hstep hover s0 s1 h1 h2 Hst HX
          have t : decide ((X.size : Int) > 400) = false := by simp; omega
          have t2 : decide ((Y.size : Int) > 400) = false := by simp; omega
          go_wp2_with fail
          go_round
          case rel => exact ⟨k + 1, by omega, by go_num, H⟩
          case measure => simp [intOf]; omega
    · have H : Hid (overF fs most = decide (most < (fs.length : Int))) := Lib.hid (by
        have := Hst.out
        rw [List.take_of_length_le (by omega)] at this
        unfold overF; rw [this, Bool.false_or])
      clear Hst HX
      go_wp2_with fail
      go_ret
      exact ⟨ret_bool H.out.symm, rfl⟩
end Go.Proofs.YtnfadmdndefanaaGreatDoor
