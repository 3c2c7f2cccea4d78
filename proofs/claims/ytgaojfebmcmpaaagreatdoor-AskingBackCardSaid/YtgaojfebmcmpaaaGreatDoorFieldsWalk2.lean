/- titled, small. -/
import Derived.Test.YtgaojfebmcmpaaaGreatDoorMapTitled
namespace Go.Proofs.YtgaojfebmcmpaaaGreatDoor
open Go.RowKit

theorem fields_titled (s : ByteArray) (w : World) (hs : s.size ≤ 1000000) (hasc : ∀ j (h : j < s.size), s[j].toNat < 128) :
    Calls Tryz.prog 134 #[.string s] w fun e w' => e = .returned (.string (bs (titL true s.data.toList))) ∧ Below w.heap.size w w' := by
  have HM := Lib.hid (fun w c => map_titled s w c hs hasc)
  obtain ⟨A, hA⟩ : ∃ A, A = bs (titL true s.data.toList) := ⟨_, rfl⟩
  rw [← hA] at HM ⊢
  clear hasc hA
  go_enter Tryz.func134, Tryz.ntmps134
  go_wp2_with fail
  refine (HM.out _ w.heap.size (box_lt _ _ _) (heap_alloc_new w _)).mono ?_
  rintro e w1 ⟨rfl, hb⟩
  go_wp2_with fail
  go_ret
  exact ⟨rfl, (below_box w _ _).trans hb⟩

/-- a letter as a small one -/
def smallN (c : Nat) : Nat := if 65 ≤ c ∧ c ≤ 90 then c + 32 else c
theorem fields_small (c : Nat) (w : World) (hc : c ≤ 1114111) : Calls Tryz.prog 165 #[.int .i32 (c : Int)] w fun e w' => e = .returned (.int .i32 (smallN c : Nat)) ∧ w' = w := by
  by_cases h1 : c < 65
  · have H : Hid (smallN c = c) := Lib.hid (if_neg (by omega))
    have t : decide ((c : Int) ≥ 65) = false := by simp; omega
    go_enter Tryz.func165, Tryz.ntmps165
    go_wp2_with fail
    go_ret
    exact ⟨by rw [H.out]; rfl, rfl⟩
  · by_cases h2 : 90 < c
    · have H : Hid (smallN c = c) := Lib.hid (if_neg (by omega))
      have t : decide ((c : Int) ≤ 90) = false := by simp; omega
      go_enter Tryz.func165, Tryz.ntmps165
      go_wp2_with fail
      go_ret
      exact ⟨by rw [H.out]; rfl, rfl⟩
    · have H : Hid (smallN c = c + 32) := Lib.hid (if_pos (by omega))
      have t : decide ((c : Int) ≤ 90) = true := by simp; omega
      have h3 : 65 ≤ c := by omega
      go_enter Tryz.func165, Tryz.ntmps165
      go_wp2_with fail
      go_ret
      refine ⟨ret_int ?_, rfl⟩
      rw [H.out]; omega

def gapB (c : UInt8) : Bool := c == 32 || c == 9
end Go.Proofs.YtgaojfebmcmpaaaGreatDoor
