/- What cutting a line at its blanks returns. -/
import Derived.Test.YtgaojfebmcmpaaaGreatDoorHeadWalk
import Derived.Test.YtgaojfebmcmpaaaGreatDoorShelf
namespace Go.Proofs.YtgaojfebmcmpaaaGreatDoor
open Go.RowKit

def MaxLenIs (w : World) (m : Int) : Prop := w.cell? ⟨0, 0, none⟩ = some (.int .i64 m)
theorem MaxLenIs.pos {w : World} {m : Int} (h : MaxLenIs w m) : 0 < w.heap.size := World.block_lt_of_cell? _ _ h
theorem MaxLenIs.below {w w' : World} {m : Int} (h : MaxLenIs w m) (hb : Below w.heap.size w w') : MaxLenIs w' m := (hb.cell (p := ⟨0, 0, none⟩) h.pos).trans h

theorem lines_words (s : ByteArray) (m : Int) (w : World) (hs : s.size < 1073741824) (hm : MaxLenIs w m) :
    Calls Tryz.prog 116 #[.string s] w fun e w' => ∃ v, e = .returned v ∧ w'.ownsRow w.heap.size 9 1 v (words s.data.toList).length (strs (words s.data.toList)) ∧ Below w.heap.size w w' := by
  have Hm := Lib.hid hm
  clear hm
  go_enter Tryz.func116, Tryz.ntmps116
  go_wp2_with (go_at_call 53; refine (Tryz.strings_Split s _ m _ (by omega) Hm.out (by decide)).mono ?_; rintro e w' ⟨rfl, rfl⟩)
  go_ret
  refine ⟨_, rfl, ?_, (Below.refl _ _).alloc (Nat.le_refl _) _⟩
  rw [splitB_words, countB_words]
  exact own_alloc w _ _ rfl (by rw [← countB_words]; have := Go.Lib.count_le s.data.toList [32]; have h2 : Go.Lib.countB s ⟨#[32]⟩ ≤ s.size + 1 := by simpa using this
                                unfold maxLen; omega)

/-! what the functions tell of the texts of awake -/
def t1 : ByteArray := ⟨#[97, 32, 98, 13, 10, 99]⟩
theorem aw1 : takeLine t1 0 = ⟨#[97, 32, 98]⟩ := by decide +kernel
theorem aw2 : takeNext t1 0 = 5 := by decide +kernel
theorem aw3 : takeErr t1 0 = 0 := by decide +kernel
theorem aw4 : takeNext t1 5 = 5 := by decide +kernel
theorem aw5 : takeErr t1 5 = 3 := by decide +kernel
theorem aw6 : takeErr ⟨#[97, 10]⟩ 0 = 4 := by decide +kernel
theorem aw7 : putLine ⟨#[120]⟩ = ⟨#[120, 13, 10]⟩ := by decide +kernel
theorem aw8 : putErr [120] = 0 := by decide +kernel
theorem aw9 : headOf ⟨#[97, 13, 10, 98, 13, 10, 13, 10, 99]⟩ = ([[97], [98]], 8, 0) := by decide +kernel
theorem aw10 : words [32, 97] = [[], [97]] := by decide +kernel
end Go.Proofs.YtgaojfebmcmpaaaGreatDoor
