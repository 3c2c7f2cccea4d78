/- What lines.Words and the reference's Same return; the law functions of layer 21. -/
import Derived.Test.YtnfadmdndefanaaDoorHeadWalk
import Derived.Test.YtnfadmdndefanaaDoorShelf
import Derived.Test.YtnfadmdndefanaaDoorSameWalk
namespace Go.Proofs.YtnfadmdndefanaaDoor
open Go.RowKit

/-- the library's variable MaxLen holds some number. -/
def MaxLenIs (w : World) (m : Int) : Prop := w.cell? ⟨0, 0, none⟩ = some (.int .i64 m)
theorem MaxLenIs.pos {w : World} {m : Int} (h : MaxLenIs w m) : 0 < w.heap.size := World.block_lt_of_cell? _ _ h
theorem MaxLenIs.below {w w' : World} {m : Int} (h : MaxLenIs w m) (hb : Below w.heap.size w w') : MaxLenIs w' m := (hb.cell (p := ⟨0, 0, none⟩) h.pos).trans h

theorem lines_words (s : ByteArray) (m : Int) (w : World) (hs : s.size < 1073741824) (hm : MaxLenIs w m) :
    Calls Tryd.prog 20 #[.string s] w fun e w' => ∃ v, e = .returned v ∧ w'.ownsRow w.heap.size 9 1 v (words s.data.toList).length (strs (words s.data.toList)) ∧ Below w.heap.size w w' := by
  have Hm := Lib.hid hm
  clear hm
  go_enter Tryd.func20, Tryd.ntmps20
  go_wp2_with (go_at_call 46; refine (Tryd.strings_Split s _ m _ (by omega) Hm.out (by decide)).mono ?_; rintro e w' ⟨rfl, rfl⟩)
  go_ret
  refine ⟨_, rfl, ?_, (Below.refl _ _).alloc (Nat.le_refl _) _⟩
  rw [splitB_words, countB_words]
  exact own_alloc w _ _ rfl (by rw [← countB_words]; have := Go.Lib.count_le s.data.toList [32]; have h2 : Go.Lib.countB s ⟨#[32]⟩ ≤ s.size + 1 := by simpa using this
                                unfold maxLen; omega)

/-! what the functions tell of the texts of awake -/
def t1 : ByteArray := ⟨#[97, 32, 98, 13, 10, 99]⟩
theorem aw1 : takeLine t1 0 = ⟨#[97, 32, 98]⟩ := by decide +kernel
theorem aw2 : takeNext t1 0 = 5 := by decide +kernel
theorem aw3 : takeErr t1 0 = 0 := by decide +kernel
theorem aw4 : takeNext t1 5 = 5 := by decide +kernel
theorem aw5 : takeErr t1 5 = 3 := by decide +kernel
theorem aw6 : takeErr ⟨#[97, 10]⟩ 0 = 4 := by decide +kernel
theorem aw7 : putLine ⟨#[120]⟩ = ⟨#[120, 13, 10]⟩ := by decide +kernel
theorem aw8 : putErr [120] = 0 := by decide +kernel
theorem aw9 : headOf ⟨#[97, 13, 10, 98, 13, 10, 13, 10, 99]⟩ = ([[97], [98]], 8, 0) := by decide +kernel
theorem aw10 : words [32, 97] = [[], [97]] := by decide +kernel

set_option maxRecDepth 100000 in
set_option maxHeartbeats 2000000 in
theorem awake21 (m : Int) (w : World) (hm : MaxLenIs w m) :
    Calls Tryd.prog 12 #[] w fun e w' => e = .returned (.bool true) ∧ Below w.heap.size w w' := by
  have k1 := aw1
  have k2 := aw2
  have k3 := aw3
  have k4 := aw4
  have k5 := aw5
  have k6 := aw6
  have k7 := aw7
  have k8 := aw8
  unfold t1 at k1 k2 k3 k4 k5
  have Hm := Lib.hid hm
  clear hm
  go_enter Tryd.func12, Tryd.ntmps12
  go_wp2_with (first
    | (go_at_call 13; refine (lines_take _ _ _ (by decide)).mono ?_; rintro e w' ⟨rfl, rfl⟩)
    | (go_at_call 15; refine (lines_put _ _ (by decide)).mono ?_; rintro e w' ⟨rfl, rfl⟩))
  refine (lines_head _ _ (by decide)).mono ?_
  rintro e w1 ⟨v, rfl, hown, hb⟩
  rw [aw9] at hown
  have k9 := aw9
  have hH := HoldsS.of_own hown
  have Hm1 := Lib.hid (Hm.out.below hb)
  clear Hm hown
  go_wp2_with fail
  refine (ref_same v _ [[97], [98]] [[97], [98]] _ ?hA ?hB (by decide) (by decide)).mono ?_
  case hA => exact hH.below ((Below.refl _ _).alloc (Nat.le_refl _) _)
  case hB => exact HoldsS.of_block (block_alloc w1 _) rfl rfl
  rintro e w2 ⟨rfl, hb2⟩
  have hb12 := bstep (hb.alloc hb.size _) hb2
  have Hm2 := Lib.hid ((Hm1.out.below ((Below.refl _ _).alloc (Nat.le_refl _) _)).below hb2)
  clear Hm1 hH hb2 hb
  go_wp2_with fail
  refine (lines_words _ m _ (by decide) Hm2.out).mono ?_
  rintro e w3 ⟨v3, rfl, hown3, hb3⟩
  have e3 : words (ByteArray.mk #[32, 97]).data.toList = [[], [97]] := aw10
  rw [e3] at hown3
  have hH := HoldsS.of_own hown3
  have hb13 := bstep hb12 hb3
  clear hown3 e3 hb3 Hm2 hb12
  go_wp2_with fail
  refine (ref_same v3 _ [[], [97]] [[], [97]] _ ?hA2 ?hB2 (by decide) (by decide)).mono ?_
  case hA2 => exact hH.below ((Below.refl _ _).alloc (Nat.le_refl _) _)
  case hB2 => exact HoldsS.of_block (block_alloc w3 _) rfl rfl
  rintro e w4 ⟨rfl, hb4⟩
  have hb14 := bstep (hb13.alloc hb13.size _) hb4
  clear hb4 hb13 hH
  go_wp2_with fail
  go_ret
  exact ⟨rfl, hb14⟩

set_option maxRecDepth 100000 in
set_option maxHeartbeats 2000000 in
theorem linesTakes_walk (s : ByteArray) (at_ : Int) (line : ByteArray) (m : Int) (w : World) (hm : MaxLenIs w m) (hs : s.size ≤ 9223372036854775807) (hl : line.size ≤ 9223372036854775807) :
    Calls Tryd.prog 3 #[.string s, .int .i64 at_, .string line] w fun e w' => e = .returned (.bool true) ∧ Below w.heap.size w w' := by
  have Hm := Lib.hid hm
  clear hm
  by_cases h1 : (700 : Int) < (s.size : Int)
  · go_enter Tryd.func3, Tryd.ntmps3
    go_wp2_with (go_at_call 12; refine (awake21 m _ Hm.out).mono ?_; rintro e w' ⟨rfl, hb⟩)
    go_ret
    exact ⟨rfl, by assumption⟩
  · by_cases h2 : (700 : Int) < (line.size : Int)
    · go_enter Tryd.func3, Tryd.ntmps3
      go_wp2_with (go_at_call 12; refine (awake21 m _ Hm.out).mono ?_; rintro e w' ⟨rfl, hb⟩)
      go_ret
      exact ⟨rfl, by assumption⟩
    · have hE : (takeErr s at_ : Int) ≤ 5 := by
        unfold takeErr
        split
        · decide
        · have := (scan_n (s.data.toList.drop at_.toNat) 0 (by omega)).2.2.2
          unfold scanAt; omega
      have hP : (putErr line.data.toList : Int) ≤ 5 := by unfold putErr; (repeat' split) <;> decide
      have hE0 : (0 : Int) ≤ (takeErr s at_ : Int) := by omega
      have hP0 : (0 : Int) ≤ (putErr line.data.toList : Int) := by omega
      go_enter Tryd.func3, Tryd.ntmps3
      go_wp2_with (first
        | (go_at_call 13; refine (lines_take _ _ _ hs).mono ?_; rintro e w' ⟨rfl, rfl⟩)
        | (go_at_call 14; refine (ref_take _ _ _ hs).mono ?_; rintro e w' ⟨rfl, rfl⟩)
        | (go_at_call 15; refine (lines_put _ _ hl).mono ?_; rintro e w' ⟨rfl, rfl⟩)
        | (go_at_call 16; refine (ref_put _ _ hl).mono ?_; rintro e w' ⟨rfl, rfl⟩)
        | (go_at_call 12; refine (awake21 m _ Hm.out).mono ?_; rintro e w' ⟨rfl, hb⟩))
      go_ret
      exact ⟨rfl, by assumption⟩

theorem headR_len (s : ByteArray) : ∀ f a xs, xs.length + f = 18 → (headR f s a xs).1.length ≤ 18 ∧ (headR f s a xs).2.2 ≤ 21 := by
  intro f
  induction f with
  | zero => intro a xs _; simp [headR]
  | succ f ih =>
    intro a xs h
    rw [headR]
    split
    · refine ⟨by simp, ?_⟩
      show takeErr s a ≤ 21
      unfold takeErr
      split
      · decide
      · have := (scan_n (s.data.toList.drop a.toNat) 0 (by omega)).2.2.2
        unfold scanAt; omega
    · split
      · simp; omega
      · split
        · simp
        · exact ih _ _ (by simp; omega)

set_option maxRecDepth 100000 in
set_option maxHeartbeats 2000000 in
theorem linesHeads_walk (s : ByteArray) (m : Int) (w : World) (hm : MaxLenIs w m) (hs : s.size ≤ 9223372036854775807) :
    Calls Tryd.prog 4 #[.string s] w fun e w' => e = .returned (.bool true) ∧ Below w.heap.size w w' := by
  have Hm := Lib.hid hm
  clear hm
  by_cases h1 : (700 : Int) < (s.size : Int)
  · go_enter Tryd.func4, Tryd.ntmps4
    go_wp2_with (go_at_call 12; refine (awake21 m _ Hm.out).mono ?_; rintro e w' ⟨rfl, hb⟩)
    go_ret
    exact ⟨rfl, by assumption⟩
  · obtain ⟨hL, hE⟩ := headR_len s 18 0 [] rfl
    change (headOf s).1.length ≤ 18 at hL
    change (headOf s).2.2 ≤ 21 at hE
    have hW : (words s.data.toList).length < 2147483648 := by
      rw [← countB_words]; have := Go.Lib.count_le s.data.toList [32]; have h2 : Go.Lib.countB s ⟨#[32]⟩ ≤ s.size + 1 := by simpa using this
      omega
    obtain ⟨L, n, E, hH⟩ : ∃ L n E, headOf s = (L, n, E) := ⟨_, _, _, rfl⟩
    rw [hH] at hL hE
    have hE0 : (0 : Int) ≤ (E : Int) := by omega
    have hE1 : (E : Int) ≤ 21 := by simpa using (Int.ofNat_le.2 hE)
    have HH := Lib.hid hH
    clear hH hE
    have hL' : L.length ≤ 18 := hL
    clear hL
    go_enter Tryd.func4, Tryd.ntmps4
    go_wp2_with fail
    refine (lines_head _ _ hs).mono ?_
    rintro e w1 ⟨v1, rfl, hown1, hb1⟩
    rw [HH.out] at hown1 ⊢
    have hH1 := HoldsS.of_own hown1
    clear hown1
    go_wp2_with fail
    refine (ref_head _ _ hs).mono ?_
    rintro e w2 ⟨v2, rfl, hown2, hb2⟩
    rw [HH.out] at hown2 ⊢
    have hH2 := HoldsS.of_own hown2
    have hH1 := hH1.below hb2
    have hb2 := bstep hb1 hb2
    clear hown2 hb1
    go_wp2_with fail
    refine (ref_same v1 v2 L L _ hH1 hH2 (by omega) (by omega)).mono ?_
    rintro e w3 ⟨rfl, hb3⟩
    have hb3 := bstep hb2 hb3
    have Hm3 := Lib.hid (Hm.out.below hb3)
    clear hH1 hH2 hb2
    go_wp2_with fail
    refine (lines_words s m _ (by omega) Hm3.out).mono ?_
    rintro e w4 ⟨v4, rfl, hown4, hb4⟩
    have hH4 := HoldsS.of_own hown4
    have hb4 := bstep hb3 hb4
    clear hown4 hb3 Hm3
    go_wp2_with fail
    refine (ref_words s _ (by omega)).mono ?_
    rintro e w5 ⟨v5, rfl, hown5, hb5⟩
    have hH5 := HoldsS.of_own hown5
    have hH4 := hH4.below hb5
    have hb5 := bstep hb4 hb5
    clear hown5 hb4
    go_wp2_with fail
    refine (ref_same v4 v5 _ _ _ hH4 hH5 hW hW).mono ?_
    rintro e w6 ⟨rfl, hb6⟩
    have hb6 := bstep hb5 hb6
    have Hm6 := Lib.hid (Hm.out.below hb6)
    clear hH4 hH5 hb5
    go_wp2_with fail
    refine (awake21 m _ Hm6.out).mono ?_
    rintro e w7 ⟨rfl, hb7⟩
    have hb7 := bstep hb6 hb7
    clear hb6 Hm6
    go_wp2_with fail
    go_ret
    exact ⟨rfl, hb7⟩

theorem maxLen_of {W : World} (h : W.ShapedOpen Tryd.prog) : ∃ m, MaxLenIs W m := Tryd.laysM146.s1_3 W h
end Go.Proofs.YtnfadmdndefanaaDoor
