/- What short, Count and Quote of package jtext return. -/
import Derived.Test.YtjkhihdghjoneaaDoorJWalk
import Derived.Deep.LoopGhost
namespace Go.Proofs.YtjkhihdghjoneaaDoor
open Go.RowKit Go.Lib

theorem ret_pair {a b c d : Value} (h : a = c) (k : b = d) : Ending.returned (.tuple #[a, b]) = .returned (.tuple #[c, d]) := by rw [h, k]
theorem short (c : Nat) (w : World) :
    Calls Tryd.prog 15 #[.int .i32 (c : Int)] w fun e w' => e = .returned (.tuple #[.int .u8 (shortN c : Nat), .bool (decide (shortN c ≠ 0))]) ∧ w' = w := by
  by_cases b1 : c = 34
  · subst b1
    go_enter Tryd.func15, Tryd.ntmps15
    go_wp2_with fail
    go_ret2
    exact ⟨rfl, rfl⟩
  by_cases b2 : c = 92
  · subst b2
    go_enter Tryd.func15, Tryd.ntmps15
    go_wp2_with fail
    go_ret2
    exact ⟨rfl, rfl⟩
  by_cases b3 : c = 8
  · subst b3
    go_enter Tryd.func15, Tryd.ntmps15
    go_wp2_with fail
    go_ret2
    exact ⟨rfl, rfl⟩
  by_cases b4 : c = 9
  · subst b4
    go_enter Tryd.func15, Tryd.ntmps15
    go_wp2_with fail
    go_ret2
    exact ⟨rfl, rfl⟩
  by_cases b5 : c = 10
  · subst b5
    go_enter Tryd.func15, Tryd.ntmps15
    go_wp2_with fail
    go_ret2
    exact ⟨rfl, rfl⟩
  by_cases b6 : c = 12
  · subst b6
    go_enter Tryd.func15, Tryd.ntmps15
    go_wp2_with fail
    go_ret2
    exact ⟨rfl, rfl⟩
  by_cases b7 : c = 13
  · subst b7
    go_enter Tryd.func15, Tryd.ntmps15
    go_wp2_with fail
    go_ret2
    exact ⟨rfl, rfl⟩
  have H : Hid (shortN c = 0) := Lib.hid (by
    unfold shortN
    rw [if_neg (by omega), if_neg b3, if_neg b4, if_neg b5, if_neg b6, if_neg b7])
  have t1 : ((c : Int) == 34) = false := by rw [beq_eq_false_iff_ne]; omega
  have t2 : ((c : Int) == 92) = false := by rw [beq_eq_false_iff_ne]; omega
  have t3 : ((c : Int) == 8) = false := by rw [beq_eq_false_iff_ne]; omega
  have t4 : ((c : Int) == 9) = false := by rw [beq_eq_false_iff_ne]; omega
  have t5 : ((c : Int) == 10) = false := by rw [beq_eq_false_iff_ne]; omega
  have t6 : ((c : Int) == 12) = false := by rw [beq_eq_false_iff_ne]; omega
  have t7 : ((c : Int) == 13) = false := by rw [beq_eq_false_iff_ne]; omega
  clear b1 b2 b3 b4 b5 b6 b7
  go_enter Tryd.func15, Tryd.ntmps15
  go_wp2_with fail
  go_ret2
  exact ⟨by rw [H.out]; rfl, rfl⟩

theorem dec_drop (s : ByteArray) (k : Nat) : Utf8.decode s k = Lib.decodeL (s.data.toList.drop k) := (Lib.decodeL_drop s k).symm
theorem iter_other (W : World) (s : ByteArray) (b : Nat) (h : b < W.heap.size) : (W.alloc (.stringIter s 0)).heap[b]? = W.heap[b]? := heap_alloc_old W _ h
theorem drop_ne (s : ByteArray) (k : Nat) (h : k < s.size) : s.data.toList.drop k ≠ [] := by
  intro e; have := congrArg List.length e; rw [List.length_drop, size_len, List.length_nil] at this; omega

set_option maxRecDepth 100000 in
theorem count (s : ByteArray) (w : World) (hs : s.size ≤ 1000000) (hu : U8 w) :
    Calls Tryd.prog 9 #[.string s] w fun e w' => e = .returned (.int .i64 (cntR s.data.toList)) ∧ Below w.heap.size w w' := by
  have c := valid s w hs hu
  cases hv : valR s.data.toList
  · have H : Hid (cntR s.data.toList = -1) := Lib.hid (by unfold cntR; rw [hv]; rfl)
    rw [hv] at c
    go_enter Tryd.func9, Tryd.ntmps9
    go_wp2_with fail
    refine c.mono ?_
    rintro e w1 ⟨rfl, hb⟩
    go_wp2_with fail
    go_ret
    exact ⟨ret_int H.out.symm, hb⟩
  · have H : Hid (cntR s.data.toList = (stpR s.data.toList : Int)) := Lib.hid (by unfold cntR; rw [hv]; rfl)
    rw [hv] at c
    have hsl := stpR_le s.data.toList.length s.data.toList (Nat.le_refl _)
    rw [size_len] at hsl
    go_enter Tryd.func9, Tryd.ntmps9
    go_wp2_with fail
    refine c.mono ?_
    rintro e w1 ⟨rfl, hb⟩
    go_wp2_with fail
    go_loopg [3] s.size (fun gk s3 wx => ∃ (k n : Nat), s3 = .int .i64 (n : Int) ∧ wx.heap[w1.heap.size]? = some (.stringIter s k) ∧ Below w1.heap.size w1 wx ∧
      n + stpR (s.data.toList.drop k) = stpR s.data.toList ∧ s.size ≤ k + gk ∧ k ≤ s.size)
    case atStart =>
      refine ⟨0, 0, rfl, World.iter_heap w1 s 0, (Below.refl _ w1).alloc (Nat.le_refl _) _, ?_, by omega, by omega⟩
      rw [List.drop_zero, Nat.zero_add]
    case round =>
      obtain ⟨k, n, rfl, hit, hb1, hsp, hfu, hks⟩ := hrel
      by_cases hlt : k < s.size
      · obtain ⟨g', rfl⟩ : ∃ g', gk = g' + 1 := ⟨gk - 1, by omega⟩
        have hne := drop_ne s k hlt
        have hnx : ∀ ty, (Instr.next (.pointer (some ⟨w1.heap.size, 0, none⟩)) true ty).run Tryd.prog wr = _ := fun ty => Lib.run_next_any_at wr w1.heap.size s k ty hit hlt
        rw [dec_drop] at hnx
        obtain ⟨R, hR⟩ : ∃ R, (Lib.decodeL (s.data.toList.drop k)).1 = R := ⟨_, rfl⟩
        obtain ⟨M, hM⟩ : ∃ M, (Lib.decodeL (s.data.toList.drop k)).2 = M := ⟨_, rfl⟩
        rw [hR, hM] at hnx
        have hst := stpR_step _ hne
        have hw := rwd_pos (s.data.toList.drop k)
        have hw2 := rwd_le _ hne
        rw [List.length_drop, size_len] at hw2
        have hMw : rwd (s.data.toList.drop k) = M := hM
        rw [hMw] at hst hw hw2
        rw [List.drop_drop] at hst
        have HS : Hid (n + 1 + stpR (s.data.toList.drop (k + M)) = stpR s.data.toList) := Lib.hid (by rw [← hsp, hst]; omega)
        have hit2 := Lib.iterAt_heap wr w1.heap.size s k (k + M) hit
        have hb2 : Below w1.heap.size w1 (wr.iterAt w1.heap.size s (k + M)) := hb1.trans (Lib.below_iterAt (Below.refl w1.heap.size wr) (Nat.le_refl _) s (k + M))
        have hnn : n ≤ s.size := by omega
        clear hsp hst hMw hM hit hb1 hR
        go_wp2_with fail
        go_roundg g'
        case measure => omega
        case rel => exact ⟨k + M, n + 1, by simp, hit2, hb2, HS.out, by omega, by omega⟩
      · obtain rfl : k = s.size := by omega
        have hnx : ∀ ty, (Instr.next (.pointer (some ⟨w1.heap.size, 0, none⟩)) true ty).run Tryd.prog wr = _ := fun ty => Lib.run_next_end_at wr w1.heap.size s s.size ty hit hlt
        have HS : Hid (n = stpR s.data.toList) := Lib.hid (by rw [← hsp, ← size_len s, List.drop_length, stpR_nil]; rfl)
        clear hsp hit
        go_wp2_with fail
        go_ret
        exact ⟨ret_int (by rw [H.out, HS.out]), bstep hb hb1⟩
end Go.Proofs.YtjkhihdghjoneaaDoor
