/- The small example of the laws of layer 16. -/
import Derived.Test.YtjkhihdghjoneaaDoorJUnquote
import Derived.Test.YtjkhihdghjoneaaDoorJEndsPlain
namespace Go.Proofs.YtjkhihdghjoneaaDoor
open Go.RowKit Go.Lib

theorem quote_at (s t : ByteArray) (e : Nat) (h : (if Lib.validD s.data.toList = true then quoL s.data.toList else []) = t.data.toList ∧ (if Lib.validD s.data.toList = true then 0 else 4) = e) (w : World) (hs : s.size ≤ 10000) (hu : U8 w) :
    Calls Tryd.prog 7 #[.string s] w fun r w' => r = .returned (.tuple #[.string t, .int .i64 e]) ∧ Below w.heap.size w w' := by
  refine (quote s w hs hu).mono fun r w' ⟨h1, h2⟩ => ⟨?_, h2⟩
  obtain ⟨ha, hb⟩ := h
  rw [valD_eq] at ha hb
  rw [h1, ha, bs_self]
  refine ret_pair rfl ?_
  rw [← hb]; split <;> rfl
theorem take_at (s t : ByteArray) (at_ n : Int) (e : Nat) (h : takeP s.data.toList at_ = (t.data.toList, n, e)) (w : World) (hs : s.size ≤ 10000) (hu : U8 w) :
    Calls Tryd.prog 12 #[.string s, .int .i64 at_] w fun r w' => r = .returned (.tuple #[.string t, .int .i64 n, .int .i64 e]) ∧ Below w.heap.size w w' := by
  have := take s at_ w hs hu
  rw [h, bs_self] at this
  exact this
theorem unquote_at (s t : ByteArray) (e : Nat) (h : unqP s.data.toList = (t.data.toList, e)) (w : World) (hs : s.size ≤ 10000) (hu : U8 w) :
    Calls Tryd.prog 13 #[.string s] w fun r w' => r = .returned (.tuple #[.string t, .int .i64 e]) ∧ Below w.heap.size w w' := by
  have := unquote s w hs hu
  rw [h, bs_self] at this
  exact this
theorem valid_at (s : ByteArray) (b : Bool) (h : Lib.validD s.data.toList = b) (w : World) (hs : s.size ≤ 1000000) (hu : U8 w) :
    Calls Tryd.prog 11 #[.string s] w fun r w' => r = .returned (.bool b) ∧ Below w.heap.size w w' := by
  have := valid s w hs hu
  rw [← valD_eq, h] at this
  exact this
theorem count_at (s : ByteArray) (n : Int) (h : cntR s.data.toList = n) (w : World) (hs : s.size ≤ 1000000) (hu : U8 w) :
    Calls Tryd.prog 9 #[.string s] w fun r w' => r = .returned (.int .i64 n) ∧ Below w.heap.size w w' := by
  have := count s w hs hu
  rw [h] at this
  exact this
theorem jw1 : (if Lib.validD (ByteArray.mk #[97, 10, 34, 1]).data.toList = true then quoL (ByteArray.mk #[97, 10, 34, 1]).data.toList else []) = (ByteArray.mk #[34, 97, 92, 110, 92, 34, 92, 117, 48, 48, 48, 49, 34]).data.toList ∧ (if Lib.validD (ByteArray.mk #[97, 10, 34, 1]).data.toList = true then 0 else 4) = 0 := by decide +kernel
theorem jw2 : takeP (ByteArray.mk #[120, 34, 92, 117, 100, 56, 51, 100, 92, 117, 100, 101, 48, 48, 34, 121]).data.toList 1 = ((ByteArray.mk #[240, 159, 152, 128]).data.toList, 15, 0) := by decide +kernel
theorem jw3 : takeP (ByteArray.mk #[34, 97, 92, 113]).data.toList 0 = ((ByteArray.mk #[]).data.toList, 2, 4) := by decide +kernel
theorem jw4 : unqP (ByteArray.mk #[34, 97]).data.toList = ((ByteArray.mk #[]).data.toList, 3) := by decide +kernel
theorem jw5 : (if Lib.validD (ByteArray.mk #[255]).data.toList = true then quoL (ByteArray.mk #[255]).data.toList else []) = (ByteArray.mk #[]).data.toList ∧ (if Lib.validD (ByteArray.mk #[255]).data.toList = true then 0 else 4) = 4 := by decide +kernel
theorem jw6 : unqP (ByteArray.mk #[34, 92, 47, 92, 117, 48, 48, 52, 49, 34]).data.toList = ((ByteArray.mk #[47, 65]).data.toList, 0) := by decide +kernel
theorem jw7 : Lib.validD (ByteArray.mk #[195, 164]).data.toList = true := by decide +kernel
theorem jw8 : Lib.validD (ByteArray.mk #[237, 160, 128]).data.toList = false := by decide +kernel
theorem jw9 : cntR (ByteArray.mk #[195, 164, 98]).data.toList = 2 := by
  unfold cntR
  rw [← valD_eq, if_pos (by decide +kernel), stpR_step _ (by decide), show rwd (ByteArray.mk #[195, 164, 98]).data.toList = 2 by decide +kernel, stpR_step _ (by decide), show (List.drop 2 (ByteArray.mk #[195, 164, 98]).data.toList) = [98] by decide +kernel, show rwd [98] = 1 by decide +kernel, show List.drop 1 [(98 : UInt8)] = [] from rfl, stpR_nil]
  rfl
theorem jw10 : cntR (ByteArray.mk #[128]).data.toList = -1 := by
  unfold cntR
  rw [← valD_eq, if_neg (by decide +kernel)]

set_option maxRecDepth 100000 in
set_option maxHeartbeats 2000000 in
theorem awake16 (w : World) (hU : U8 w) :
    Calls Tryd.prog 6 #[] w fun e w' => e = .returned (.bool true) ∧ Below w.heap.size w w' := by
  have HU := Lib.hid hU
  clear hU
  go_enter Tryd.func6, Tryd.ntmps6
  go_wp2_with fail
  refine (quote_at _ _ _ jw1 _ (by decide) HU.out).mono ?_
  rintro e w1 ⟨rfl, hb1⟩
  have HU1 := Lib.hid (HU.out.below hb1)
  go_wp2_with fail
  refine (take_at _ _ _ _ _ jw2 _ (by decide) HU1.out).mono ?_
  rintro e w2 ⟨rfl, hb2⟩
  have HU2 := Lib.hid (HU1.out.below hb2)
  have hb12 := bstep hb1 hb2
  clear hb1 hb2 HU1
  go_wp2_with fail
  refine (take_at _ _ _ _ _ jw3 _ (by decide) HU2.out).mono ?_
  rintro e w3 ⟨rfl, hb3⟩
  have HU3 := Lib.hid (HU2.out.below hb3)
  have hb13 := bstep hb12 hb3
  clear hb12 hb3 HU2
  go_wp2_with fail
  refine (unquote_at _ _ _ jw4 _ (by decide) HU3.out).mono ?_
  rintro e w4 ⟨rfl, hb4⟩
  have HU4 := Lib.hid (HU3.out.below hb4)
  have hb14 := bstep hb13 hb4
  clear hb13 hb4 HU3
  go_wp2_with fail
  refine (quote_at _ _ _ jw5 _ (by decide) HU4.out).mono ?_
  rintro e w5 ⟨rfl, hb5⟩
  have HU5 := Lib.hid (HU4.out.below hb5)
  have hb15 := bstep hb14 hb5
  clear hb14 hb5 HU4
  go_wp2_with fail
  refine (unquote_at _ _ _ jw6 _ (by decide) HU5.out).mono ?_
  rintro e w6 ⟨rfl, hb6⟩
  have HU6 := Lib.hid (HU5.out.below hb6)
  have hb16 := bstep hb15 hb6
  clear hb15 hb6 HU5
  go_wp2_with fail
  refine (valid_at _ _ jw7 _ (by decide) HU6.out).mono ?_
  rintro e w7 ⟨rfl, hb7⟩
  have HU7 := Lib.hid (HU6.out.below hb7)
  have hb17 := bstep hb16 hb7
  clear hb16 hb7 HU6
  go_wp2_with fail
  refine (valid_at _ _ jw8 _ (by decide) HU7.out).mono ?_
  rintro e w8 ⟨rfl, hb8⟩
  have HU8 := Lib.hid (HU7.out.below hb8)
  have hb18 := bstep hb17 hb8
  clear hb17 hb8 HU7
  go_wp2_with fail
  refine (count_at _ _ jw9 _ (by decide) HU8.out).mono ?_
  rintro e w9 ⟨rfl, hb9⟩
  have HU9 := Lib.hid (HU8.out.below hb9)
  have hb19 := bstep hb18 hb9
  clear hb18 hb9 HU8
  go_wp2_with fail
  refine (count_at _ _ jw10 _ (by decide) HU9.out).mono ?_
  rintro e w10 ⟨rfl, hb10⟩
  have hb := Lib.hid (bstep hb19 hb10)
  clear hb10 hb19 HU9
  go_wp2_with fail
  go_ret
  exact ⟨rfl, hb.out⟩
end Go.Proofs.YtjkhihdghjoneaaDoor
