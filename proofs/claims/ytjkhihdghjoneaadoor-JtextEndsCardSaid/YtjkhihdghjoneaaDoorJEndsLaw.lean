/- The law function JtextEnds. -/
import Derived.Test.YtjkhihdghjoneaaDoorJAwake
namespace Go.Proofs.YtjkhihdghjoneaaDoor
open Go.RowKit Go.Lib

theorem take_any (s : ByteArray) (at_ : Int) (t : List UInt8) (n : Int) (e : Nat) (h : takeP s.data.toList at_ = (t, n, e)) (w : World) (hs : s.size ≤ 10000) (hu : U8 w) :
    Calls Tryd.prog 12 #[.string s, .int .i64 at_] w fun r w' => r = .returned (.tuple #[.string (bs t), .int .i64 n, .int .i64 e]) ∧ Below w.heap.size w w' := by
  have := take s at_ w hs hu
  rw [h] at this
  exact this
theorem extract_take (s : ByteArray) (n : Nat) : (s.extract 0 n).data.toList = s.data.toList.take n := by
  rw [extract_bs, bs_data, List.drop_zero]

set_option maxRecDepth 100000 in
set_option maxHeartbeats 2000000 in
theorem jtextEnds_walk (s b : ByteArray) (cut : UInt8) (w : World) (hU : U8 w) (hs : s.size ≤ 9223372036854775807) (hb : b.size ≤ 9223372036854775807) :
    Calls Tryd.prog 5 #[.string s, .string b, .int .u8 (cut.toNat : Int)] w fun e w' => e = .returned (.bool true) ∧ Below w.heap.size w w' := by
  have HU := Lib.hid hU
  clear hU
  by_cases h1 : (200 : Int) < (s.size : Int)
  · go_enter Tryd.func5, Tryd.ntmps5
    go_wp2_with fail
    refine (awake16 _ HU.out).mono ?_
    rintro e w1 ⟨rfl, hb⟩
    go_wp2_with fail
    go_ret
    exact ⟨rfl, hb⟩
  by_cases h2 : (200 : Int) < (b.size : Int)
  · go_enter Tryd.func5, Tryd.ntmps5
    go_wp2_with fail
    refine (awake16 _ HU.out).mono ?_
    rintro e w1 ⟨rfl, hb⟩
    go_wp2_with fail
    go_ret
    exact ⟨rfl, hb⟩
  obtain ⟨⟨t, n, f⟩, hT⟩ : ∃ T, takeP s.data.toList 0 = T := ⟨_, rfl⟩
  have cT := Lib.hid (fun w (hu : U8 w) => take_any s 0 t n f hT w (by omega) hu)
  by_cases hf : f ≠ 0
  · obtain ⟨e1, e2, e3, e4⟩ := take0_err s.data.toList (by rw [hT]; exact hf)
    rw [hT, size_len] at e3
    rw [hT] at e1 e2
    rw [hT, size_len] at e4
    change t = [] at e1
    change 0 ≤ n at e2
    change n ≤ (s.size : Int) at e3
    change f = 3 ∧ n = (s.size : Int) ∨ f = 4 at e4
    subst e1
    rw [show bs [] = ⟨#[]⟩ from rfl] at cT
    have t0 : decide (n ≥ 0) = true := decide_eq_true e2
    have t1 : decide (n ≤ (s.size : Int)) = true := decide_eq_true e3
    rcases e4 with ⟨rfl, rfl⟩ | rfl
    · clear hT hf
      go_enter Tryd.func5, Tryd.ntmps5
      go_wp2_with fail
      refine (cT.out _ HU.out).mono ?_
      rintro e w1 ⟨rfl, hb1⟩
      have HU1 := Lib.hid (HU.out.below hb1)
      go_wp2_with fail
      refine (awake16 _ HU1.out).mono ?_
      rintro e w2 ⟨rfl, hb2⟩
      go_wp2_with fail
      go_ret
      exact ⟨rfl, bstep hb1 hb2⟩
    · clear hT hf
      go_enter Tryd.func5, Tryd.ntmps5
      go_wp2_with fail
      refine (cT.out _ HU.out).mono ?_
      rintro e w1 ⟨rfl, hb1⟩
      have HU1 := Lib.hid (HU.out.below hb1)
      go_wp2_with fail
      refine (awake16 _ HU1.out).mono ?_
      rintro e w2 ⟨rfl, hb2⟩
      go_wp2_with fail
      go_ret
      exact ⟨rfl, bstep hb1 hb2⟩
  · obtain rfl : f = 0 := by omega
    obtain ⟨N, rfl, hv, hN2, hNl, -, htl, -⟩ := take0_ok _ _ _ hT
    rw [size_len] at hNl
    have hmod : (cut.toNat % N) < N := Nat.mod_lt _ (by omega)
    have cV := Lib.hid (fun w (hu : U8 w) => valid_at (bs t) true (by rw [valD_eq, bs_data]; exact hv) w (by rw [bs_size]; omega) hu)
    have cU : Hid (∀ w (_ : U8 w), Calls Tryd.prog 12 #[.string (s.extract 0 N ++ b), .int .i64 0] w fun r w' => r = .returned (.tuple #[.string (bs t), .int .i64 (N : Int), .int .i64 ((0 : Nat) : Int)]) ∧ Below w.heap.size w w') := Lib.hid (fun w hu => by
      refine take_any _ 0 t N 0 ?_ w (by simp only [ByteArray.size_append, ByteArray.size_extract]; omega) hu
      rw [data_cat, extract_take]
      exact take0_pre _ _ b.data.toList _ hT)
    obtain ⟨k, hk⟩ : ∃ k, cut.toNat % N = k := ⟨_, rfl⟩
    rw [hk] at hmod
    obtain ⟨c1, c2⟩ := take0_cut _ _ _ hT k (by omega)
    obtain ⟨⟨v, m, g⟩, hV⟩ : ∃ T, takeP (s.data.toList.take k) 0 = T := ⟨_, rfl⟩
    have cW := Lib.hid (fun w (hu : U8 w) => take_any (s.extract 0 k) 0 v m g (by rw [extract_take]; exact hV) w (by rw [ByteArray.size_extract]; omega) hu)
    rw [hV] at c1 c2
    change v = [] at c1
    change g = 3 ∧ m = (k : Int) ∨ g = 4 at c2
    subst c1
    rw [show bs [] = ⟨#[]⟩ from rfl] at cW
    have hm1 : ((cut.toNat : Nat) : Int) % (N : Int) = (k : Int) := by omega
    have hm2 : ((cut.toNat : Nat) : Int).tmod (N : Int) = (k : Int) := by rw [Int.tmod_eq_emod_of_nonneg (by omega)]; exact hm1
    have hkN : k ≤ N := by omega
    have hcu : ((cut.toNat : Nat) : Int) ≤ 255 := by have := cut.toNat_lt; omega
    have hcw : wrap64 ((cut.toNat : Nat) : Int) = ((cut.toNat : Nat) : Int) := by unfold wrap64; omega
    obtain ⟨T, hTT⟩ : ∃ T, bs t = T := ⟨_, rfl⟩
    rw [hTT] at cT cV cU
    have t0 : ((N : Int) == 0) = false := by rw [beq_eq_false_iff_ne]; omega
    have hb' : b.size ≤ 200 := by omega
    rcases c2 with ⟨rfl, rfl⟩ | rfl
    · clear hT hV hTT hv hk
      go_enter Tryd.func5, Tryd.ntmps5
      go_wp2_with fail
      refine (cT.out _ HU.out).mono ?_
      rintro e w1 ⟨rfl, hb1⟩
      have HU1 := Lib.hid (HU.out.below hb1)
      go_wp2_with fail
      refine (cV.out _ HU1.out).mono ?_
      rintro e w2 ⟨rfl, hb2⟩
      have HU2 := Lib.hid (HU1.out.below hb2)
      go_wp2_with fail
      refine (cU.out _ HU2.out).mono ?_
      rintro e w3 ⟨rfl, hb3⟩
      have HU3 := Lib.hid (HU2.out.below hb3)
      go_wp2_with fail
      refine (cW.out _ HU3.out).mono ?_
      rintro e w4 ⟨rfl, hb4⟩
      have HU4 := Lib.hid (HU3.out.below hb4)
      go_wp2_with fail
      refine (awake16 _ HU4.out).mono ?_
      rintro e w5 ⟨rfl, hb5⟩
      go_wp2_with fail
      go_ret
      exact ⟨rfl, bstep hb1 (bstep hb2 (bstep hb3 (bstep hb4 hb5)))⟩
    · clear hT hV hTT hv hk
      go_enter Tryd.func5, Tryd.ntmps5
      go_wp2_with fail
      refine (cT.out _ HU.out).mono ?_
      rintro e w1 ⟨rfl, hb1⟩
      have HU1 := Lib.hid (HU.out.below hb1)
      go_wp2_with fail
      refine (cV.out _ HU1.out).mono ?_
      rintro e w2 ⟨rfl, hb2⟩
      have HU2 := Lib.hid (HU1.out.below hb2)
      go_wp2_with fail
      refine (cU.out _ HU2.out).mono ?_
      rintro e w3 ⟨rfl, hb3⟩
      have HU3 := Lib.hid (HU2.out.below hb3)
      go_wp2_with fail
      refine (cW.out _ HU3.out).mono ?_
      rintro e w4 ⟨rfl, hb4⟩
      have HU4 := Lib.hid (HU3.out.below hb4)
      go_wp2_with fail
      refine (awake16 _ HU4.out).mono ?_
      rintro e w5 ⟨rfl, hb5⟩
      go_wp2_with fail
      go_ret
      exact ⟨rfl, bstep hb1 (bstep hb2 (bstep hb3 (bstep hb4 hb5)))⟩
end Go.Proofs.YtjkhihdghjoneaaDoor
