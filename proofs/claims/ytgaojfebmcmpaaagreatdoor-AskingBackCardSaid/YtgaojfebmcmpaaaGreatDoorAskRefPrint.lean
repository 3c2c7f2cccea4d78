/- What Print of the reference of asking returns. -/
import Derived.Test.YtgaojfebmcmpaaaGreatDoorAskPrint
namespace Go.Proofs.YtgaojfebmcmpaaaGreatDoor
open Go.RowKit

theorem bs_of (s : ByteArray) (l : List UInt8) (h : s.data.toList = l) : s = bs l := by rw [← h, bs_self]
set_option maxRecDepth 100000 in
set_option maxHeartbeats 2000000 in
theorem ref_aprint (p h : ByteArray) (a b : Int) (w : World) (ha : a ≤ 9223372036854775807) (hb : b ≤ 9223372036854775807) (hps : p.size ≤ 9223372036854775807) (hhs : h.size ≤ 9223372036854775807) :
    Calls Tryz.prog 18 #[.agg #[.string p, .string h, .int .i64 a, .int .i64 b]] w fun e w' => e = .returned (.tuple #[.string (bs (aPrint p.data.toList h.data.toList a b)), .int .i64 (aErr p.data.toList h.data.toList a b : Nat)]) ∧ Below w.heap.size w w' := by
  have HC := Lib.hid (fun w => ref_acheck p h a b w hps hhs)
  have HA := Lib.hid (fun w => ref_ask a b w ha hb)
  by_cases he : aErr p.data.toList h.data.toList a b = 0
  · obtain ⟨z1, z2, hr⟩ := aErr_zero _ _ _ _ he
    have hp : p.size ≤ 64 := by have := (pathB_and _ z1).1; rwa [size_len] at this
    have hh : h.size ≤ 32 := by have := (hostB_and _ z2).1; rwa [size_len] at this
    have HRQ : Hid (aPrint p.data.toList h.data.toList a b = reqL p.data.toList h.data.toList a b) := Lib.hid (if_pos he)
    rw [he] at HC ⊢
    rw [hr] at HA
    obtain ⟨Q, hQ⟩ : ∃ Q, bs (askL a b) = Q := ⟨_, rfl⟩
    rw [hQ] at HA
    have hQs : Q.size ≤ 47 := by rw [← hQ, bs_size]; exact askL_len a b ha hb
    have zz : ∀ X Y : ByteArray, (X ++ Y).size = X.size + Y.size := fun X Y => ByteArray.size_append
    have y1 : (⟨#[71, 69, 84, 32]⟩ : ByteArray).size = 4 := rfl
    have y2 : (⟨#[32, 72, 84, 84, 80, 47, 49, 46, 49, 13, 10, 72, 111, 115, 116, 58, 32]⟩ : ByteArray).size = 17 := rfl
    have y3 : (⟨#[13, 10, 82, 97, 110, 103, 101, 58, 32]⟩ : ByteArray).size = 9 := rfl
    have y4 : (⟨#[13, 10, 13, 10]⟩ : ByteArray).size = 4 := rfl
    have p1 := fun w => run_string_add_sum (P := Tryz.prog) w ⟨#[71, 69, 84, 32]⟩ p (by rw [y1]; omega)
    have p2 := fun w => run_string_add_sum (P := Tryz.prog) w (⟨#[71, 69, 84, 32]⟩ ++ p) ⟨#[32, 72, 84, 84, 80, 47, 49, 46, 49, 13, 10, 72, 111, 115, 116, 58, 32]⟩ (by rw [zz, y1, y2]; omega)
    have p3 := fun w => run_string_add_sum (P := Tryz.prog) w (⟨#[71, 69, 84, 32]⟩ ++ p ++ ⟨#[32, 72, 84, 84, 80, 47, 49, 46, 49, 13, 10, 72, 111, 115, 116, 58, 32]⟩) h (by rw [zz, zz, y1, y2]; omega)
    have p4 := fun w => run_string_add_sum (P := Tryz.prog) w (⟨#[71, 69, 84, 32]⟩ ++ p ++ ⟨#[32, 72, 84, 84, 80, 47, 49, 46, 49, 13, 10, 72, 111, 115, 116, 58, 32]⟩ ++ h) ⟨#[13, 10, 82, 97, 110, 103, 101, 58, 32]⟩ (by rw [zz, zz, zz, y1, y2, y3]; omega)
    have p5 := fun w => run_string_add_sum (P := Tryz.prog) w (⟨#[71, 69, 84, 32]⟩ ++ p ++ ⟨#[32, 72, 84, 84, 80, 47, 49, 46, 49, 13, 10, 72, 111, 115, 116, 58, 32]⟩ ++ h ++ ⟨#[13, 10, 82, 97, 110, 103, 101, 58, 32]⟩) Q (by rw [zz, zz, zz, zz, y1, y2, y3]; omega)
    have p6 := fun w => run_string_add_sum (P := Tryz.prog) w (⟨#[71, 69, 84, 32]⟩ ++ p ++ ⟨#[32, 72, 84, 84, 80, 47, 49, 46, 49, 13, 10, 72, 111, 115, 116, 58, 32]⟩ ++ h ++ ⟨#[13, 10, 82, 97, 110, 103, 101, 58, 32]⟩ ++ Q) ⟨#[13, 10, 13, 10]⟩ (by rw [zz, zz, zz, zz, zz, y1, y2, y3, y4]; omega)
    have HR : Hid (⟨#[71, 69, 84, 32]⟩ ++ p ++ ⟨#[32, 72, 84, 84, 80, 47, 49, 46, 49, 13, 10, 72, 111, 115, 116, 58, 32]⟩ ++ h ++ ⟨#[13, 10, 82, 97, 110, 103, 101, 58, 32]⟩ ++ Q ++ ⟨#[13, 10, 13, 10]⟩ = bs (reqL p.data.toList h.data.toList a b)) := Lib.hid (by
      refine bs_of _ _ ?_
      have hq : Q.data.toList = askL a b := by rw [← hQ, bs_data]
      rw [data_cat, data_cat, data_cat, data_cat, data_cat, data_cat, hq]
      unfold reqL line1 line2 line3
      simp [body])
    clear zz y1 y2 y3 y4 z1 z2 he hr hQ
    go_enter Tryz.func18, Tryz.ntmps18
    go_wp2_with fail
    refine (HC.out _).mono ?_
    rintro e w1 ⟨rfl, hb1⟩
    obtain ⟨c0, c1, c2, c3⟩ := box_four hb1
    have HB1 := Lib.hid hb1
    clear hb1
    go_wp2_with fail
    refine (HA.out _).mono ?_
    rintro e w2 ⟨rfl, hb2⟩
    have HB2 := Lib.hid (bstep HB1.out hb2)
    obtain ⟨c0, c1, c2, c3⟩ := box_four HB2.out
    clear hb2
    go_wp2_with fail
    go_ret2
    exact ⟨by rw [HRQ.out, ← HR.out]; rfl, bstep (below_agg4 w _ _ _ _ _) HB2.out⟩
  · have HR : Hid (aPrint p.data.toList h.data.toList a b = []) := Lib.hid (if_neg he)
    obtain ⟨Z, hZ⟩ : ∃ Z, aErr p.data.toList h.data.toList a b = Z := ⟨_, rfl⟩
    rw [hZ] at HC he ⊢
    have tz : ((Z : Int) != 0) = true := by rw [bne_iff_ne]; omega
    clear hZ
    go_enter Tryz.func18, Tryz.ntmps18
    go_wp2_with fail
    refine (HC.out _).mono ?_
    rintro e w1 ⟨rfl, hb1⟩
    go_wp2_with fail
    go_ret2
    exact ⟨by rw [HR.out]; rfl, bstep (below_agg4 w _ _ _ _ _) hb1⟩
end Go.Proofs.YtgaojfebmcmpaaaGreatDoor
