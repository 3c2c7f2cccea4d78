/- What the functions of package status and of its reference return. -/
import Derived.Test.YtnfadmdndefanaaDoorStatusPlain
import Derived.Test.YtnfadmdndefanaaDoorEnv
import Derived.Shelf.Strings.SlTrimAscii
namespace Go.Proofs.YtnfadmdndefanaaDoor
open Go.RowKit

set_option maxHeartbeats 1000000 in
theorem status_reason (code : Int) (w : World) :
    Calls Tryd.prog 32 #[.int .i64 code] w fun e w' => e = .returned (.string (reasonOf code)) ∧ w' = w := by
  by_cases h1 : code = 200
  · subst h1; go_enter Tryd.func32, Tryd.ntmps32; go_wp2_with fail; go_ret; exact ⟨ret_str rfl, rfl⟩
  · by_cases h2 : code = 206
    · subst h2; go_enter Tryd.func32, Tryd.ntmps32; go_wp2_with fail; go_ret; exact ⟨ret_str rfl, rfl⟩
    · by_cases h3 : code = 400
      · subst h3; go_enter Tryd.func32, Tryd.ntmps32; go_wp2_with fail; go_ret; exact ⟨ret_str rfl, rfl⟩
      · by_cases h4 : code = 404
        · subst h4; go_enter Tryd.func32, Tryd.ntmps32; go_wp2_with fail; go_ret; exact ⟨ret_str rfl, rfl⟩
        · by_cases h5 : code = 416
          · subst h5; go_enter Tryd.func32, Tryd.ntmps32; go_wp2_with fail; go_ret; exact ⟨ret_str rfl, rfl⟩
          · by_cases h6 : code = 502
            · subst h6; go_enter Tryd.func32, Tryd.ntmps32; go_wp2_with fail; go_ret; exact ⟨ret_str rfl, rfl⟩
            · have H : Hid (reasonOf code = ⟨#[79, 116, 104, 101, 114]⟩) := Lib.hid (by unfold reasonOf; rw [if_neg h1, if_neg h2, if_neg h3, if_neg h4, if_neg h5, if_neg h6])
              have k1 : (code == 200) = false := by rw [beq_eq_false_iff_ne]; exact h1
              have k2 : (code == 206) = false := by rw [beq_eq_false_iff_ne]; exact h2
              have k3 : (code == 400) = false := by rw [beq_eq_false_iff_ne]; exact h3
              have k4 : (code == 404) = false := by rw [beq_eq_false_iff_ne]; exact h4
              have k5 : (code == 416) = false := by rw [beq_eq_false_iff_ne]; exact h5
              have k6 : (code == 502) = false := by rw [beq_eq_false_iff_ne]; exact h6
              clear h1 h2 h3 h4 h5 h6
              go_enter Tryd.func32, Tryd.ntmps32
              go_wp2_with fail
              go_ret
              exact ⟨ret_str H.out.symm, rfl⟩

theorem status_class (code : Int) (w : World) :
    Calls Tryd.prog 34 #[.int .i64 code] w fun e w' => e = .returned (.int .i64 (classOf code)) ∧ w' = w := by
  by_cases h : code < 100
  · have H := Lib.hid (class_out code (.inl h))
    go_enter Tryd.func34, Tryd.ntmps34; go_wp2_with fail; go_ret; exact ⟨ret_int H.out.symm, rfl⟩
  · by_cases h2 : 599 < code
    · have H := Lib.hid (class_out code (.inr h2))
      go_enter Tryd.func34, Tryd.ntmps34; go_wp2_with fail; go_ret; exact ⟨ret_int H.out.symm, rfl⟩
    · have H := Lib.hid (class_in code (by omega) (by omega))
      go_enter Tryd.func34, Tryd.ntmps34; go_wp2_with fail; go_ret; exact ⟨ret_int H.out.symm, rfl⟩
theorem ref_class (code : Int) (w : World) :
    Calls Tryd.prog 35 #[.int .i64 code] w fun e w' => e = .returned (.int .i64 (classOf code)) ∧ w' = w := by
  by_cases h : code < 100
  · have H := Lib.hid (class_out code (.inl h))
    go_enter Tryd.func35, Tryd.ntmps35; go_wp2_with fail; go_ret; exact ⟨ret_int H.out.symm, rfl⟩
  · by_cases h2 : 599 < code
    · have H := Lib.hid (class_out code (.inr h2))
      go_enter Tryd.func35, Tryd.ntmps35; go_wp2_with fail; go_ret; exact ⟨ret_int H.out.symm, rfl⟩
    · have H := Lib.hid (class_in code (by omega) (by omega))
      go_enter Tryd.func35, Tryd.ntmps35; go_wp2_with fail; go_ret; exact ⟨ret_int H.out.symm, rfl⟩

def codesL : List Int := [200, 206, 400, 404, 416, 502]
def reasonsL : List ByteArray := [⟨#[79, 75]⟩, ⟨#[80, 97, 114, 116, 105, 97, 108, 32, 67, 111, 110, 116, 101, 110, 116]⟩, ⟨#[66, 97, 100, 32, 82, 101, 113, 117, 101, 115, 116]⟩, ⟨#[78, 111, 116, 32, 70, 111, 117, 110, 100]⟩,
  ⟨#[82, 97, 110, 103, 101, 32, 78, 111, 116, 32, 83, 97, 116, 105, 115, 102, 105, 97, 98, 108, 101]⟩, ⟨#[66, 97, 100, 32, 71, 97, 116, 101, 119, 97, 121]⟩]
set_option maxRecDepth 100000 in
set_option maxHeartbeats 1000000 in
theorem ref_reason (code : Int) (w : World) :
    Calls Tryd.prog 33 #[.int .i64 code] w fun e w' => e = .returned (.string (reasonOf code)) ∧ Below w.heap.size w w' := by
  go_enter Tryd.func33, Tryd.ntmps33
  go_wp2_with fail
  go_loop [5] (fun j => ∃ k : Nat, k ≤ 6 ∧ j = .int .i64 k ∧ Hid (∀ j, j < k → codesL.getD j 0 ≠ code)) (fun j => 6 - (intOf j).toNat)
  case atStart => exact ⟨0, by omega, rfl, Lib.hid (fun j hj => by omega)⟩
  case round =>
    obtain ⟨k, hk, rfl, Hno⟩ := hrel
    have hb : Below w.heap.size w ((w.alloc (.cells #[.int .i64 200, .int .i64 206, .int .i64 400, .int .i64 404, .int .i64 416, .int .i64 502] 3)).alloc (.cells #[.string ⟨#[79, 75]⟩, .string ⟨#[80, 97, 114, 116, 105, 97, 108, 32, 67, 111, 110, 116, 101, 110, 116]⟩, .string ⟨#[66, 97, 100, 32, 82, 101, 113, 117, 101, 115, 116]⟩, .string ⟨#[78, 111, 116, 32, 70, 111, 117, 110, 100]⟩, .string ⟨#[82, 97, 110, 103, 101, 32, 78, 111, 116, 32, 83, 97, 116, 105, 115, 102, 105, 97, 98, 108, 101]⟩, .string ⟨#[66, 97, 100, 32, 71, 97, 116, 101, 119, 97, 121]⟩] 9)) := ((Below.refl _ _).alloc (Nat.le_refl _) _).alloc (by simp) _
    rcases (show k = 0 ∨ k = 1 ∨ k = 2 ∨ k = 3 ∨ k = 4 ∨ k = 5 ∨ k = 6 by omega) with rfl | rfl | rfl | rfl | rfl | rfl | rfl
    · by_cases h : code = 200
      · subst h
        go_wp2_with fail
        go_ret
        exact ⟨ret_str rfl, hb⟩
      · have h1 : ((200 : Int) == code) = false := by rw [beq_eq_false_iff_ne]; exact fun e => h e.symm
        have Hn : Hid (∀ j, j < 1 → codesL.getD j 0 ≠ code) := Lib.hid (fun j hj => by
          by_cases e : j = 0
          · subst e; exact fun e => h e.symm
          · exact Hno.out j (by omega))
        clear h Hno
        go_wp2_with fail
        go_round
        case rel => exact ⟨1, by omega, rfl, Hn⟩
        case measure => simp [intOf]
    · by_cases h : code = 206
      · subst h
        go_wp2_with fail
        go_ret
        exact ⟨ret_str rfl, hb⟩
      · have h1 : ((206 : Int) == code) = false := by rw [beq_eq_false_iff_ne]; exact fun e => h e.symm
        have Hn : Hid (∀ j, j < 2 → codesL.getD j 0 ≠ code) := Lib.hid (fun j hj => by
          by_cases e : j = 1
          · subst e; exact fun e => h e.symm
          · exact Hno.out j (by omega))
        clear h Hno
        go_wp2_with fail
        go_round
        case rel => exact ⟨2, by omega, rfl, Hn⟩
        case measure => simp [intOf]
    · by_cases h : code = 400
      · subst h
        go_wp2_with fail
        go_ret
        exact ⟨ret_str rfl, hb⟩
      · have h1 : ((400 : Int) == code) = false := by rw [beq_eq_false_iff_ne]; exact fun e => h e.symm
        have Hn : Hid (∀ j, j < 3 → codesL.getD j 0 ≠ code) := Lib.hid (fun j hj => by
          by_cases e : j = 2
          · subst e; exact fun e => h e.symm
          · exact Hno.out j (by omega))
        clear h Hno
        go_wp2_with fail
        go_round
        case rel => exact ⟨3, by omega, rfl, Hn⟩
        case measure => simp [intOf]
    · by_cases h : code = 404
      · subst h
        go_wp2_with fail
        go_ret
        exact ⟨ret_str rfl, hb⟩
      · have h1 : ((404 : Int) == code) = false := by rw [beq_eq_false_iff_ne]; exact fun e => h e.symm
        have Hn : Hid (∀ j, j < 4 → codesL.getD j 0 ≠ code) := Lib.hid (fun j hj => by
          by_cases e : j = 3
          · subst e; exact fun e => h e.symm
          · exact Hno.out j (by omega))
        clear h Hno
        go_wp2_with fail
        go_round
        case rel => exact ⟨4, by omega, rfl, Hn⟩
        case measure => simp [intOf]
    · by_cases h : code = 416
      · subst h
        go_wp2_with fail
        go_ret
        exact ⟨ret_str rfl, hb⟩
      · have h1 : ((416 : Int) == code) = false := by rw [beq_eq_false_iff_ne]; exact fun e => h e.symm
        have Hn : Hid (∀ j, j < 5 → codesL.getD j 0 ≠ code) := Lib.hid (fun j hj => by
          by_cases e : j = 4
          · subst e; exact fun e => h e.symm
          · exact Hno.out j (by omega))
        clear h Hno
        go_wp2_with fail
        go_round
        case rel => exact ⟨5, by omega, rfl, Hn⟩
        case measure => simp [intOf]
    · by_cases h : code = 502
      · subst h
        go_wp2_with fail
        go_ret
        exact ⟨ret_str rfl, hb⟩
      · have h1 : ((502 : Int) == code) = false := by rw [beq_eq_false_iff_ne]; exact fun e => h e.symm
        have Hn : Hid (∀ j, j < 6 → codesL.getD j 0 ≠ code) := Lib.hid (fun j hj => by
          by_cases e : j = 5
          · subst e; exact fun e => h e.symm
          · exact Hno.out j (by omega))
        clear h Hno
        go_wp2_with fail
        go_round
        case rel => exact ⟨6, by omega, rfl, Hn⟩
        case measure => simp [intOf]
    · have H : Hid (reasonOf code = ⟨#[79, 116, 104, 101, 114]⟩) := Lib.hid (by
        have n0 := Hno.out 0 (by decide)
        have n1 := Hno.out 1 (by decide)
        have n2 := Hno.out 2 (by decide)
        have n3 := Hno.out 3 (by decide)
        have n4 := Hno.out 4 (by decide)
        have n5 := Hno.out 5 (by decide)
        simp only [codesL, List.getD_cons_zero, List.getD_cons_succ] at n0 n1 n2 n3 n4 n5
        unfold reasonOf
        rw [if_neg n0.symm, if_neg n1.symm, if_neg n2.symm, if_neg n3.symm, if_neg n4.symm, if_neg n5.symm])
      clear Hno
      go_wp2_with fail
      go_ret
      exact ⟨ret_str H.out.symm, hb⟩
end Go.Proofs.YtnfadmdndefanaaDoor
