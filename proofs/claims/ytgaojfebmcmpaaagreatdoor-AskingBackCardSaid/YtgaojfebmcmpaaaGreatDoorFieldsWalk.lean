/- What the helpers of package fields, and of its reference, return. -/
import Derived.Test.YtgaojfebmcmpaaaGreatDoorFieldsPlain
import Derived.Test.YtgaojfebmcmpaaaGreatDoorShelf
namespace Go.Proofs.YtgaojfebmcmpaaaGreatDoor
open Go.RowKit

theorem digN_iff (x : Nat) (b : Bool) (h : digN x = b) : digN x = b := h
theorem fields_digit (x : Nat) (w : World) : Calls Tryz.prog 181 #[.int .i32 (x : Int)] w fun e w' => e = .returned (.bool (digN x)) ∧ w' = w := by
  by_cases h1 : x < 48
  · have H : Hid (digN x = false) := Lib.hid (by unfold digN; rw [decide_eq_false (by omega)]; rfl)
    go_enter Tryz.func181, Tryz.ntmps181
    go_wp2_with fail
    go_ret
    exact ⟨ret_bool H.out.symm, rfl⟩
  · by_cases h2 : 57 < x
    · have H : Hid (digN x = false) := Lib.hid (by unfold digN; rw [decide_eq_false (show ¬ x ≤ 57 by omega), Bool.and_false])
      have t1 : decide ((x : Int) ≤ 57) = false := by simp; omega
      go_enter Tryz.func181, Tryz.ntmps181
      go_wp2_with fail
      go_ret
      exact ⟨ret_bool H.out.symm, rfl⟩
    · have H : Hid (digN x = true) := Lib.hid (by unfold digN; rw [decide_eq_true (show x ≤ 57 by omega), decide_eq_true (show 48 ≤ x by omega)]; rfl)
      have t1 : decide ((x : Int) ≤ 57) = true := by simp; omega
      go_enter Tryz.func181, Tryz.ntmps181
      go_wp2_with fail
      go_ret
      exact ⟨ret_bool H.out.symm, rfl⟩
theorem fields_named (x : Nat) (w : World) : Calls Tryz.prog 170 #[.int .i32 (x : Int)] w fun e w' => e = .returned (.bool (namedN x)) ∧ w' = w := by
  by_cases h1 : x < 97
  · have hl : letN x = false := by unfold letN; rw [decide_eq_false (by omega)]; rfl
    cases hd : digN x with
    | true =>
      have hcon := fun w => fields_digit x w
      rw [hd] at hcon
      have H : Hid (namedN x = true) := Lib.hid (by unfold namedN; rw [hl, hd]; rfl)
      have Hcon := Lib.hid hcon
      clear hd hcon hl
      go_enter Tryz.func170, Tryz.ntmps170
      go_wp2_with (go_at_call 181; refine (Hcon.out _).mono ?_; rintro e w' ⟨rfl, rfl⟩)
      go_ret
      exact ⟨ret_bool H.out.symm, rfl⟩
    | false =>
      have hcon := fun w => fields_digit x w
      rw [hd] at hcon
      have H : Hid (namedN x = decide ((x : Int) = 45)) := Lib.hid (by
        unfold namedN; rw [hl, hd, Bool.false_or, Bool.false_or, Bool.eq_iff_iff, beq_iff_eq, decide_eq_true_iff]; omega)
      have Hcon := Lib.hid hcon
      clear hd hcon hl
      by_cases h45 : x = 45
      · have t : ((x : Int) == 45) = true := by rw [beq_iff_eq]; omega
        have H2 : Hid (namedN x = true) := Lib.hid (H.out.trans (decide_eq_true (by omega)))
        clear h45 H
        go_enter Tryz.func170, Tryz.ntmps170
        go_wp2_with (go_at_call 181; refine (Hcon.out _).mono ?_; rintro e w' ⟨rfl, rfl⟩)
        go_ret
        exact ⟨ret_bool H2.out.symm, rfl⟩
      · have t : ((x : Int) == 45) = false := by rw [beq_eq_false_iff_ne]; omega
        go_enter Tryz.func170, Tryz.ntmps170
        go_wp2_with (go_at_call 181; refine (Hcon.out _).mono ?_; rintro e w' ⟨rfl, rfl⟩)
        go_ret
        exact ⟨ret_bool (by rw [H.out, decide_eq_false (by omega)]), rfl⟩
  · by_cases h2 : 122 < x
    · have hl : letN x = false := by unfold letN; rw [decide_eq_false (show ¬ x ≤ 122 by omega), Bool.and_false]
      have hd : digN x = false := by unfold digN; rw [decide_eq_false (show ¬ x ≤ 57 by omega), Bool.and_false]
      have H : Hid (namedN x = false) := Lib.hid (by unfold namedN; rw [hl, hd, show (x == 45) = false by rw [beq_eq_false_iff_ne]; omega]; rfl)
      have t1 : decide ((x : Int) ≤ 122) = false := by simp; omega
      have t2 : ((x : Int) == 45) = false := by rw [beq_eq_false_iff_ne]; omega
      have hcon := fun w => fields_digit x w
      rw [hd] at hcon
      have Hcon := Lib.hid hcon
      clear hd hcon hl
      go_enter Tryz.func170, Tryz.ntmps170
      go_wp2_with (go_at_call 181; refine (Hcon.out _).mono ?_; rintro e w' ⟨rfl, rfl⟩)
      go_ret
      exact ⟨ret_bool H.out.symm, rfl⟩
    · have hl : letN x = true := by unfold letN; rw [decide_eq_true (show x ≤ 122 by omega), decide_eq_true (show 97 ≤ x by omega)]; rfl
      have H : Hid (namedN x = true) := Lib.hid (by unfold namedN; rw [hl]; rfl)
      have t1 : decide ((x : Int) ≤ 122) = true := by simp; omega
      clear hl
      go_enter Tryz.func170, Tryz.ntmps170
      go_wp2_with fail
      go_ret
      exact ⟨ret_bool H.out.symm, rfl⟩
theorem all1_digit (x B : Nat) (w : World) (hc : w.cell? ⟨B, 0, none⟩ = some (.func (.func 181) #[] #[])) :
    Calls Tryz.prog 200 #[.int .i32 (x : Int), .pointer (some ⟨B, 0, none⟩)] w fun e w' => e = .returned (.bool (!digN x)) ∧ w' = w := by
  go_enter Tryz.func200, Tryz.ntmps200
  go_wp2_with (go_at_call 181; refine (fields_digit _ _).mono ?_; rintro e w' ⟨rfl, rfl⟩)
  go_ret
  exact ⟨rfl, rfl⟩
theorem all1_named (x B : Nat) (w : World) (hc : w.cell? ⟨B, 0, none⟩ = some (.func (.func 170) #[] #[])) :
    Calls Tryz.prog 200 #[.int .i32 (x : Int), .pointer (some ⟨B, 0, none⟩)] w fun e w' => e = .returned (.bool (!namedN x)) ∧ w' = w := by
  go_enter Tryz.func200, Tryz.ntmps200
  go_wp2_with (go_at_call 170; refine (fields_named _ _).mono ?_; rintro e w' ⟨rfl, rfl⟩)
  go_ret
  exact ⟨rfl, rfl⟩

theorem idx_digit (s : ByteArray) (B : Nat) (w : World) (hB : B < w.heap.size) (hc : w.cell? ⟨B, 0, none⟩ = some (.func (.func 181) #[] #[])) :
    Calls Tryz.prog 123 #[.string s, .func (.func 200) #[] #[.pointer (some ⟨B, 0, none⟩)]] w fun e w' => e = .returned (.int .i64 (Lib.idxFunc (fun x => !digN x) true s)) ∧ Below w.heap.size w w' :=
  Tryz.strings_IndexFunc_grows 200 #[.pointer (some ⟨B, 0, none⟩)] (enters_of Tryz.func200 (by kernel_rfl) rfl) (fun x => !digN x) s w
    (fun W x _ hb => (all1_digit x B W ((hb.cell (p := ⟨B, 0, none⟩) hB).trans hc)).mono fun e w' ⟨he, hw⟩ => ⟨he, hw ▸ Below.refl _ _⟩)
theorem idx_named (s : ByteArray) (B : Nat) (w : World) (hB : B < w.heap.size) (hc : w.cell? ⟨B, 0, none⟩ = some (.func (.func 170) #[] #[])) :
    Calls Tryz.prog 123 #[.string s, .func (.func 200) #[] #[.pointer (some ⟨B, 0, none⟩)]] w fun e w' => e = .returned (.int .i64 (Lib.idxFunc (fun x => !namedN x) true s)) ∧ Below w.heap.size w w' :=
  Tryz.strings_IndexFunc_grows 200 #[.pointer (some ⟨B, 0, none⟩)] (enters_of Tryz.func200 (by kernel_rfl) rfl) (fun x => !namedN x) s w
    (fun W x _ hb => (all1_named x B W ((hb.cell (p := ⟨B, 0, none⟩) hB).trans hc)).mono fun e w' ⟨he, hw⟩ => ⟨he, hw ▸ Below.refl _ _⟩)

theorem all_digit_eq (s : ByteArray) : decide (Lib.idxFunc (fun x => !digN x) true s < 0) = s.data.toList.all (fun c => digN c.toNat) := by
  rw [idx_all _ (fun x h => by rw [digN_ge x h]; rfl)]; simp
theorem all_named_eq (s : ByteArray) : decide (Lib.idxFunc (fun x => !namedN x) true s < 0) = s.data.toList.all (fun c => namedN c.toNat) := by
  rw [idx_all _ (fun x h => by rw [namedN_ge x h]; rfl)]; simp

theorem below_box (w : World) (v : Value) (t : TypeId) : Below w.heap.size w (w.alloc (.cells #[v] t)) := (Below.refl _ _).alloc (Nat.le_refl _) _
theorem box_lt (w : World) (v : Value) (t : TypeId) : w.heap.size < (w.alloc (.cells #[v] t)).heap.size := by simp
theorem box_cell (w : World) (v : Value) (t : TypeId) : (w.alloc (.cells #[v] t)).cell? ⟨w.heap.size, 0, none⟩ = some v := by
  have h : (w.alloc (.cells #[v] t)).heap[w.heap.size]? = some (.cells #[v] t) := by
    show (w.heap.push _)[w.heap.size]? = _
    simp
  unfold World.cell?
  rw [h]; rfl

theorem fields_all_digit (s : ByteArray) (w : World) :
    Calls Tryz.prog 169 #[.string s, .func (.func 181) #[] #[]] w fun e w' => e = .returned (.bool (s.data.toList.all (fun c => digN c.toNat))) ∧ Below w.heap.size w w' := by
  have H := Lib.hid (all_digit_eq s)
  obtain ⟨i, hi⟩ : ∃ i, i = Lib.idxFunc (fun x => !digN x) true s := ⟨_, rfl⟩
  have HI := Lib.hid (fun B w hB hc => hi ▸ idx_digit s B w hB hc)
  rw [← hi] at H
  clear hi
  go_enter Tryz.func169, Tryz.ntmps169
  go_wp2_with fail
  refine (HI.out _ _ (box_lt _ _ _) (box_cell _ _ _)).mono ?_
  rintro e w1 ⟨rfl, hb⟩
  go_wp2_with fail
  go_ret
  exact ⟨ret_bool H.out, bstep (below_box _ _ _) hb⟩
theorem fields_all_named (s : ByteArray) (w : World) :
    Calls Tryz.prog 169 #[.string s, .func (.func 170) #[] #[]] w fun e w' => e = .returned (.bool (s.data.toList.all (fun c => namedN c.toNat))) ∧ Below w.heap.size w w' := by
  have H := Lib.hid (all_named_eq s)
  obtain ⟨i, hi⟩ : ∃ i, i = Lib.idxFunc (fun x => !namedN x) true s := ⟨_, rfl⟩
  have HI := Lib.hid (fun B w hB hc => hi ▸ idx_named s B w hB hc)
  rw [← hi] at H
  clear hi
  go_enter Tryz.func169, Tryz.ntmps169
  go_wp2_with fail
  refine (HI.out _ _ (box_lt _ _ _) (box_cell _ _ _)).mono ?_
  rintro e w1 ⟨rfl, hb⟩
  go_wp2_with fail
  go_ret
  exact ⟨ret_bool H.out, bstep (below_box _ _ _) hb⟩

theorem fields_name (s : ByteArray) (w : World) :
    Calls Tryz.prog 130 #[.string s] w fun e w' => e = .returned (.bool (nameL s.data.toList)) ∧ Below w.heap.size w w' := by
  by_cases he : s.size = 0
  · have H : Hid (nameL s.data.toList = false) := Lib.hid (by
      unfold nameL; rw [List.length_eq_zero_iff.1 (show s.data.toList.length = 0 by rw [size_len]; exact he)]; rfl)
    have t : s.toList.isEmpty = true := by
      rw [ByteArray.toList_eq, List.isEmpty_iff]; exact List.length_eq_zero_iff.1 (by rw [size_len]; exact he)
    go_enter Tryz.func130, Tryz.ntmps130
    go_wp2_with fail
    go_ret
    exact ⟨ret_bool H.out.symm, Below.refl _ _⟩
  · have t : s.toList.isEmpty = false := by
      rw [ByteArray.toList_eq, Bool.eq_false_iff, Ne, List.isEmpty_iff]; intro e; exact he (by rw [← size_len, e]; rfl)
    by_cases h32 : 32 < s.size
    · have H : Hid (nameL s.data.toList = false) := Lib.hid (by
        unfold nameL; rw [decide_eq_false (by rw [size_len]; omega), Bool.and_false, Bool.false_and])
      have t1 : decide ((s.size : Int) ≤ 32) = false := by simp; omega
      go_enter Tryz.func130, Tryz.ntmps130
      go_wp2_with fail
      go_ret
      exact ⟨ret_bool H.out.symm, Below.refl _ _⟩
    · have H : Hid (nameL s.data.toList = s.data.toList.all (fun c => namedN c.toNat)) := Lib.hid (by
        unfold nameL; rw [decide_eq_true (by rw [size_len]; omega), ← ByteArray.toList_eq, t]; rfl)
      have t1 : decide ((s.size : Int) ≤ 32) = true := by simp; omega
      have HA := Lib.hid (fun w => fields_all_named s w)
      obtain ⟨b, hb⟩ : ∃ b, b = s.data.toList.all (fun c => namedN c.toNat) := ⟨_, rfl⟩
      rw [← hb] at H HA
      clear hb
      cases b
      all_goals
        go_enter Tryz.func130, Tryz.ntmps130
        go_wp2_with fail
        refine (HA.out _).mono ?_
        rintro e w1 ⟨rfl, hb1⟩
        go_wp2_with fail
        go_ret
        exact ⟨ret_bool H.out.symm, hb1⟩

theorem fields_plain (s : ByteArray) (w : World) (hs : s.size ≤ 9223372036854775807) :
    Calls Tryz.prog 131 #[.string s] w fun e w' => e = .returned (.bool (s.data.toList.all (fun c => plainB c.toNat))) ∧ w' = w := by
  have hp := fun w => lines_put s w hs
  obtain ⟨L, hL⟩ : ∃ L, L = putLine s := ⟨_, rfl⟩
  rw [← hL] at hp
  cases hb : s.data.toList.all (fun c => plainB c.toNat) with
  | true =>
    obtain ⟨E, hE⟩ : ∃ E, E = putErr s.data.toList := ⟨_, rfl⟩
    have h4 : E ≠ 4 := by rw [hE]; unfold putErr; rw [if_neg (by rw [hb]; decide)]; split <;> decide
    rw [← hE] at hp
    have HP := Lib.hid hp
    have t : ((E : Int) != 4) = true := by rw [bne_iff_ne]; omega
    clear hp hE hb hL h4
    go_enter Tryz.func131, Tryz.ntmps131
    go_wp2_with (go_at_call 57; refine (HP.out _).mono ?_; rintro e w' ⟨rfl, rfl⟩)
    go_ret
    exact ⟨ret_bool rfl, rfl⟩
  | false =>
    rw [show putErr s.data.toList = 4 from if_pos hb] at hp
    have HP := Lib.hid hp
    clear hp hb hL
    go_enter Tryz.func131, Tryz.ntmps131
    go_wp2_with (go_at_call 57; refine (HP.out _).mono ?_; rintro e w' ⟨rfl, rfl⟩)
    go_ret
    exact ⟨ret_bool rfl, rfl⟩
end Go.Proofs.YtgaojfebmcmpaaaGreatDoor
