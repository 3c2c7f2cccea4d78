/- What path and host of package asking, and of its reference, return. -/
import Derived.Test.YtgaojfebmcmpaaaGreatDoorRangesRef2
namespace Go.Proofs.YtgaojfebmcmpaaaGreatDoor
open Go.RowKit

def pathN (x : Nat) : Bool := decide (33 ≤ x) && decide (x ≤ 126)
def pathB (l : List UInt8) : Bool := [47].isPrefixOf l && decide (l.length ≤ 64) && l.all (fun c => pathN c.toNat)
def hostN (x : Nat) : Bool := letN x || digN x || x == 45 || x == 46
def hostB (l : List UInt8) : Bool := !l.isEmpty && decide (l.length ≤ 32) && l.all (fun c => hostN c.toNat)
theorem pathN_ge (x : Nat) (h : 128 ≤ x) : pathN x = false := by unfold pathN; rw [decide_eq_false (show ¬ x ≤ 126 by omega), Bool.and_false]
theorem hostN_ge (x : Nat) (h : 128 ≤ x) : hostN x = false := by
  unfold hostN letN digN
  rw [decide_eq_false (show ¬ x ≤ 122 by omega), decide_eq_false (show ¬ x ≤ 57 by omega), beq_eq_false_iff_ne.2 (show x ≠ 45 by omega), beq_eq_false_iff_ne.2 (show x ≠ 46 by omega), Bool.and_false, Bool.and_false]; rfl
theorem path1 (x : Nat) (w : World) : Calls Tryz.prog 122 #[.int .i32 (x : Int)] w fun e w' => e = .returned (.bool (!pathN x)) ∧ w' = w := by
  by_cases h1 : x ≤ 32
  · have H : Hid (pathN x = false) := Lib.hid (by unfold pathN; rw [decide_eq_false (by omega)]; rfl)
    have t1 : decide ((x : Int) ≤ 32) = true := decide_eq_true (by omega)
    go_enter Tryz.func122, Tryz.ntmps122
    go_wp2_with fail
    go_ret
    exact ⟨by rw [H.out]; rfl, rfl⟩
  have t1 : decide ((x : Int) ≤ 32) = false := decide_eq_false (by omega)
  by_cases h2 : 126 < x
  · have H : Hid (pathN x = false) := Lib.hid (by unfold pathN; rw [decide_eq_false (show ¬ x ≤ 126 by omega), Bool.and_false])
    have t2 : decide ((x : Int) > 126) = true := decide_eq_true (by omega)
    go_enter Tryz.func122, Tryz.ntmps122
    go_wp2_with fail
    go_ret
    exact ⟨by rw [H.out]; rfl, rfl⟩
  · have H : Hid (pathN x = true) := Lib.hid (by unfold pathN; rw [decide_eq_true (show x ≤ 126 by omega), decide_eq_true (show 33 ≤ x by omega)]; rfl)
    have t2 : decide ((x : Int) > 126) = false := decide_eq_false (by omega)
    go_enter Tryz.func122, Tryz.ntmps122
    go_wp2_with fail
    go_ret
    exact ⟨by rw [H.out]; rfl, rfl⟩
theorem hostN_of (x : Nat) (a b c d e f : Bool) (h1 : decide (97 ≤ x) = a) (h2 : decide (x ≤ 122) = b) (h3 : decide (48 ≤ x) = c) (h4 : decide (x ≤ 57) = d) (h5 : (x == 45) = e) (h6 : (x == 46) = f) : hostN x = ((a && b) || (c && d) || e || f) := by
  unfold hostN letN digN
  rw [h1, h2, h3, h4, h5, h6]
theorem dec_cast (x k : Nat) (a : Bool) (h : decide (k ≤ x) = a) : decide ((x : Int) ≥ (k : Int)) = a := by
  rw [← h]; exact decide_eq_decide.2 (by omega)
theorem dec_cast2 (x k : Nat) (a : Bool) (h : decide (x ≤ k) = a) : decide ((x : Int) ≤ (k : Int)) = a := by
  rw [← h]; exact decide_eq_decide.2 (by omega)
theorem beq_cast (x k : Nat) (a : Bool) (h : (x == k) = a) : ((x : Int) == (k : Int)) = a := by
  rw [← h, Bool.eq_iff_iff, beq_iff_eq, beq_iff_eq]; omega
set_option maxHeartbeats 8000000 in
theorem host1 (x : Nat) (w : World) : Calls Tryz.prog 124 #[.int .i32 (x : Int)] w fun e w' => e = .returned (.bool (!hostN x)) ∧ w' = w := by
  cases h1 : decide (97 ≤ x) <;> cases h2 : decide (x ≤ 122) <;> cases h3 : decide (48 ≤ x) <;> cases h4 : decide (x ≤ 57) <;> cases h5 : (x == 45) <;> cases h6 : (x == 46)
  all_goals
    have H := Lib.hid (hostN_of x _ _ _ _ _ _ h1 h2 h3 h4 h5 h6)
    have t1 : decide ((x : Int) ≥ 97) = _ := dec_cast x 97 _ h1
    have t2 : decide ((x : Int) ≤ 122) = _ := dec_cast2 x 122 _ h2
    have t3 : decide ((x : Int) ≥ 48) = _ := dec_cast x 48 _ h3
    have t4 : decide ((x : Int) ≤ 57) = _ := dec_cast2 x 57 _ h4
    have t5 : ((x : Int) == 45) = _ := beq_cast x 45 _ h5
    have t6 : ((x : Int) == 46) = _ := beq_cast x 46 _ h6
    clear h1 h2 h3 h4 h5 h6
    go_enter Tryz.func124, Tryz.ntmps124
    go_wp2_with fail
    go_ret
    exact ⟨by rw [H.out]; rfl, rfl⟩
theorem idx_path (s : ByteArray) (w : World) :
    Calls Tryz.prog 123 #[.string s, .func (.func 122) #[] #[]] w fun e w' => e = .returned (.int .i64 (Lib.idxFunc (fun x => !pathN x) true s)) ∧ Below w.heap.size w w' :=
  Tryz.strings_IndexFunc_grows 122 #[] (enters_of Tryz.func122 (by kernel_rfl) rfl) (fun x => !pathN x) s w
    (fun W x _ _ => (path1 x W).mono fun e w' ⟨he, hw⟩ => ⟨he, hw ▸ Below.refl _ _⟩)
theorem idx_host (s : ByteArray) (w : World) :
    Calls Tryz.prog 123 #[.string s, .func (.func 124) #[] #[]] w fun e w' => e = .returned (.int .i64 (Lib.idxFunc (fun x => !hostN x) true s)) ∧ Below w.heap.size w w' :=
  Tryz.strings_IndexFunc_grows 124 #[] (enters_of Tryz.func124 (by kernel_rfl) rfl) (fun x => !hostN x) s w
    (fun W x _ _ => (host1 x W).mono fun e w' ⟨he, hw⟩ => ⟨he, hw ▸ Below.refl _ _⟩)
theorem all_path_eq (s : ByteArray) : decide (Lib.idxFunc (fun x => !pathN x) true s < 0) = s.data.toList.all (fun c => pathN c.toNat) := by
  rw [idx_all _ (fun x h => by rw [pathN_ge x h]; rfl)]; simp
theorem all_host_eq (s : ByteArray) : decide (Lib.idxFunc (fun x => !hostN x) true s < 0) = s.data.toList.all (fun c => hostN c.toNat) := by
  rw [idx_all _ (fun x h => by rw [hostN_ge x h]; rfl)]; simp
theorem c_hasSlash (s : ByteArray) (w : World) : Calls Tryz.prog 50 #[.string s, .string ⟨#[47]⟩] w fun e w' => e = .returned (.bool ([47].isPrefixOf s.data.toList)) ∧ w' = w := Tryz.strings_HasPrefix s ⟨#[47]⟩ w
set_option maxHeartbeats 1000000 in
theorem asking_path (s : ByteArray) (w : World) :
    Calls Tryz.prog 70 #[.string s] w fun e w' => e = .returned (.bool (pathB s.data.toList)) ∧ Below w.heap.size w w' := by
  have HP := Lib.hid (fun w => c_hasSlash s w)
  have HB : Hid (pathB s.data.toList = ([47].isPrefixOf s.data.toList && decide (s.size ≤ 64) && s.data.toList.all (fun c => pathN c.toNat))) := Lib.hid (by unfold pathB; rw [size_len])
  have HI := Lib.hid (fun w => idx_path s w)
  have HA := Lib.hid (all_path_eq s)
  generalize s.data.toList.all (fun c => pathN c.toNat) = A at HA HB
  generalize Lib.idxFunc (fun x => !pathN x) true s = i at HA HI
  cases hp : [47].isPrefixOf s.data.toList with
  | false =>
    rw [hp] at HP HB
    clear hp
    go_enter Tryz.func70, Tryz.ntmps70
    go_wp2_with fail
    refine (HP.out _).mono ?_
    rintro e w' ⟨rfl, rfl⟩
    go_wp2_with fail
    go_ret
    exact ⟨by rw [HB.out]; rfl, Below.refl _ _⟩
  | true =>
    rw [hp] at HP HB
    clear hp
    by_cases hl : s.size ≤ 64
    · rw [decide_eq_true hl] at HB
      have tl : decide ((s.size : Int) ≤ 64) = true := decide_eq_true (by omega)
      go_enter Tryz.func70, Tryz.ntmps70
      go_wp2_with fail
      refine (HP.out _).mono ?_
      rintro e w' ⟨rfl, rfl⟩
      go_wp2_with fail
      refine (HI.out _).mono ?_
      rintro e w1 ⟨rfl, hb1⟩
      go_wp2_with fail
      go_ret
      exact ⟨by rw [HB.out, ← HA.out]; rfl, hb1⟩
    · rw [decide_eq_false hl] at HB
      have tl : decide ((s.size : Int) ≤ 64) = false := decide_eq_false (by omega)
      go_enter Tryz.func70, Tryz.ntmps70
      go_wp2_with fail
      refine (HP.out _).mono ?_
      rintro e w' ⟨rfl, rfl⟩
      go_wp2_with fail
      go_ret
      exact ⟨by rw [HB.out]; rfl, Below.refl _ _⟩
set_option maxHeartbeats 1000000 in
theorem asking_host (s : ByteArray) (w : World) :
    Calls Tryz.prog 71 #[.string s] w fun e w' => e = .returned (.bool (hostB s.data.toList)) ∧ Below w.heap.size w w' := by
  have HB : Hid (hostB s.data.toList = (!s.toList.isEmpty && decide (s.size ≤ 32) && s.data.toList.all (fun c => hostN c.toNat))) := Lib.hid (by unfold hostB; rw [size_len, ByteArray.toList_eq])
  have HI := Lib.hid (fun w => idx_host s w)
  have HA := Lib.hid (all_host_eq s)
  generalize s.data.toList.all (fun c => hostN c.toNat) = A at HA HB
  generalize Lib.idxFunc (fun x => !hostN x) true s = i at HA HI
  cases hp : s.toList.isEmpty with
  | true =>
    rw [hp] at HB
    go_enter Tryz.func71, Tryz.ntmps71
    go_wp2_with fail
    go_ret
    exact ⟨by rw [HB.out]; rfl, Below.refl _ _⟩
  | false =>
    rw [hp] at HB
    by_cases hl : s.size ≤ 32
    · rw [decide_eq_true hl] at HB
      have tl : decide ((s.size : Int) ≤ 32) = true := decide_eq_true (by omega)
      go_enter Tryz.func71, Tryz.ntmps71
      go_wp2_with fail
      refine (HI.out _).mono ?_
      rintro e w1 ⟨rfl, hb1⟩
      go_wp2_with fail
      go_ret
      exact ⟨by rw [HB.out, ← HA.out]; rfl, hb1⟩
    · rw [decide_eq_false hl] at HB
      have tl : decide ((s.size : Int) ≤ 32) = false := decide_eq_false (by omega)
      go_enter Tryz.func71, Tryz.ntmps71
      go_wp2_with fail
      go_ret
      exact ⟨by rw [HB.out]; rfl, Below.refl _ _⟩
end Go.Proofs.YtgaojfebmcmpaaaGreatDoor
