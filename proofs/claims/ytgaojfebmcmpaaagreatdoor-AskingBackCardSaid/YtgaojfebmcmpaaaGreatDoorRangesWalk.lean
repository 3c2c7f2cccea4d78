/- What Check and text of package ranges, and Check of its reference return. -/
import Derived.Test.YtgaojfebmcmpaaaGreatDoorRangesPlain
import Derived.Test.YtgaojfebmcmpaaaGreatDoorQuietBelow
import Derived.Test.YtgaojfebmcmpaaaGreatDoorFieldsParse
import Derived.Test.YtgaojfebmcmpaaaGreatDoorFieldsOwn
namespace Go.Proofs.YtgaojfebmcmpaaaGreatDoor
open Go.RowKit

set_option maxRecDepth 100000 in
theorem ranges_check (a b : Int) (w : World) :
    Calls Tryz.prog 72 #[.agg #[.int .i64 a, .int .i64 b]] w fun e w' => e = .returned (.int .i64 (rErr a b : Nat)) ∧ Below w.heap.size w w' := by
  by_cases h1 : a < 0
  · have H : Hid (rErr a b = 8) := Lib.hid (if_pos (.inl h1))
    have t1 : decide (a < 0) = true := decide_eq_true h1
    go_enter Tryz.func72, Tryz.ntmps72
    go_wp2_with fail
    go_ret
    exact ⟨by rw [H.out]; rfl, (Below.refl _ _).alloc (Nat.le_refl _) _⟩
  have t1 : decide (a < 0) = false := decide_eq_false h1
  by_cases h2 : b < a
  · have H : Hid (rErr a b = 8) := Lib.hid (if_pos (.inr (.inl h2)))
    have t2 : decide (a > b) = true := decide_eq_true h2
    go_enter Tryz.func72, Tryz.ntmps72
    go_wp2_with fail
    go_ret
    exact ⟨by rw [H.out]; rfl, (Below.refl _ _).alloc (Nat.le_refl _) _⟩
  have t2 : decide (a > b) = false := decide_eq_false h2
  by_cases h3 : 9007199254740990 < b
  · have H : Hid (rErr a b = 8) := Lib.hid (if_pos (.inr (.inr h3)))
    have t3 : decide (b > 9007199254740990) = true := decide_eq_true h3
    go_enter Tryz.func72, Tryz.ntmps72
    go_wp2_with fail
    go_ret
    exact ⟨by rw [H.out]; rfl, (Below.refl _ _).alloc (Nat.le_refl _) _⟩
  · have H : Hid (rErr a b = 0) := Lib.hid (if_neg (fun h => h.elim h1 (fun h => h.elim h2 h3)))
    have t3 : decide (b > 9007199254740990) = false := decide_eq_false h3
    go_enter Tryz.func72, Tryz.ntmps72
    go_wp2_with fail
    go_ret
    exact ⟨by rw [H.out]; rfl, (Below.refl _ _).alloc (Nat.le_refl _) _⟩
set_option maxRecDepth 100000 in
theorem ref_rcheck (a b : Int) (w : World) :
    Calls Tryz.prog 74 #[.agg #[.int .i64 a, .int .i64 b]] w fun e w' => e = .returned (.int .i64 (rErr a b : Nat)) ∧ Below w.heap.size w w' := by
  by_cases h1 : a < 0
  · have H : Hid (rErr a b = 8) := Lib.hid (if_pos (.inl h1))
    have t1 : decide (a < 0) = true := decide_eq_true h1
    go_enter Tryz.func74, Tryz.ntmps74
    go_wp2_with fail
    go_ret
    exact ⟨by rw [H.out]; rfl, (Below.refl _ _).alloc (Nat.le_refl _) _⟩
  have t1 : decide (a < 0) = false := decide_eq_false h1
  by_cases h2 : b < a
  · have H : Hid (rErr a b = 8) := Lib.hid (if_pos (.inr (.inl h2)))
    have t2 : decide (a > b) = true := decide_eq_true h2
    go_enter Tryz.func74, Tryz.ntmps74
    go_wp2_with fail
    go_ret
    exact ⟨by rw [H.out]; rfl, (Below.refl _ _).alloc (Nat.le_refl _) _⟩
  have t2 : decide (a > b) = false := decide_eq_false h2
  by_cases h3 : 9007199254740990 < b
  · have H : Hid (rErr a b = 8) := Lib.hid (if_pos (.inr (.inr h3)))
    have t3 : decide (b > 9007199254740990) = true := decide_eq_true h3
    go_enter Tryz.func74, Tryz.ntmps74
    go_wp2_with fail
    go_ret
    exact ⟨by rw [H.out]; rfl, (Below.refl _ _).alloc (Nat.le_refl _) _⟩
  · have H : Hid (rErr a b = 0) := Lib.hid (if_neg (fun h => h.elim h1 (fun h => h.elim h2 h3)))
    have t3 : decide (b > 9007199254740990) = false := decide_eq_false h3
    go_enter Tryz.func74, Tryz.ntmps74
    go_wp2_with fail
    go_ret
    exact ⟨by rw [H.out]; rfl, (Below.refl _ _).alloc (Nat.le_refl _) _⟩
theorem box2 (w : World) (x y : Value) (t : TypeId) : (w.alloc (.cells #[x, y] t)).cell? ⟨w.heap.size, 0, none⟩ = some x ∧ (w.alloc (.cells #[x, y] t)).cell? ⟨w.heap.size, 1, none⟩ = some y := by
  have hh := heap_alloc_new w (.cells #[x, y] t)
  constructor <;> (unfold World.cell?; rw [hh]; rfl)
theorem digL_len (n : Int) (h1 : n ≤ 9223372036854775807) : (digL n).length ≤ 20 := by
  unfold digL; split
  · exact Nat.zero_le _
  · exact decDigits_len _ (by omega)
set_option maxRecDepth 100000 in
set_option maxHeartbeats 1000000 in
theorem ranges_text (a b : Int) (w : World) (hE : EnvF w) (ha0 : -9223372036854775808 ≤ a) (ha : a ≤ 9223372036854775807) (hb0 : -9223372036854775808 ≤ b) (hb : b ≤ 9223372036854775807) :
    Calls Tryz.prog 111 #[.agg #[.int .i64 a, .int .i64 b]] w fun e w' => e = .returned (.string (bs (textR a b))) ∧ Below w.heap.size w w' := by
  have HA := Lib.hid (fun w hE => fields_digits a ha0 ha w hE)
  have HB := Lib.hid (fun w hE => fields_digits b hb0 hb w hE)
  obtain ⟨X, hX⟩ : ∃ X, bs (digL a) = X := ⟨_, rfl⟩
  obtain ⟨Y, hY⟩ : ∃ Y, bs (digL b) = Y := ⟨_, rfl⟩
  have hXs : X.size ≤ 20 := by rw [← hX, bs_size]; exact digL_len a ha
  have hYs : Y.size ≤ 20 := by rw [← hY, bs_size]; exact digL_len b hb
  have HR : Hid ((X ++ ⟨#[45]⟩) ++ Y = bs (textR a b)) := Lib.hid (by
    rw [← hX, ← hY, show (⟨#[45]⟩ : ByteArray) = bs [45] from rfl, bs_cat, bs_cat]
    unfold textR; simp)
  rw [hX] at HA
  rw [hY] at HB
  have padd1 := fun w => run_string_add_sum (P := Tryz.prog) w X ⟨#[45]⟩ (by show _ + 1 ≤ _; omega)
  have padd2 := fun w => run_string_add_sum (P := Tryz.prog) w (X ++ ⟨#[45]⟩) Y (by rw [ByteArray.size_append]; show _ + 1 + _ ≤ _; omega)
  have box := box2 w (.int .i64 a) (.int .i64 b) 30
  have hb0' : Below w.heap.size w (w.alloc (.cells #[.int .i64 a, .int .i64 b] 30)) := (Below.refl _ _).alloc (Nat.le_refl _) _
  have hbl : w.heap.size < (w.alloc (.cells #[.int .i64 a, .int .i64 b] 30)).heap.size := by simp
  have HE := Lib.hid (hE.below hb0')
  clear hE hX hY
  go_enter Tryz.func111, Tryz.ntmps111
  go_wp2_with fail
  generalize hW0 : w.alloc (.cells #[.int .i64 a, .int .i64 b] 30) = W0 at box hb0' hbl HE ⊢
  clear hW0
  have k0 : ∀ p : BelowOf W0, p.world.cell? ⟨w.heap.size, 0, none⟩ = some (.int .i64 a) := fun p => cell_of p hbl box.1
  have k1 : ∀ p : BelowOf W0, p.world.cell? ⟨w.heap.size, 1, none⟩ = some (.int .i64 b) := fun p => cell_of p hbl box.2
  have hb0 := Lib.hid hb0'
  clear box hb0'
  refine wp_region_quiet_below (by kernel_rfl) (by kernel_rfl) ?_
  repeat (go_big_quiet_step ((first
    | (go_at_call 79; exact below_of (HA.out _ (HE.out.below (BelowOf.below _))))
    | (go_at_call 79; exact below_of (HB.out _ (HE.out.below (BelowOf.below _))))
    | fail)))
  refine wpQuiet_nil ?_
  intro W1 hw'
  have hb1 := of_class hw'
  clear hw'
  go_wp2_with fail
  go_ret
  exact ⟨by rw [← HR.out]; rfl, bstep hb0.out hb1⟩
end Go.Proofs.YtgaojfebmcmpaaaGreatDoor
