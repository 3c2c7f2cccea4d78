/- What Get and Text of a pool return. -/
import Derived.Test.YtjeeedbbdgjgeaaPoolGet
namespace Go.Proofs.Ytjeeedbbdgjgeaa
open Go.RowKit Go.Maps PoolPlain
def isIn (l : List (List UInt8)) (o n : Nat) : Bool := (getK l o n).isSome
theorem idxOf_ge (l : List (List UInt8)) (o n : Nat) : decide (0 ≤ idxOf l o n) = isIn l o n := by
  unfold idxOf isIn
  cases getK l o n with
  | none => rfl
  | some k => simp
theorem slices_contains (v : Value) (l : List (List UInt8)) (o n : Nat) (w : World) (hl : l.length ≤ 2048) (hv : HoldsP w v l) :
    Calls Try.prog 36 #[v, .agg #[.int .u64 (o : Nat), .int .u32 (n : Nat)]] w fun e w' => e = .returned (.bool (isIn l o n)) ∧ Below w.heap.size w w' := by
  have B1 : Below w.heap.size w (w.alloc (.cells #[.int .u64 (o : Nat), .int .u32 (n : Nat)] 39)) := (Below.refl _ _).alloc (Nat.le_refl _) _
  have HI := Lib.hid (slices_index v l o n _ hl (hv.below B1))
  have hge := idxOf_ge l o n
  generalize isIn l o n = B at hge ⊢
  obtain ⟨a, c, rfl, -, -⟩ := hv
  go_enter Try.func36, Try.ntmps36
  go_wp2_with fail
  refine HI.out.mono ?_
  rintro e w1 ⟨rfl, hb1⟩
  generalize idxOf l o n = I at hge ⊢
  go_wp2_with fail
  go_ret
  exact ⟨rfl, bstep B1 hb1⟩
/-- what Get returns -/
def GetR (l : List (List UInt8)) (o n : Nat) (w : World) (e : Ending) (w' : World) : Prop := e = .returned (.tuple #[.string (bs (getS l o n)), .bool (isIn l o n)]) ∧ Below w.heap.size w w'
theorem get_nil (o n : Nat) (w : World) : Calls Try.prog 27 #[.pointer none, .agg #[.int .u64 (o : Nat), .int .u32 (n : Nat)]] w fun e w' => e = .returned (.tuple #[.string ⟨#[]⟩, .bool false]) ∧ Below w.heap.size w w' := by
  have B1 : Below w.heap.size w (w.alloc (.cells #[.int .u64 (o : Nat), .int .u32 (n : Nat)] 39)) := (Below.refl _ _).alloc (Nat.le_refl _) _
  go_enter Try.func27, Try.ntmps27
  go_wp2_with fail
  generalize w.alloc (.cells #[.int .u64 (o : Nat), .int .u32 (n : Nat)] 39) = W0 at B1 ⊢
  refine wp_region_quiet_below (by kernel_rfl) (by kernel_rfl) ?_
  repeat (go_big_quiet_step (fail))
  refine wpQuiet_nil ?_
  intro W1 hw'
  have hb1 := of_class hw'
  clear hw'
  go_wp2_with fail
  go_ret2
  exact ⟨rfl, bstep B1 hb1⟩
set_option maxRecDepth 100000 in
set_option maxHeartbeats 1000000 in
theorem pool_get (p : Nat) (l : List (List UInt8)) (S : Nat → Prop) (o n : Nat) (w : World) (hP : PoolAt w p l S) :
    Calls Try.prog 27 #[.pointer (some ⟨p, 0, none⟩), .agg #[.int .u64 (o : Nat), .int .u32 (n : Nat)]] w (GetR l o n w) := by
  have B1 : Below w.heap.size w (w.alloc (.cells #[.int .u64 (o : Nat), .int .u32 (n : Nat)] 39)) := (Below.refl _ _).alloc (Nat.le_refl _) _
  obtain ⟨b0, b1⟩ := box2c w (.int .u64 (o : Nat)) (.int .u32 (n : Nat)) 39
  have hz : w.heap.size < (w.alloc (.cells #[.int .u64 (o : Nat), .int .u32 (n : Nat)] 39)).heap.size := by rw [World.size_alloc]; omega
  have hpl := hP.lt
  have HP0 := Lib.hid (hP.below B1)
  have hl := hP.1.1
  clear hP
  go_enter Try.func27, Try.ntmps27
  go_wp2_with fail
  generalize w.alloc (.cells #[.int .u64 (o : Nat), .int .u32 (n : Nat)] 39) = W0 at B1 hz b0 b1 HP0 ⊢
  have hpl0 := HP0.out.lt
  obtain ⟨-, -, -, tv, pv, mv, hb, -, -, hpr, -, -⟩ := HP0.out
  obtain ⟨-, c1, -, -, -, -⟩ := cells3 hb
  have HH := Lib.hid (HoldsP.of_own hpr)
  have k0 : ∀ q : BelowOf W0, q.world.cell? ⟨w.heap.size, 0, none⟩ = some (.int .u64 (o : Nat)) := fun q => cell_of q hz b0
  have k1 : ∀ q : BelowOf W0, q.world.cell? ⟨w.heap.size, 1, none⟩ = some (.int .u32 (n : Nat)) := fun q => cell_of q hz b1
  have k2 : ∀ q : BelowOf W0, q.world.cell? ⟨p, 1, none⟩ = some pv := fun q => cell_of q hpl0 c1
  have B1 := Lib.hid B1
  have Hz := Lib.hid hz
  have Hb0 := Lib.hid b0
  have Hb1 := Lib.hid b1
  clear hb hpr c1 b0 b1 hz
  have HC := Lib.hid (fun W (h : HoldsP W pv l) => slices_contains pv l o n W hl h)
  cases hi : isIn l o n with
  | false =>
    have HF : Hid (getS l o n = []) := Lib.hid (getS_none l o n (by unfold isIn at hi; simpa using hi))
    have HI := Lib.hid hi
    rw [hi] at HC
    clear hi
    refine wp_region_quiet_below (by kernel_rfl) (by kernel_rfl) ?_
    repeat (go_big_quiet_step ((go_at_call 36; exact below_of (HC.out _ (HH.out.below (by rename_i q; exact q.below))))))
    refine wpQuiet_nil ?_
    intro W1 hw'
    have hb1 := of_class hw'
    clear hw' k0 k1 k2
    go_wp2_with fail
    go_ret2
    exact ⟨by rw [HF.out, HI.out]; rfl, bstep B1.out hb1⟩
  | true =>
    obtain ⟨k, hk, e1, e2, e3⟩ : ∃ k, ∃ hk : k < l.length, off l k = o ∧ l[k].length = n ∧ getS l o n = l[k] := by
      unfold isIn at hi
      obtain ⟨k, hk⟩ := Option.isSome_iff_exists.1 hi
      obtain ⟨h1, h2, h3⟩ := getK_some l o n k hk
      exact ⟨k, h1, h2, h3, getS_some l o n k hk h1⟩
    have HF := Lib.hid e3
    have HI := Lib.hid hi
    have HAt := Lib.hid (fun W (h : PoolAt W p l S) => pool_at p l S W h k hk)
    rw [e1, e2] at HAt
    rw [hi] at HC
    clear hi e1 e2 e3
    refine wp_region_quiet_below (by kernel_rfl) (by kernel_rfl) ?_
    repeat (go_big_quiet_step ((go_at_call 36; exact below_of (HC.out _ (HH.out.below (by rename_i q; exact q.below))))))
    refine wpQuiet_nil ?_
    intro W1 hw'
    have hb1 := of_class hw'
    have x0 := (hb1.cell (p := ⟨w.heap.size, 0, none⟩) Hz.out).trans Hb0.out
    have x1 := (hb1.cell (p := ⟨w.heap.size, 1, none⟩) Hz.out).trans Hb1.out
    clear hw' k0 k1 k2
    go_wp2_with fail
    refine (HAt.out _ (HP0.out.below hb1)).mono ?_
    rintro e w1 ⟨rfl, hb2⟩
    obtain ⟨X, hX⟩ : ∃ X, X = bs l[k] := ⟨_, rfl⟩
    rw [← hX]
    have HX := Lib.hid hX
    clear hX
    go_wp2_with fail
    go_ret2
    exact ⟨by rw [HF.out, HI.out, ← HX.out]; rfl, bstep B1.out (bstep hb1 hb2)⟩
theorem strings_clone (s : ByteArray) (w : World) (hlim : s.size ≤ 281474976710656) : Calls Try.prog 37 #[.string s] w fun e w' => e = .returned (.string s) ∧ Below w.heap.size w w' := by
  go_enter Try.func37, Try.ntmps37
  go_wp2_with fail
  refine (Try.stringslite_Clone s w hlim).mono ?_
  rintro e w1 ⟨rfl, hb1⟩
  go_wp2_with fail
  go_ret
  exact ⟨rfl, hb1⟩
theorem text_nil (w : World) : Calls Try.prog 29 #[.pointer none] w fun e w' => e = .returned (.string ⟨#[]⟩) ∧ Below w.heap.size w w' := by
  go_enter Try.func29, Try.ntmps29
  go_wp2_with fail
  go_ret
  exact ⟨rfl, Below.refl _ _⟩
theorem pool_text (p : Nat) (l : List (List UInt8)) (S : Nat → Prop) (w : World) (hP : PoolAt w p l S) :
    Calls Try.prog 29 #[.pointer (some ⟨p, 0, none⟩)] w fun e w' => e = .returned (.string (bs l.flatten)) ∧ Below w.heap.size w w' := by
  have hfl := okL_flat l hP.1
  obtain ⟨-, -, -, tv, pv, mv, hb, ht, -, -, -, -⟩ := hP
  obtain ⟨c0, -, -, -, -, -⟩ := cells3 hb
  generalize l.flatten = t at *
  have hcv : (convert 29 9 tv).run Try.prog w = .ok (.string (bs t)) w := by
    rcases Nat.eq_zero_or_pos t.length with h0 | h0
    · have : t = [] := List.length_eq_zero_iff.1 h0
      subst this
      rcases ht.2 with ⟨rfl, -⟩ | ⟨g, cap, cur, rfl, -⟩
      · exact run_convert_bytes_nil w 29 5 Try.underlying29 Try.underlying5 0 0 9 Try.underlying9
      · exact run_convert_bytes_back w 29 9 5 ⟨g, 0, none⟩ cap [] Try.underlying29 Try.underlying5 Try.underlying9 (fun j hj => absurd hj (Nat.not_lt_zero _))
    · obtain ⟨g, cap, rfl, -, -, -, -, hc⟩ := text_row ht h0
      exact run_convert_bytes_back w 29 9 5 ⟨g, 0, none⟩ cap t Try.underlying29 Try.underlying5 Try.underlying9 (fun j hj => by rw [at_plain, Nat.zero_add]; exact hc j hj)
  have HC := Lib.hid (strings_clone (bs t) w (by rw [bs_size]; omega))
  clear hb ht
  go_enter Try.func29, Try.ntmps29
  go_wp2_with fail
  refine HC.out.mono ?_
  rintro e w1 ⟨rfl, hb1⟩
  go_wp2_with fail
  go_ret
  exact ⟨rfl, hb1⟩
end Go.Proofs.Ytjeeedbbdgjgeaa
