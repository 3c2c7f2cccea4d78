/- What Get and Text of a pool return. -/
import Derived.Test.YtjeeedbbdgjgeaaPoolAdd
import Derived.Test.YtjeeedbbdgjgeaaShelf
import Derived.Laws.StructEq
import Derived.Laws.BytesArg
namespace Go.Proofs.Ytjeeedbbdgjgeaa
open Go.RowKit Go.Maps PoolPlain
theorem eq_content (a b c d : Nat) (w : World) : (binOp .eql 39 (.agg #[.int .u64 (a : Int), .int .u32 (b : Int)]) (.agg #[.int .u64 (c : Int), .int .u32 (d : Int)])).run Try.prog w = .ok (.bool (decide (c = a ∧ d = b))) w := by
  have u1 := Try.underlying22
  have u2 := Try.underlying33
  have hS : Try.prog.underlying 39 = some (.struct (Try.prog.fieldsOf 39)) := by kernel_rfl
  have hp : Try.prog.stoodInHeld 39 = false := by kernel_rfl
  rw [run_eql_struct, show (10000 : Nat) = 9998 + 2 from rfl, run_equalIn_agg w (9998 + 1) 39 _ _ hS hp]
  simp only [Program.fieldsOf, Try.underlying39]
  go_simp




  by_cases h1 : c = a <;> by_cases h2 : d = b <;> simp [h1, h2] <;> omega
/-- slices.Index at places: the first one, or none -/
def idxOf (l : List (List UInt8)) (o n : Nat) : Int := match getK l o n with | some k => (k : Int) | none => -1
theorem idxOf_hit (l : List (List UInt8)) (o n k : Nat) (hk : k < l.length) (h : off l k = o ∧ l[k].length = n) (hf : ∀ j (hj : j < k), ¬ (off l j = o ∧ (l[j]'(Nat.lt_trans hj hk)).length = n)) : idxOf l o n = (k : Int) := by
  unfold idxOf; rw [getK_first l o n k hk h hf]
theorem idxOf_none (l : List (List UInt8)) (o n : Nat) (h : ∀ j (hj : j < l.length), ¬ (off l j = o ∧ l[j].length = n)) : idxOf l o n = -1 := by
  unfold idxOf
  cases e : getK l o n with
  | none => rfl
  | some k => obtain ⟨hk, h2⟩ := getK_some l o n k e; exact absurd h2 (h k hk)
/-- the slice v holds the places of l -/
def HoldsP (w : World) (v : Value) (l : List (List UInt8)) : Prop := ∃ a c, v = .slice a l.length c ∧ l.length ≤ c ∧ (0 < l.length → ∃ g, a = some ⟨g, 0, none⟩ ∧ g < w.heap.size ∧ ∀ k (hk : k < l.length), w.cell? ⟨g, k * 2, none⟩ = some (.int .u64 (off l k : Nat)) ∧ w.cell? ⟨g, k * 2 + 1, none⟩ = some (.int .u32 (l[k].length : Nat)))
theorem HoldsP.of_own {w : World} {base : Nat} {pv : Value} {l : List (List UInt8)} (h : w.ownsRow base 39 2 pv l.length (pcells l)) : HoldsP w pv l := by
  rcases Nat.eq_zero_or_pos l.length with h0 | h0
  · rcases h.2 with ⟨rfl, -⟩ | ⟨g, cap, cur, rfl, hb, hg, hle, hm, hs, ht⟩
    · exact ⟨none, 0, by rw [h0], by omega, fun h => by omega⟩
    · exact ⟨_, cap, rfl, hle, fun h => by omega⟩
  · obtain ⟨g, cap, rfl, -, h1, h2, h3⟩ := place_row h h0
    exact ⟨_, cap, rfl, h2, fun _ => ⟨g, rfl, h1, h3⟩⟩
theorem HoldsP.below {w w' : World} {v : Value} {l : List (List UInt8)} (h : HoldsP w v l) (hb : Below w.heap.size w w') : HoldsP w' v l := by
  obtain ⟨a, c, h1, h2, h3⟩ := h
  refine ⟨a, c, h1, h2, fun h0 => ?_⟩
  obtain ⟨g, e1, e2, e3⟩ := h3 h0
  exact ⟨g, e1, Nat.lt_of_lt_of_le e2 hb.size, fun k hk => ⟨(hb.cell (p := ⟨g, k * 2, none⟩) e2).trans (e3 k hk).1, (hb.cell (p := ⟨g, k * 2 + 1, none⟩) e2).trans (e3 k hk).2⟩⟩
set_option maxRecDepth 100000 in
set_option maxHeartbeats 2000000 in
theorem slices_index (v : Value) (l : List (List UInt8)) (o n : Nat) (w : World) (hl : l.length ≤ 2048) (hv : HoldsP w v l) :
    Calls Try.prog 49 #[v, .agg #[.int .u64 (o : Nat), .int .u32 (n : Nat)]] w fun e w' => e = .returned (.int .i64 (idxOf l o n)) ∧ Below w.heap.size w w' := by
  obtain ⟨a, c, rfl, hc, hx⟩ := hv
  have HX := Lib.hid hx
  have HI := Lib.hid (idxOf_hit l o n)
  have HN := Lib.hid (idxOf_none l o n)
  clear hx
  obtain ⟨b0, b1⟩ := box2c w (.int .u64 (o : Nat)) (.int .u32 (n : Nat)) 39
  have B1 : Below w.heap.size w (w.alloc (.cells #[.int .u64 (o : Nat), .int .u32 (n : Nat)] 39)) := (Below.refl _ _).alloc (Nat.le_refl _) _
  have hz : w.heap.size < (w.alloc (.cells #[.int .u64 (o : Nat), .int .u32 (n : Nat)] 39)).heap.size := by rw [World.size_alloc]; omega
  go_enter Try.func49, Try.ntmps49
  go_wp2_with fail
  generalize w.alloc (.cells #[.int .u64 (o : Nat), .int .u32 (n : Nat)] 39) = W0 at B1 hz b0 b1 ⊢
  go_loopw [8] (fun i wr => ∃ k : Nat, k ≤ l.length ∧ i = .int .i64 k ∧ Below W0.heap.size W0 wr ∧ Hid (∀ j (hj : j < l.length), j < k → ¬ (off l j = o ∧ l[j].length = n))) (fun i _ => l.length - (intOf i).toNat)
  case atStart => exact ⟨0, by omega, rfl, Below.refl _ _, Lib.hid (fun j hj h => absurd h (Nat.not_lt_zero _))⟩
  case round =>
    obtain ⟨k, hk, rfl, hbr, HK⟩ := hrel
    by_cases hlt : k < l.length
    · obtain ⟨g, rfl, hgl, hcell⟩ := HX.out (by omega)
      have hcc := hcell k hlt
      have k0 : ∀ q : BelowOf wr, q.world.cell? ⟨w.heap.size, 0, none⟩ = some (.int .u64 (o : Nat)) := fun q => cell_of q (Nat.lt_of_lt_of_le hz hbr.size) ((hbr.cell (p := ⟨w.heap.size, 0, none⟩) hz).trans b0)
      have k1 : ∀ q : BelowOf wr, q.world.cell? ⟨w.heap.size, 1, none⟩ = some (.int .u32 (n : Nat)) := fun q => cell_of q (Nat.lt_of_lt_of_le hz hbr.size) ((hbr.cell (p := ⟨w.heap.size, 1, none⟩) hz).trans b1)
      have hgr : g < wr.heap.size := Nat.lt_of_lt_of_le hgl (Nat.le_trans B1.size hbr.size)
      have d0 : ∀ q : BelowOf wr, q.world.cell? ⟨g, k * 2, none⟩ = some (.int .u64 (off l k : Nat)) := fun q => cell_of q hgr ((hbr.cell (p := ⟨g, k * 2, none⟩) (Nat.lt_of_lt_of_le hgl B1.size)).trans ((B1.cell (p := ⟨g, k * 2, none⟩) hgl).trans hcc.1))
      have d1 : ∀ q : BelowOf wr, q.world.cell? ⟨g, k * 2 + 1, none⟩ = some (.int .u32 (l[k].length : Nat)) := fun q => cell_of q hgr ((hbr.cell (p := ⟨g, k * 2 + 1, none⟩) (Nat.lt_of_lt_of_le hgl B1.size)).trans ((B1.cell (p := ⟨g, k * 2 + 1, none⟩) hgl).trans hcc.2))
      have g0 : (0 : Int) ≤ (k : Int) := by omega
      have g1 : (k : Int) < (l.length : Int) := by omega
      have HB := Lib.hid hbr
      have hI := Lib.hid (fun h => HI.out k hlt h (fun j hj => HK.out j (by omega) hj))
      have hS : Hid (¬ (off l k = o ∧ l[k].length = n) → ∀ j (hj : j < l.length), j < k + 1 → ¬ (off l j = o ∧ l[j].length = n)) := Lib.hid (fun hn j hj h => by
        by_cases e : j = k
        · subst e; exact hn
        · exact HK.out j hj (by omega))
      clear hcell hcc hbr HK HX HI HN
      obtain ⟨x, hx⟩ : ∃ x, x = off l k := ⟨_, rfl⟩
      obtain ⟨y, hy⟩ : ∃ y, y = l[k].length := ⟨_, rfl⟩
      rw [← hx] at d0 hI hS
      rw [← hy] at d1 hI hS
      clear hx hy
      have heq := eq_content o n x y
      by_cases he : x = o ∧ y = n
      · rw [decide_eq_true he] at heq
        have HE := Lib.hid (hI.out he)
        clear he hI hS
        go_wp2_with fail
        refine wp_region_quiet_below (by kernel_rfl) (by kernel_rfl) ?_
        repeat (go_big_quiet_step (fail))
        refine wpQuiet_nil ?_
        intro W1 hw'
        have hb1 := of_class hw'
        clear hw' k0 k1 d0 d1
        go_wp2_with fail
        go_ret
        exact ⟨ret_int HE.out.symm, B1.trans ((bstep HB.out hb1).mono B1.size)⟩
      · rw [decide_eq_false he] at heq
        have HE := Lib.hid (hS.out he)
        clear he hI hS
        go_wp2_with fail
        refine wp_region_quiet_below (by kernel_rfl) (by kernel_rfl) ?_
        repeat (go_big_quiet_step (fail))
        refine wpQuiet_nil ?_
        intro W1 hw'
        have hb1 := of_class hw'
        clear hw' k0 k1 d0 d1
        go_wp2_with fail
        go_roundw
        case rel => exact ⟨k + 1, by omega, by go_num, bstep HB.out hb1, HE⟩
        case measure => simp [intOf]; omega
    · obtain rfl : k = l.length := by omega
      have HF := Lib.hid (HN.out (fun j hj => HK.out j hj hj))
      clear HK HN HI HX
      go_wp2_with fail
      go_ret
      exact ⟨ret_int HF.out.symm, B1.trans (hbr.mono B1.size)⟩
end Go.Proofs.Ytjeeedbbdgjgeaa
