/- What Get and Add of the reference of layer 11 return. -/
import Derived.Test.YtjeeedbbdgjgeaaPoolRef
import Derived.Laws.AppendOwnNone
namespace Go.Proofs.Ytjeeedbbdgjgeaa
open Go.RowKit PoolPlain
theorem eq_rcontent (a b c d : Nat) (w : World) : (binOp .eql 35 (.agg #[.int .u64 (a : Int), .int .u32 (b : Int)]) (.agg #[.int .u64 (c : Int), .int .u32 (d : Int)])).run Try.prog w = .ok (.bool (decide (a = c ∧ b = d))) w := by
  have u1 := Try.underlying22
  have u2 := Try.underlying33
  have hS : Try.prog.underlying 35 = some (.struct (Try.prog.fieldsOf 35)) := by kernel_rfl
  have hp : Try.prog.stoodInHeld 35 = false := by kernel_rfl
  rw [run_eql_struct, show (10000 : Nat) = 9998 + 2 from rfl, run_equalIn_agg w (9998 + 1) 35 _ _ hS hp]
  simp only [Program.fieldsOf, Try.underlying35]
  go_simp
  by_cases h1 : a = c <;> by_cases h2 : b = d <;> simp [h1, h2] <;> omega
set_option maxRecDepth 100000 in
set_option maxHeartbeats 2000000 in
theorem ref_get (v : Value) (l : List (List UInt8)) (o n : Nat) (w : World) (hv : HoldsS w v l) (hok : OkL l) :
    Calls Try.prog 28 #[v, .agg #[.int .u64 (o : Nat), .int .u32 (n : Nat)]] w (GetR l o n w) := by
  have hl : l.length ≤ 2048 := hok.1
  have hfl := okL_flat l hok
  obtain ⟨b0, b1⟩ := box2c w (.int .u64 (o : Nat)) (.int .u32 (n : Nat)) 35
  have B0 : Below w.heap.size w (w.alloc (.cells #[.int .u64 (o : Nat), .int .u32 (n : Nat)] 35)) := (Below.refl _ _).alloc (Nat.le_refl _) _
  have hz : w.heap.size < (w.alloc (.cells #[.int .u64 (o : Nat), .int .u32 (n : Nat)] 35)).heap.size := by rw [World.size_alloc]; omega
  have HF := Lib.hid (fun W (s : ByteArray) (h : HoldsS W v l) => ref_find v l s W h (by omega) (by omega))
  have HV := Lib.hid hv
  have HO := Lib.hid hok
  obtain ⟨a, c, rfl, hc, hx⟩ := hv
  have HX := Lib.hid hx
  have HN := Lib.hid (fun h => (getS_none l o n h : getS l o n = []))
  clear hx hok
  go_enter Try.func28, Try.ntmps28
  go_wp2_with fail
  generalize w.alloc (.cells #[.int .u64 (o : Nat), .int .u32 (n : Nat)] 35) = W0 at B0 b0 b1 hz ⊢
  have HB := Lib.hid B0
  clear B0
  go_loopw [6] (fun i wr => ∃ k : Nat, k ≤ l.length ∧ i = .int .i64 k ∧ Below W0.heap.size W0 wr ∧ Hid (∀ j (hj : j < l.length), j < k → ¬ (off l j = o ∧ l[j].length = n))) (fun i _ => l.length - (intOf i).toNat)
  case atStart => exact ⟨0, by omega, rfl, Below.refl _ _, Lib.hid (fun j hj h => absurd h (Nat.not_lt_zero _))⟩
  case round =>
    obtain ⟨k, hk, rfl, hbr, HK⟩ := hrel
    by_cases hlt : k < l.length
    · obtain ⟨b, q, rfl, hbl, hcell⟩ := HX.out (fun e => by rw [e] at hlt; exact absurd hlt (Nat.not_lt_zero _))
      have c0 := (hbr.cell (p := ⟨b, q + k, none⟩) (Nat.lt_of_lt_of_le hbl HB.out.size)).trans ((HB.out.cell (p := ⟨b, q + k, none⟩) hbl).trans (hcell k hlt))
      have hbB : b < wr.heap.size := Nat.lt_of_lt_of_le hbl (Nat.le_trans HB.out.size hbr.size)
      have HVr : Hid (HoldsS wr _ l) := Lib.hid ((HV.out.below HB.out).below hbr)
      have hfa := fnd_at l HO.out.2.2 k hlt
      have hbw0 := (hbr.cell (p := ⟨w.heap.size, 0, none⟩) hz).trans b0
      have hbw1 := (hbr.cell (p := ⟨w.heap.size, 1, none⟩) hz).trans b1
      have HBR := Lib.hid hbr
      have hzr := Nat.lt_of_lt_of_le hz hbr.size
      have hS : Hid (¬ (off l k = o ∧ l[k].length = n) → ∀ j (hj : j < l.length), j < k + 1 → ¬ (off l j = o ∧ l[j].length = n)) := Lib.hid (fun hn j hj h => by
        by_cases e : j = k
        · subst e; exact hn
        · exact HK.out j hj (by omega))
      have hG : Hid (off l k = o ∧ l[k].length = n → getS l o n = l[k] ∧ isIn l o n = true) := Lib.hid (fun h => by
        have e := getK_first l o n k hlt h (fun j hj => HK.out j (by omega) hj)
        exact ⟨getS_some l o n k e hlt, by unfold isIn; rw [e]; rfl⟩)
      have HFk := HF.out wr (bs l[k]) HVr.out
      unfold FindR at HFk
      rw [bs_data, hfa] at HFk
      have HFk := Lib.hid HFk
      clear hcell HK HX HN hbr hfa HF HO HV
      obtain ⟨X, hX⟩ : ∃ X, X = bs l[k] := ⟨_, rfl⟩
      rw [← hX] at c0 HFk
      obtain ⟨x, hx⟩ : ∃ x, x = off l k := ⟨_, rfl⟩
      obtain ⟨y, hy⟩ : ∃ y, y = l[k].length := ⟨_, rfl⟩
      rw [← hx, ← hy] at HFk hS hG
      have HXX := Lib.hid hX
      clear hX hx hy
      have heq := eq_rcontent x y o n
      by_cases he : x = o ∧ y = n
      · rw [decide_eq_true he] at heq
        have HG := Lib.hid (hG.out he)
        clear he hG hS
        go_wp2_with fail
        refine HFk.out.mono ?_
        rintro e w1 ⟨rfl, hb1⟩
        have d0 := (hb1.cell (p := ⟨w.heap.size, 0, none⟩) hzr).trans hbw0
        have d1 := (hb1.cell (p := ⟨w.heap.size, 1, none⟩) hzr).trans hbw1
        have d2 := (hb1.cell (p := ⟨b, q + k, none⟩) hbB).trans c0
        have z1 := Nat.lt_of_lt_of_le hzr hb1.size
        have z2 := Nat.lt_of_lt_of_le hbB hb1.size
        have HB1 := Lib.hid (HB.out.trans ((bstep HBR.out hb1).mono HB.out.size))
        clear hb1 hbw0 hbw1 c0
        go_wp2_with fail
        go_ret2
        exact ⟨by rw [HG.out.1, HG.out.2, ← HXX.out]; rfl, HB1.out.alloc (by omega) _⟩
      · rw [decide_eq_false he] at heq
        have HE := Lib.hid (hS.out he)
        clear he hG hS
        go_wp2_with fail
        refine HFk.out.mono ?_
        rintro e w1 ⟨rfl, hb1⟩
        have d0 := (hb1.cell (p := ⟨w.heap.size, 0, none⟩) hzr).trans hbw0
        have d1 := (hb1.cell (p := ⟨w.heap.size, 1, none⟩) hzr).trans hbw1
        have d2 := (hb1.cell (p := ⟨b, q + k, none⟩) hbB).trans c0
        have z1 := Nat.lt_of_lt_of_le hzr hb1.size
        have z2 := Nat.lt_of_lt_of_le hbB hb1.size
        have HB1 := Lib.hid (bstep HBR.out hb1)
        clear hb1 hbw0 hbw1 c0
        go_wp2_with fail
        go_roundw
        case rel => exact ⟨k + 1, by omega, by go_num, bstep HB1.out ((Below.refl _ _).alloc (Nat.le_refl _) _), HE⟩
        case measure => simp [intOf]; omega
    · obtain rfl : k = l.length := by omega
      have hnone : getK l o n = none := by
        cases e : getK l o n with
        | none => rfl
        | some j => obtain ⟨hj, h2⟩ := getK_some l o n j e; exact absurd h2 (HK.out j hj hj)
      have HG : Hid (getS l o n = [] ∧ isIn l o n = false) := Lib.hid ⟨getS_none l o n hnone, by unfold isIn; rw [hnone]; rfl⟩
      clear HK HN HX hnone
      go_wp2_with fail
      go_ret2
      exact ⟨by rw [HG.out.1, HG.out.2]; rfl, HB.out.trans (hbr.mono HB.out.size)⟩
end Go.Proofs.Ytjeeedbbdgjgeaa
