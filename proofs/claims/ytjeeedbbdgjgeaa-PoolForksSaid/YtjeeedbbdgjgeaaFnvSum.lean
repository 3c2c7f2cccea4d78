/- What the sum of a text is, beside texts in memory (FnvWalk's part that a pool wants). -/
import Derived.Test.YtjeeedbbdgjgeaaProg
import Derived.Test.YtjeeedbbdgjgeaaFnvPlain
import Derived.Test.YtjeeedbbdgjgeaaStrs
import Derived.WalkKit
import Derived.Below
import Derived.Deep.RegionHeld3
import Derived.StillTailTactics
import Derived.BigRegion
import Derived.BigQuiet
import Derived.Outline
import Derived.Lib.Hide
namespace Go.Proofs.Ytjeeedbbdgjgeaa
open Go.RowKit


theorem xor64 (s b : Nat) (h0 : s < 18446744073709551616) (h1 : b < 256) : bits BinOp.xor IntKind.u64 (s : Int) (b : Int) = ((s ^^^ b : Nat) : Int) := by
  have hx := FnvPlain.xor_lt s b h0 (by omega)
  have e1 : (BitVec.ofInt IntKind.u64.bits (s : Int) ^^^ BitVec.ofInt IntKind.u64.bits (b : Int)).toNat = s ^^^ b := by
    show (BitVec.ofInt 64 (s : Int) ^^^ BitVec.ofInt 64 (b : Int)).toNat = s ^^^ b
    rw [BitVec.ofInt_natCast, BitVec.ofInt_natCast, BitVec.toNat_xor, BitVec.toNat_ofNat, BitVec.toNat_ofNat, Nat.mod_eq_of_lt (by omega), Nat.mod_eq_of_lt (by omega)]
  show IntKind.u64.wrap (((BitVec.ofInt IntKind.u64.bits (s : Int) ^^^ BitVec.ofInt IntKind.u64.bits (b : Int)).toNat : Nat) : Int) = _
  rw [e1]
  exact IntWalk.u64_in _ (by omega)

theorem mul64 (x : Nat) : IntKind.u64.wrap ((x : Int) * 1099511628211) = ((x * 1099511628211 % 18446744073709551616 : Nat) : Int) := by
  rw [IntKind.wrap_u64]; omega

theorem fnv_add (s b : Nat) (w : World) (h0 : s < 18446744073709551616) (h1 : b < 256) :
    Calls Try.prog 15 #[.int .u64 s, .int .u8 b] w fun e w' => e = .returned (.int .u64 (FnvPlain.add s b : Nat)) ∧ w' = w := by
  have hx := xor64 s b h0 h1
  have Hx := Lib.hid hx
  clear hx
  go_enter Try.func15, Try.ntmps15
  go_wp2
  go_ret
  refine ⟨ret_int ?_, rfl⟩
  rw [Hx.out]
  exact mul64 _

theorem foldl_take (l : List UInt8) (k : Nat) (c : UInt8) (s0 : Nat) (h : l[k]? = some c) :
    (l.take (k + 1)).foldl (fun s c => FnvPlain.add s c.toNat) s0 = FnvPlain.add ((l.take k).foldl (fun s c => FnvPlain.add s c.toNat) s0) c.toNat := by
  obtain ⟨hk, rfl⟩ := List.getElem?_eq_some_iff.1 h
  rw [List.take_succ_eq_append_getElem hk, List.foldl_append, List.foldl_cons, List.foldl_nil]

def foldS (s0 : Nat) (l : List UInt8) : Nat := l.foldl (fun s c => FnvPlain.add s c.toNat) s0
theorem foldS_lt (s0 : Nat) (l : List UInt8) (h : s0 < 18446744073709551616) : foldS s0 l < 18446744073709551616 := FnvPlain.foldl_lt l s0 h
theorem foldS_sum (l : List UInt8) : foldS 14695981039346656037 l = FnvPlain.sum l := rfl
theorem foldS_succ (s : ByteArray) (k : Nat) (hk : k < s.size) (s0 : Nat) : foldS s0 (s.data.toList.take (k + 1)) = FnvPlain.add (foldS s0 (s.data.toList.take k)) s[k].toNat :=
  foldl_take s.data.toList k s[k] s0 (by rw [List.getElem?_eq_getElem (by simpa using hk)]; rfl)

set_option maxHeartbeats 1000000 in
theorem fnv_fold (s : ByteArray) (w : World) (hs : s.size ≤ 9223372036854775807) :
    Calls Try.prog 33 #[.agg #[.int .u64 14695981039346656037, .func (.func 15) #[] #[]], .string s] w fun e w' => e = .returned (.int .u64 (FnvPlain.sum s.data.toList : Nat)) ∧ Below w.heap.size w w' := by
  go_enter Try.func33, Try.ntmps33
  go_wp2
  go_loopw [8] (fun i w1 => ∃ k : Nat, k ≤ s.size ∧ i = .int .i64 k ∧ w1.cell? ⟨w.heap.size, 0, none⟩ = some (.int .u64 (foldS 14695981039346656037 (s.data.toList.take k) : Nat))  ∧ w1.cell? ⟨w.heap.size, 1, none⟩ = some (.func (.func 15) #[] #[]) ∧ w1.frozen? ⟨w.heap.size, 0, none⟩ = false ∧ w.heap.size < w1.heap.size ∧ Below w.heap.size w w1) (fun i _ => s.size - (intOf i).toNat)
  case atStart => exact ⟨0, Nat.zero_le _, rfl, by simp [foldS], by simp, by simp, by rw [World.size_alloc]; omega, (Below.refl _ _).alloc (Nat.le_refl _) _⟩
  case round =>
    obtain ⟨k, hk, rfl, hc0, hc1, hf, hz, hb⟩ := hrel
    by_cases hlt : k < s.size
    · have hS := foldS_lt 14695981039346656037 (s.data.toList.take k) (by decide)
      have hn := foldS_succ s k hlt 14695981039346656037
      generalize foldS 14695981039346656037 (s.data.toList.take k) = S at *
      have Hn := Lib.hid hn
      clear hn
      go_wp2
      go_still_tail 9, (by kernel_rfl)
      still_call (fnv_add S s[k].toNat _ hS (by exact s[k].toNat_lt))
      repeat still_step
      refine wpStill_nil ?_
      change wpList _ _ _ _ _ wr.drew
      go_wp2
      go_roundw
      case rel =>
        refine ⟨k + 1, by omega, by go_num, ?_, ?_, ?_, ?_, ?_⟩
        · rw [Hn.out]; exact World.cell?_setCell_same (w := wr) _ _ hc0
        · show (wr.setCell _ _).cell? _ = _; rw [World.cell?_setCell_other _ _ _ _ (by simp)]; exact hc1
        · show (wr.setCell _ _).frozen? _ = _; rw [World.frozen?_setCell]; exact hf
        · rw [World.size_drew, World.size_setCell]; exact hz
        · exact (hb.setCell (Nat.le_refl _) _).drew
      case measure => simp [intOf]; omega
    · go_wp2
      go_ret
      refine ⟨ret_int ?_, hb⟩
      rw [List.take_of_length_le (by simp; omega)]; rfl
theorem fnv_sum (s : ByteArray) (w : World) (hs : s.size ≤ 9223372036854775807) :
    Calls Try.prog 13 #[.string s] w fun e w' => e = .returned (.int .u64 (FnvPlain.sum s.data.toList : Nat)) ∧ Below w.heap.size w w' := by
  go_enter Try.func13, Try.ntmps13
  go_wp2_with (go_at_call 33; refine (fnv_fold _ _ hs).mono ?_; rintro e w' ⟨rfl, hb⟩)
  go_ret
  exact ⟨rfl, by assumption⟩
end Go.Proofs.Ytjeeedbbdgjgeaa
