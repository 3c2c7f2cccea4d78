/- The law PoolNobody returns true. -/
import Derived.Test.YtjeeedbbdgjgeaaPoolKeeps
namespace Go.Proofs.Ytjeeedbbdgjgeaa
open Go.RowKit Go.Maps PoolPlain
theorem find_nil (s : ByteArray) (w : World) : Calls Try.prog 24 #[.pointer none, .string s] w fun e w' => e = .returned (.tuple #[.agg #[.int .u64 0, .int .u32 0], .bool false]) ∧ Below w.heap.size w w' := by
  have hA := block_alloc w (.cells #[.int .u64 0, .int .u32 0] 39)
  go_enter Try.func24, Try.ntmps24
  go_wp2_with fail
  refine ret_cell2 (A := ⟨w.heap.size, 0, none⟩) rfl (load_content _ _ _ _ _ hA) rfl rfl rfl ?_
  exact ⟨rfl, (Below.refl _ _).alloc (Nat.le_refl _) _⟩
theorem fork_nil (w : World) : Calls Try.prog 31 #[.pointer none] w fun e w' => e = .returned (.pointer none) ∧ w' = w := by
  go_enter Try.func31, Try.ntmps31
  go_wp2_with fail
  go_ret
  exact ⟨rfl, rfl⟩
set_option maxRecDepth 100000 in
set_option maxHeartbeats 4000000 in
theorem poolNobody_walk (s : ByteArray) (o n : Nat) (w : World) (hs : s.size ≤ 9223372036854775807) :
    Calls Try.prog 10 #[.string s, .agg #[.int .u64 (o : Nat), .int .u32 (n : Nat)]] w fun e w' => e = .returned (.bool true) ∧ Below w.heap.size w w' := by
  have B0 := own_new w (.cells #[.int .u64 (o : Nat), .int .u32 (n : Nat)] 39) w.heap.size (Nat.le_refl _)
  have X0 := block_alloc w (.cells #[.int .u64 (o : Nat), .int .u32 (n : Nat)] 39)
  have z0 : (w.alloc (.cells #[.int .u64 (o : Nat), .int .u32 (n : Nat)] 39)).heap.size = w.heap.size + 1 := World.size_alloc _ _
  by_cases hl : 300 < s.size
  · have t0 : decide ((300 : Int) < (s.size : Int)) = true := decide_eq_true (by omega)
    go_enter Try.func10, Try.ntmps10
    go_wp2_with fail
    generalize w.alloc (.cells #[.int .u64 (o : Nat), .int .u32 (n : Nat)] 39) = W0 at B0 ⊢
    refine (awake11 _).mono ?_
    rintro e W2 ⟨rfl, hb2⟩
    go_wp2_with fail
    go_ret
    exact ⟨rfl, B0.trans (hb2.mono B0.size)⟩
  · have t0 : decide ((300 : Int) < (s.size : Int)) = false := decide_eq_false (by omega)
    have HNew := Lib.hid (fun W => PoolAt.new W)
    have G1 : getS [] o n = [] ∧ isIn [] o n = false := ⟨rfl, rfl⟩
    have HG1 := Lib.hid G1
    have s1 : ((bs [122]).toList == [122]) = true := by rw [ByteArray.toList_eq, bs_data]; rfl
    clear G1 hl
    go_enter Try.func10, Try.ntmps10
    go_wp2_with fail
    generalize w.alloc (.cells #[.int .u64 (o : Nat), .int .u32 (n : Nat)] 39) = W0 at B0 X0 z0 ⊢
    have P1 := HNew.out W0
    have B1 : Below w.heap.size w (W0.alloc (.cells #[.slice none 0 0, .slice none 0 0, .map none] 61)) := B0.trans (own_new W0 _ _ B0.size)
    have X1 := (heap_alloc_old W0 (.cells #[.slice none 0 0, .slice none 0 0, .map none] 61) (show w.heap.size < W0.heap.size by omega)).trans X0
    have z1 : (W0.alloc (.cells #[.slice none 0 0, .slice none 0 0, .map none] 61)).heap.size = w.heap.size + 2 := by rw [World.size_alloc, z0]
    rw [z0] at P1
    have hS1 : ∀ g, (fun g => g = w.heap.size + 1) g → w.heap.size < g := fun g hg => by have : g = w.heap.size + 1 := hg; omega
    generalize (fun g => g = w.heap.size + 1) = S1 at P1 hS1
    generalize W0.alloc (.cells #[.slice none 0 0, .slice none 0 0, .map none] 61) = W1 at P1 B1 X1 z1 ⊢
    have C3 : Cell2 W1 S1 w.heap.size (.int .u64 (o : Nat)) (.int .u32 (n : Nat)) 39 := ⟨X1, fun h => by have := hS1 _ h; omega, by omega⟩
    clear B0 X0 X1 z0 HNew
    have HSl : Hid (∀ g, S1 g → w.heap.size ≤ g) := Lib.hid (fun g hg => Nat.le_of_lt (hS1 g hg))
    clear hS1
    refine (add_nil s W1).mono ?_
    rintro e W2 ⟨rfl, hb⟩
    have HP := Lib.hid (P1.below hb)
    have HC := Lib.hid (C3.below hb)
    have HB := Lib.hid (B1.trans (hb.mono B1.size))
    clear P1 C3 B1 hb z1
    go_wp2_with fail
    have P := HP.out.alloc (.cells #[.int .u64 0, .int .u32 0] 39)
    have C := HC.out.alloc (.cells #[.int .u64 0, .int .u32 0] 39)
    have B := HB.out.trans (own_new W2 (.cells #[.int .u64 0, .int .u32 0] 39) w.heap.size HB.out.size)
    generalize W2.alloc (.cells #[.int .u64 0, .int .u32 0] 39) = W3 at P C B ⊢
    clear HP HC HB
    refine (find_nil s W3).mono ?_
    rintro e W4 ⟨rfl, hb⟩
    have HP := Lib.hid (P.below hb)
    have HC := Lib.hid (C.below hb)
    have HB := Lib.hid (B.trans (hb.mono B.size))
    obtain ⟨x0, x1, -, -⟩ := cells2 HC.out.1
    have hlx := HC.out.2.2
    clear P C B hb
    go_wp2_with fail
    have P := HP.out.alloc (.cells #[.int .u64 0, .int .u32 0] 39)
    have C := HC.out.alloc (.cells #[.int .u64 0, .int .u32 0] 39)
    have B := HB.out.trans (own_new W4 (.cells #[.int .u64 0, .int .u32 0] 39) w.heap.size HB.out.size)
    clear x0 x1 hlx
    generalize W4.alloc (.cells #[.int .u64 0, .int .u32 0] 39) = W5 at P C B ⊢
    clear HP HC HB
    refine (get_nil o n W5).mono ?_
    rintro e W6 ⟨rfl, hb⟩
    have HP := Lib.hid (P.below hb)
    have HC := Lib.hid (C.below hb)
    have HB := Lib.hid (B.trans (hb.mono B.size))
    obtain ⟨x0, x1, -, -⟩ := cells2 HC.out.1
    have hlx := HC.out.2.2
    clear P C B hb
    go_wp2_with fail
    refine (pool_get _ [] _ o n W6 HP.out).mono ?_
    rintro e W7 ⟨he, hb⟩
    rw [HG1.out.1, HG1.out.2] at he
    subst he
    have P := HP.out.below hb
    have B := HB.out.trans (hb.mono HB.out.size)
    clear HP HC HB hb x0 x1 hlx
    have HP := Lib.hid P
    have HB := Lib.hid B
    clear P B
    go_wp2_with fail
    refine (add_at _ _ _ _ HP.out _ [122] rfl (by decide) 0 1 true 0 [[122]] (by decide)).mono ?_
    rintro e W8 ⟨rfl, S8, P8, hS8, T8⟩
    have B8 : Below w.heap.size w W8 := HB.out.trans (T8.below HSl.out HB.out.size)
    have P9 := P8.alloc (.cells #[.int .u64 0, .int .u32 1] 39)
    have B9 := B8.trans (own_new W8 (.cells #[.int .u64 0, .int .u32 1] 39) w.heap.size B8.size)
    have HP9 := Lib.hid P9
    have HB9 := Lib.hid B9
    clear P9 B9 P8 hS8 T8 B8 HP HB
    have HL := Lib.hid (fun W (h : PoolAt W (w.heap.size + 1) [[122]] S8) => pool_len _ _ _ W h)
    have HT := Lib.hid (fun W (h : PoolAt W (w.heap.size + 1) [[122]] S8) => pool_text _ _ _ W h)
    go_wp2_with (first
      | (go_at_call_of 26 (Value.pointer none); refine (len_nil _).mono ?_; rintro e w' ⟨rfl, rfl⟩)
      | (go_at_call_of 29 (Value.pointer none); refine (text_nil _).mono ?_; rintro e w9 ⟨rfl, hb⟩; have HP10 := Lib.hid (HP9.out.below hb); have HB10 := Lib.hid (HB9.out.trans (hb.mono HB9.out.size)); clear hb)
      | (go_at_call 31; refine (fork_nil _).mono ?_; rintro e w' ⟨rfl, rfl⟩)
      | (go_at_call 26; refine (HL.out _ HP10.out).mono ?_; rintro e w' ⟨rfl, rfl⟩)
      | (go_at_call 29; refine (HT.out _ HP10.out).mono ?_; rintro e w11 ⟨rfl, hb⟩; have HB11 := Lib.hid (HB10.out.trans (hb.mono HB10.out.size)); clear hb)
      | (go_at_call 21; refine (awake11 _).mono ?_; rintro e w12 ⟨rfl, hb⟩; have HB12 := Lib.hid (HB11.out.trans (hb.mono HB11.out.size)); clear hb))
    go_ret
    exact ⟨rfl, HB12.out⟩
end Go.Proofs.Ytjeeedbbdgjgeaa
