/- What awake and long of the laws of layer 11 return. -/
import Derived.Test.YtjeeedbbdgjgeaaPoolRef3
namespace Go.Proofs.Ytjeeedbbdgjgeaa
open Go.RowKit Go.Maps PoolPlain
/-- a pool that has come of one by adding -/
def After (p : Nat) (l' : List (List UInt8)) (S : Nat → Prop) (w w' : World) : Prop := ∃ S', PoolAt w' p l' S' ∧ (∀ g, S' g → S g ∨ w.heap.size ≤ g) ∧ Touch S w w'
theorem add_at (p : Nat) (l : List (List UInt8)) (S : Nat → Prop) (w : World) (hP : PoolAt w p l S) (s : ByteArray) (m : List UInt8) (hs : s.data.toList = m) (hz : s.size ≤ 9223372036854775807) (c1 c2 : Nat) (is : Bool) (er : Nat) (l' : List (List UInt8)) (h : addC l m = (c1, c2) ∧ addIs l m = is ∧ addE l m = er ∧ addL l m = l') :
    Calls Try.prog 22 #[.pointer (some ⟨p, 0, none⟩), .string s] w fun e w' => e = .returned (.tuple #[.agg #[.int .u64 (c1 : Nat), .int .u32 (c2 : Nat)], .bool is, .int .i64 (er : Nat)]) ∧ After p l' S w w' := by
  obtain ⟨h1, h2, h3, h4⟩ := h
  have := pool_add p l S s w hz hP
  refine this.mono ?_
  rintro e w' ⟨he, hS⟩
  rw [hs, h1, h2, h3] at he
  rw [hs, h4] at hS
  exact ⟨he, hS⟩
/-- a block of two cells that no pool of S writes -/
def Cell2 (w : World) (S : Nat → Prop) (n : Nat) (x y : Value) (t : TypeId) : Prop := w.heap[n]? = some (.cells #[x, y] t (0, 0)) ∧ ¬ S n ∧ n < w.heap.size
theorem Cell2.new {w : World} {S : Nat → Prop} (hS : ∀ g, S g → g < w.heap.size) (x y : Value) (t : TypeId) : Cell2 (w.alloc (.cells #[x, y] t)) S w.heap.size x y t :=
  ⟨block_alloc w _, fun h => by have := hS _ h; omega, by rw [World.size_alloc]; omega⟩
theorem Cell2.step {w w' : World} {S S' : Nat → Prop} {n : Nat} {x y : Value} {t : TypeId} (h : Cell2 w S n x y t) (ht : Touch S w w') (hS : ∀ g, S' g → S g ∨ w.heap.size ≤ g) : Cell2 w' S' n x y t :=
  ⟨(ht.block n h.2.2 h.2.1).trans h.1, fun hs => (hS n hs).elim h.2.1 (fun h2 => by have := h.2.2; omega), Nat.lt_of_lt_of_le h.2.2 ht.size⟩
theorem Cell2.below {w w' : World} {S : Nat → Prop} {n : Nat} {x y : Value} {t : TypeId} (h : Cell2 w S n x y t) (hb : Below w.heap.size w w') : Cell2 w' S n x y t := ⟨(hb.block n h.2.2).trans h.1, h.2.1, Nat.lt_of_lt_of_le h.2.2 hb.size⟩
theorem Cell2.alloc {w : World} {S : Nat → Prop} {n : Nat} {x y : Value} {t : TypeId} (h : Cell2 w S n x y t) (o : Obj) : Cell2 (w.alloc o) S n x y t := h.below ((Below.refl _ _).alloc (Nat.le_refl _) _)
theorem PoolAt.alloc {w : World} {p : Nat} {l : List (List UInt8)} {S : Nat → Prop} (h : PoolAt w p l S) (o : Obj) : PoolAt (w.alloc o) p l S := h.below ((Below.refl _ _).alloc (Nat.le_refl _) _)
theorem own_new (w : World) (o : Obj) (B : Nat) (hB : B ≤ w.heap.size) : Below B w (w.alloc o) := (Below.refl _ _).alloc hB _

set_option maxRecDepth 100000 in
set_option maxHeartbeats 4000000 in
theorem awake11 (w : World) : Calls Try.prog 21 #[] w fun e w' => e = .returned (.bool true) ∧ Below w.heap.size w w' := by
  have q1 : ∀ w, (binOp .eql 39 (.agg #[.int .u64 2, .int .u32 1]) (.agg #[.int .u64 2, .int .u32 1])).run Try.prog w = .ok (.bool true) w := fun w => eq_content 2 1 2 1 w
  have q2 : ∀ w, (binOp .eql 39 (.agg #[.int .u64 0, .int .u32 2]) (.agg #[.int .u64 0, .int .u32 2])).run Try.prog w = .ok (.bool true) w := fun w => eq_content 0 2 0 2 w
  have s1 : ((bs [99]).toList == [99]) = true := by rw [ByteArray.toList_eq, bs_data]; rfl
  have s2 : ((bs [97, 98, 99]).toList == [97, 98, 99]) = true := by rw [ByteArray.toList_eq, bs_data]; rfl
  go_enter Try.func21, Try.ntmps21
  go_wp2_with fail
  refine (pool_new w).mono ?_
  rintro e w1 ⟨rfl, hw1⟩
  have P1 := PoolAt.new w
  have B1 : Below w.heap.size w w1 := by rw [hw1]; exact own_new w _ _ (Nat.le_refl _)
  rw [← hw1] at P1
  have HS1 : Hid (∀ g, (fun g => g = w.heap.size) g → w.heap.size ≤ g) := Lib.hid (fun g hg => by have : g = w.heap.size := hg; omega)
  generalize (fun g => g = w.heap.size) = S1 at P1 HS1
  have HP1 := Lib.hid P1
  have HB1 := Lib.hid B1
  clear hw1 P1 B1
  go_wp2_with fail
  refine (add_at _ _ _ _ HP1.out _ [97, 98] rfl (by decide) 0 2 true 0 [[97, 98]] (by decide)).mono ?_
  rintro e w2 ⟨rfl, S2, P2, hS2, T2⟩
  have B2 : Below w.heap.size w w2 := HB1.out.trans (T2.below HS1.out HB1.out.size)
  have HS2 : Hid (∀ g, S2 g → w.heap.size ≤ g) := Lib.hid (fun g hg => (hS2 g hg).elim (HS1.out g) (fun h => Nat.le_trans HB1.out.size h))
  have HP2 := Lib.hid P2
  have HB2 := Lib.hid B2
  clear P2 hS2 T2 B2
  go_wp2_with fail
  have C2 := Cell2.new (S := S2) HP2.out.2.1 (.int .u64 0) (.int .u32 2) 39
  have P3 := HP2.out.alloc (.cells #[.int .u64 0, .int .u32 2] 39)
  have B3 := HB2.out.trans (own_new w2 (.cells #[.int .u64 0, .int .u32 2] 39) w.heap.size HB2.out.size)
  generalize w2.alloc (.cells #[.int .u64 0, .int .u32 2] 39) = w3 at C2 P3 B3 ⊢
  refine (add_at _ _ _ _ P3 _ [99] rfl (by decide) 2 1 true 0 [[97, 98], [99]] (by decide)).mono ?_
  rintro e w4 ⟨rfl, S4, P4, hS4, T4⟩
  have B4 : Below w.heap.size w w4 := B3.trans (T4.below HS2.out B3.size)
  have HS4 : Hid (∀ g, S4 g → w.heap.size ≤ g) := Lib.hid (fun g hg => (hS4 g hg).elim (HS2.out g) (fun h => Nat.le_trans B3.size h))
  have HC2 := Lib.hid (C2.step T4 hS4)
  have HP4 := Lib.hid P4
  have HB4 := Lib.hid B4
  clear P4 hS4 T4 B4 C2 P3 B3
  go_wp2_with fail
  have C5 := Cell2.new (S := S4) HP4.out.2.1 (.int .u64 2) (.int .u32 1) 39
  have C2 := HC2.out.alloc (.cells #[.int .u64 2, .int .u32 1] 39)
  have P5 := HP4.out.alloc (.cells #[.int .u64 2, .int .u32 1] 39)
  have B5 := HB4.out.trans (own_new w4 (.cells #[.int .u64 2, .int .u32 1] 39) w.heap.size HB4.out.size)
  generalize w4.alloc (.cells #[.int .u64 2, .int .u32 1] 39) = w5 at C2 C5 P5 B5 ⊢
  refine (add_at _ _ _ _ P5 _ [97, 98] rfl (by decide) 0 2 false 0 [[97, 98], [99]] (by decide)).mono ?_
  rintro e w6 ⟨rfl, S6, P6, hS6, T6⟩
  have B6 : Below w.heap.size w w6 := B5.trans (T6.below HS4.out B5.size)
  have HS6 : Hid (∀ g, S6 g → w.heap.size ≤ g) := Lib.hid (fun g hg => (hS6 g hg).elim (HS4.out g) (fun h => Nat.le_trans B5.size h))
  have HC2 := Lib.hid (C2.step T6 hS6)
  have HC5 := Lib.hid (C5.step T6 hS6)
  have HP6 := Lib.hid P6
  have HB6 := Lib.hid B6
  clear P6 hS6 T6 B6 C2 C5 P5 B5
  go_wp2_with fail
  have C8 := Cell2.new (S := S6) HP6.out.2.1 (.int .u64 0) (.int .u32 2) 39
  have C2 := HC2.out.alloc (.cells #[.int .u64 0, .int .u32 2] 39)
  have C5 := HC5.out.alloc (.cells #[.int .u64 0, .int .u32 2] 39)
  have P7 := HP6.out.alloc (.cells #[.int .u64 0, .int .u32 2] 39)
  have B7 := HB6.out.trans (own_new w6 (.cells #[.int .u64 0, .int .u32 2] 39) w.heap.size HB6.out.size)
  generalize w6.alloc (.cells #[.int .u64 0, .int .u32 2] 39) = w7 at C2 C5 C8 P7 B7 ⊢
  refine (add_at _ _ _ _ P7 _ [] rfl (by decide) 0 0 false 2 [[97, 98], [99]] (by decide)).mono ?_
  rintro e w8 ⟨rfl, S8, P8, hS8, T8⟩
  have B8 : Below w.heap.size w w8 := B7.trans (T8.below HS6.out B7.size)
  have HC2 := Lib.hid (C2.step T8 hS8)
  have HC5 := Lib.hid (C5.step T8 hS8)
  have HC8 := Lib.hid (C8.step T8 hS8)
  have HP8 := Lib.hid P8
  have HB8 := Lib.hid B8
  clear P8 hS8 T8 B8 C2 C5 C8 P7 B7
  go_wp2_with fail
  have C2 := HC2.out.alloc (.cells #[.int .u64 0, .int .u32 0] 39)
  have C5 := HC5.out.alloc (.cells #[.int .u64 0, .int .u32 0] 39)
  have C8 := HC8.out.alloc (.cells #[.int .u64 0, .int .u32 0] 39)
  have P9 := HP8.out.alloc (.cells #[.int .u64 0, .int .u32 0] 39)
  have B9 := HB8.out.trans (own_new w8 (.cells #[.int .u64 0, .int .u32 0] 39) w.heap.size HB8.out.size)
  generalize w8.alloc (.cells #[.int .u64 0, .int .u32 0] 39) = w9 at C2 C5 C8 P9 B9 ⊢
  refine (pool_find _ _ _ _ _ (by decide) P9).mono ?_
  rintro e w10 ⟨he, b10⟩
  have hf : fnd [[97, 98], [99]] [99] = (2, 1, true) := by decide
  rw [show (⟨#[99]⟩ : ByteArray).data.toList = [99] from rfl, hf] at he
  subst he
  have HC2 := Lib.hid (C2.below b10)
  have HC5 := Lib.hid (C5.below b10)
  have HC8 := Lib.hid (C8.below b10)
  have HP10 := Lib.hid (P9.below b10)
  have HB10 := Lib.hid (B9.trans (b10.mono B9.size))
  obtain ⟨x0, x1, -, -⟩ := cells2 HC5.out.1
  have xz := HC5.out.2.2
  clear C2 C5 C8 P9 B9 b10 hf
  go_wp2_with fail
  have C14 := Cell2.new (S := S8) HP10.out.2.1 (.int .u64 2) (.int .u32 1) 39
  have C2 := HC2.out.alloc (.cells #[.int .u64 2, .int .u32 1] 39)
  have C5 := HC5.out.alloc (.cells #[.int .u64 2, .int .u32 1] 39)
  have C8 := HC8.out.alloc (.cells #[.int .u64 2, .int .u32 1] 39)
  have P11 := HP10.out.alloc (.cells #[.int .u64 2, .int .u32 1] 39)
  have B11 := HB10.out.trans (own_new w10 (.cells #[.int .u64 2, .int .u32 1] 39) w.heap.size HB10.out.size)
  clear x0 x1 xz
  generalize w10.alloc (.cells #[.int .u64 2, .int .u32 1] 39) = w11 at C2 C5 C8 C14 P11 B11 ⊢
  have G1 : getS [[97, 98], [99]] 2 1 = [99] ∧ isIn [[97, 98], [99]] 2 1 = true := by decide
  have G2 : getS [[97, 98], [99]] 1 1 = [] ∧ isIn [[97, 98], [99]] 1 1 = false := by decide
  refine (pool_get _ _ _ 2 1 _ P11).mono ?_
  rintro e w12 ⟨he, b12⟩
  rw [G1.1, G1.2] at he
  subst he
  have HC2 := Lib.hid (C2.below b12)
  have HC5 := Lib.hid (C5.below b12)
  have HC8 := Lib.hid (C8.below b12)
  have HC14 := Lib.hid (C14.below b12)
  have HP12 := Lib.hid (P11.below b12)
  have HB12 := Lib.hid (B11.trans (b12.mono B11.size))
  clear C2 C5 C8 C14 P11 B11 b12 G1
  go_wp2_with fail
  refine (pool_get _ _ _ 1 1 _ HP12.out).mono ?_
  rintro e w14 ⟨he, b14⟩
  rw [G2.1, G2.2] at he
  subst he
  have HC2 := Lib.hid (HC2.out.below b14)
  have HC5 := Lib.hid (HC5.out.below b14)
  have HC8 := Lib.hid (HC8.out.below b14)
  have HC14 := Lib.hid (HC14.out.below b14)
  have HP14 := Lib.hid (HP12.out.below b14)
  have HB14 := Lib.hid (HB12.out.trans (b14.mono HB12.out.size))
  obtain ⟨x0, x1, -, -⟩ := cells2 HC2.out.1
  obtain ⟨x2, x3, -, -⟩ := cells2 HC5.out.1
  obtain ⟨x4, x5, -, -⟩ := cells2 HC8.out.1
  obtain ⟨x6, x7, -, -⟩ := cells2 HC14.out.1
  have HL := Lib.hid (pool_len _ _ _ _ HP14.out)
  have HT := Lib.hid (pool_text _ _ _ _ HP14.out)
  clear b14 G2
  go_wp2_with (first
    | (go_at_call 26; refine HL.out.mono ?_; rintro e w' ⟨rfl, rfl⟩)
    | (go_at_call 29; refine HT.out.mono ?_; rintro e w16 ⟨rfl, b16⟩))
  go_ret
  exact ⟨rfl, HB14.out.trans (b16.mono HB14.out.size)⟩
def longB (l : List (List UInt8)) (most : Nat) : Bool := decide (most < l.flatten.length)
set_option maxRecDepth 100000 in
set_option maxHeartbeats 1000000 in
theorem long11 (v : Value) (l : List (List UInt8)) (M : Nat) (w : World) (hM : M ≤ 100000) (hv : StrArg w v l) :
    Calls Try.prog 20 #[v, .int .i64 (M : Nat)] w fun e w' => e = .returned (.bool (longB l M)) ∧ w' = w := by
  obtain ⟨⟨a, c, rfl, hc, hx⟩, hsz, hll⟩ := hv
  unfold maxLen at hll
  have HX := Lib.hid hx
  have HZ := Lib.hid hsz
  have HT : Hid (∀ k (hk : k < l.length), M < off l (k + 1) → longB l M = true) := Lib.hid (fun k hk h => decide_eq_true (Nat.lt_of_lt_of_le h (off_le l _)))
  have HE : Hid (off l l.length ≤ M → longB l M = false) := Lib.hid (fun h => decide_eq_false (by rw [off_all l _ (Nat.le_refl _)] at h; omega))
  clear hx hsz
  generalize longB l M = B at HT HE ⊢
  go_enter Try.func20, Try.ntmps20
  go_wp2_with fail
  go_loop [1, 5] (fun t i => ∃ k : Nat, k ≤ l.length ∧ i = .int .i64 k ∧ off l k ≤ M ∧ t = .int .i64 ((M : Int) - (off l k : Nat))) (fun _ i => l.length - (intOf i).toNat)
  case atStart => exact ⟨0, by omega, rfl, by rw [off_zero]; omega, by rw [off_zero]; simp⟩
  case round =>
    obtain ⟨k, hk, rfl, hle, rfl⟩ := hrel
    by_cases hlt : k < l.length
    · obtain ⟨b, o, rfl, hbl, hcell⟩ := HX.out (fun e => by rw [e] at hlt; exact absurd hlt (Nat.not_lt_zero _))
      have c0 := hcell k hlt
      have hs := off_succ l k hlt
      have hz := HZ.out l[k] (List.getElem_mem hlt)
      unfold maxLen at hz
      have hbz := bs_size l[k]
      have hT := Lib.hid (HT.out k hlt)
      clear hcell HX HZ HT
      generalize bs l[k] = X at c0 hbz
      obtain ⟨n, hn⟩ : ∃ n, n = l[k].length := ⟨_, rfl⟩
      rw [← hn] at hs hz hbz
      clear hn
      obtain ⟨q, hq⟩ : ∃ q, q = off l k := ⟨_, rfl⟩
      rw [← hq] at hs hle ⊢
      have Hs := Lib.hid hs
      clear hs hq
      by_cases hbig : M < q + n
      · have t1 : decide ((M : Int) - (q : Int) - (n : Int) < 0) = true := decide_eq_true (by omega)
        have HB := Lib.hid (hT.out (by rw [Hs.out]; exact hbig))
        clear hT
        go_wp2_with fail
        go_ret
        exact ⟨by rw [HB.out]; rfl, rfl⟩
      · have t1 : decide ((M : Int) - (q : Int) - (n : Int) < 0) = false := decide_eq_false (by omega)
        clear hT
        go_wp2_with fail
        go_round
        case rel => exact ⟨k + 1, by omega, by go_num, by rw [Hs.out]; omega, by rw [Hs.out]; congr 1; omega⟩
        case measure => simp [intOf]; omega
    · obtain rfl : k = l.length := by omega
      have HB := Lib.hid (HE.out hle)
      clear HE HT HX HZ
      go_wp2_with fail
      go_ret
      exact ⟨by rw [HB.out]; rfl, rfl⟩
end Go.Proofs.Ytjeeedbbdgjgeaa
