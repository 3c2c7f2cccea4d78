/- What Add, Len, New of a pool do. -/
import Derived.Test.YtjeeedbbdgjgeaaPoolPut2
namespace Go.Proofs.Ytjeeedbbdgjgeaa
open Go.RowKit Go.Maps PoolPlain
/-- what Add leaves -/
def AddR (p : Nat) (l : List (List UInt8)) (s : List UInt8) (S : Nat → Prop) (w : World) (e : Ending) (w' : World) : Prop :=
  e = .returned (.tuple #[.agg #[.int .u64 ((addC l s).1 : Nat), .int .u32 ((addC l s).2 : Nat)], .bool (addIs l s), .int .i64 (addE l s : Nat)]) ∧ ∃ S', PoolAt w' p (addL l s) S' ∧ (∀ g, S' g → S g ∨ w.heap.size ≤ g) ∧ Touch S w w'
theorem addR_old {p : Nat} {l : List (List UInt8)} {s : List UInt8} {S : Nat → Prop} {w : World} {e : Ending} {w' : World} (h : ¬ (s ≠ [] ∧ s.length ≤ 65536 ∧ s ∉ l ∧ l.length < 2048)) (hP : PoolAt w p l S) {a b c : Nat} (h1 : (fnd l s).1 = a) (h2 : (fnd l s).2.1 = b) (h3 : addE l s = c)
    (he : e = .returned (.tuple #[.agg #[.int .u64 (a : Nat), .int .u32 (b : Nat)], .bool false, .int .i64 (c : Nat)])) (hb : Below w.heap.size w w') : AddR p l s S w e w' := by
  obtain ⟨g1, g2, g3⟩ := add_old l s h
  subst h1 h2 h3
  refine ⟨by rw [g1, g3]; exact he, S, by rw [g2]; exact hP.below hb, fun g hg => .inl hg, Touch.of_below hb⟩
theorem pool_new (w : World) : Calls Try.prog 19 #[] w fun e w' => e = .returned (.pointer (some ⟨w.heap.size, 0, none⟩)) ∧ w' = w.alloc (.cells #[.slice none 0 0, .slice none 0 0, .map none] 61) := by
  go_enter Try.func19, Try.ntmps19
  go_wp2_with fail
  go_ret
  exact ⟨rfl, rfl⟩
theorem pool_len (p : Nat) (l : List (List UInt8)) (S : Nat → Prop) (w : World) (hP : PoolAt w p l S) :
    Calls Try.prog 26 #[.pointer (some ⟨p, 0, none⟩)] w fun e w' => e = .returned (.int .i64 (l.length : Nat)) ∧ w' = w := by
  obtain ⟨-, -, -, tv, pv, mv, hb, -, -, hpr, -, -⟩ := hP
  obtain ⟨-, c1, -, -, -, -⟩ := cells3 hb
  obtain ⟨p0, pc, rfl⟩ : ∃ a c, pv = .slice a l.length c := by
    rcases hpr.2 with ⟨rfl, h0⟩ | ⟨g, cap, cur, rfl, -⟩
    · exact ⟨none, 0, by rw [h0]⟩
    · exact ⟨_, _, rfl⟩
  clear hpr hb
  go_enter Try.func26, Try.ntmps26
  go_wp2_with fail
  go_ret
  exact ⟨rfl, rfl⟩
theorem len_nil (w : World) : Calls Try.prog 26 #[.pointer none] w fun e w' => e = .returned (.int .i64 0) ∧ w' = w := by
  go_enter Try.func26, Try.ntmps26
  go_wp2_with fail
  go_ret
  exact ⟨rfl, rfl⟩
theorem add_nil (s : ByteArray) (w : World) : Calls Try.prog 22 #[.pointer none, .string s] w fun e w' => e = .returned (.tuple #[.agg #[.int .u64 0, .int .u32 0], .bool false, .int .i64 1]) ∧ Below w.heap.size w w' := by
  have hA := block_alloc w (.cells #[.int .u64 0, .int .u32 0] 39)
  go_enter Try.func22, Try.ntmps22
  go_wp2_with fail
  refine ret_cell3 (A := ⟨w.heap.size, 0, none⟩) rfl (load_content _ _ _ _ _ hA) rfl rfl rfl rfl ?_
  exact ⟨rfl, (Below.refl _ _).alloc (Nat.le_refl _) _⟩
set_option maxRecDepth 100000 in
set_option maxHeartbeats 2000000 in
theorem pool_add (p : Nat) (l : List (List UInt8)) (S : Nat → Prop) (s : ByteArray) (w : World) (hs : s.size ≤ 9223372036854775807) (hP : PoolAt w p l S) :
    Calls Try.prog 22 #[.pointer (some ⟨p, 0, none⟩), .string s] w (AddR p l s.data.toList S w) := by
  obtain ⟨m, rfl⟩ : ∃ m, s = bs m := ⟨s.data.toList, (bs_self s).symm⟩
  rw [bs_data]
  have hbz := bs_size m
  have hA := block_alloc w (.cells #[.int .u64 0, .int .u32 0] 39)
  have hB0 : Below w.heap.size w (w.alloc (.cells #[.int .u64 0, .int .u32 0] 39)) := (Below.refl _ _).alloc (Nat.le_refl _) _
  have hok := hP.1
  by_cases h1 : m = []
  · have HE : Hid (AddR p l m S w (.returned (.tuple #[.agg #[.int .u64 0, .int .u32 0], .bool false, .int .i64 2])) (w.alloc (.cells #[.int .u64 0, .int .u32 0] 39))) := Lib.hid (by
      have hf := fnd_miss l m (by rw [h1]; exact not_mem_nil l hok)
      exact addR_old (fun h => h.1 h1) hP (by rw [hf]) (by rw [hf]) (by unfold addE; rw [if_pos h1]) rfl hB0)
    have t1 : (bs m).toList = [] := by rw [ByteArray.toList_eq, bs_data]; exact h1
    clear h1 hP hok
    go_enter Try.func22, Try.ntmps22
    go_wp2_with fail
    refine ret_cell3 (A := ⟨w.heap.size, 0, none⟩) rfl (load_content _ _ _ _ _ hA) rfl rfl rfl rfl ?_
    exact HE.out
  · have t1 : (bs m).toList.isEmpty = false := by rw [ByteArray.toList_eq, bs_data]; cases m with
      | nil => exact absurd rfl h1
      | cons a t => rfl
    by_cases h2 : 65536 < m.length
    · have HE : Hid (AddR p l m S w (.returned (.tuple #[.agg #[.int .u64 0, .int .u32 0], .bool false, .int .i64 5])) (w.alloc (.cells #[.int .u64 0, .int .u32 0] 39))) := Lib.hid (by
        have hf := fnd_miss l m (not_mem_long l hok m h2)
        exact addR_old (fun h => by have := h.2.1; omega) hP (by rw [hf]) (by rw [hf]) (by unfold addE; rw [if_neg h1, if_pos h2]) rfl hB0)
      clear h1 hP hok
      have t2 : decide ((65536 : Int) < (m.length : Int)) = true := decide_eq_true (by omega)
      go_enter Try.func22, Try.ntmps22
      go_wp2_with fail
      refine ret_cell3 (A := ⟨w.heap.size, 0, none⟩) rfl (load_content _ _ _ _ _ hA) rfl rfl rfl rfl ?_
      exact HE.out
    · have t2 : decide ((65536 : Int) < (m.length : Int)) = false := decide_eq_false (by omega)
      have HFn := Lib.hid (pool_find p l S (bs m) (w.alloc (.cells #[.int .u64 0, .int .u32 0] 39)) hs (hP.below hB0))
      rw [bs_data] at HFn
      have H1 := Lib.hid h1
      have HP := Lib.hid hP
      have hpl := hP.lt
      obtain ⟨p0, pc, c1⟩ : ∃ a c, w.cell? ⟨p, 1, none⟩ = some (.slice a l.length c) := by
        obtain ⟨-, -, -, tv, pv, mv, hb, -, -, hpr, -, -⟩ := hP
        obtain ⟨-, c1, -, -, -, -⟩ := cells3 hb
        rcases hpr.2 with ⟨rfl, h0⟩ | ⟨g, cap, cur, rfl, -⟩
        · exact ⟨none, 0, by rw [h0]; exact c1⟩
        · exact ⟨_, _, c1⟩
      clear h1 hok hP
      by_cases h3 : m ∈ l
      · have HE : Hid (∀ w', Below w.heap.size w w' → AddR p l m S w (.returned (.tuple #[.agg #[.int .u64 ((fnd l m).1 : Nat), .int .u32 ((fnd l m).2.1 : Nat)], .bool false, .int .i64 0])) w') := Lib.hid (fun w' hb => addR_old (fun h => h.2.2.1 h3) HP.out rfl rfl (by unfold addE; rw [if_neg H1.out, if_neg h2, if_pos h3]) rfl hb)
        obtain ⟨k, hk, e1, e2⟩ := first_of l m h3
        have hf := fnd_hit l m k hk e1 e2
        have Hf := Lib.hid hf
        clear e1 e2 hf h3
        go_enter Try.func22, Try.ntmps22
        go_wp2_with fail
        refine HFn.out.mono ?_
        rintro e w1 ⟨rfl, hb1⟩
        have hbx := bstep hB0 hb1
        have hA1 := (hb1.block w.heap.size (by rw [World.size_alloc]; omega)).trans hA
        have hz1 := Nat.lt_of_lt_of_le (show w.heap.size < _ by rw [World.size_alloc]; exact Nat.lt_succ_self _) hb1.size
        rw [Hf.out] at HE ⊢
        generalize off l k = o at HE ⊢
        obtain ⟨n, hn⟩ : ∃ n, m.length = n := ⟨_, rfl⟩
        rw [hn] at HE ⊢
        clear hn
        obtain ⟨x0, x1, x2, x3⟩ := cells2 hA1
        have HA1 := Lib.hid hA1
        have HBX := Lib.hid hbx
        clear hb1 hA1 hbx hA hB0
        go_wp2_with fail
        refine ret_cell3 (A := ⟨w.heap.size, 0, none⟩) rfl (load_content _ _ _ _ _ ((heap_alloc_old _ _ (by simp only [set_size]; exact hz1)).trans (two_set HA1.out _ _))) rfl rfl rfl rfl ?_
        refine HE.out _ ?_
        exact ((HBX.out.setCell (p := ⟨w.heap.size, 0, none⟩) (Nat.le_refl _) _).setCell (p := ⟨w.heap.size, 1, none⟩) (Nat.le_refl _) _).alloc (by simp only [set_size]; omega) _
      · have hf := fnd_miss l m h3
        have Hf := Lib.hid hf
        by_cases h4 : 2048 ≤ l.length
        · have HE : Hid (∀ w', Below w.heap.size w w' → AddR p l m S w (.returned (.tuple #[.agg #[.int .u64 0, .int .u32 0], .bool false, .int .i64 7])) w') := Lib.hid (fun w' hb => addR_old (fun h => by have := h.2.2.2; omega) HP.out (by rw [hf]) (by rw [hf]) (by unfold addE; rw [if_neg H1.out, if_neg h2, if_neg h3, if_pos h4]) rfl hb)
          have t4 : decide ((2048 : Int) ≤ (l.length : Int)) = true := decide_eq_true (by omega)
          clear h3 hf
          go_enter Try.func22, Try.ntmps22
          go_wp2_with fail
          refine HFn.out.mono ?_
          rintro e w1 ⟨rfl, hb1⟩
          have hbx := bstep hB0 hb1
          have hA1 := (hb1.block w.heap.size (by rw [World.size_alloc]; omega)).trans hA
          have hz1 := Nat.lt_of_lt_of_le (show w.heap.size < _ by rw [World.size_alloc]; exact Nat.lt_succ_self _) hb1.size
          have d1 := (hbx.cell (p := ⟨p, 1, none⟩) hpl).trans c1
          have hpx := Nat.lt_of_lt_of_le hpl hbx.size
          rw [Hf.out]
          obtain ⟨x0, x1, x2, x3⟩ := cells2 hA1
          have HA1 := Lib.hid hA1
          have HBX := Lib.hid hbx
          clear hb1 hA1 hbx hA hB0 c1
          go_wp2_with fail
          refine ret_cell3 (A := ⟨w.heap.size, 0, none⟩) rfl (load_content _ _ _ _ _ ((heap_alloc_old _ _ (by simp only [set_size]; exact hz1)).trans (two_set HA1.out _ _))) rfl rfl rfl rfl ?_
          refine HE.out _ ?_
          exact ((HBX.out.setCell (p := ⟨w.heap.size, 0, none⟩) (Nat.le_refl _) _).setCell (p := ⟨w.heap.size, 1, none⟩) (Nat.le_refl _) _).alloc (by simp only [set_size]; omega) _
        · have t4 : decide ((2048 : Int) ≤ (l.length : Int)) = false := decide_eq_false (by omega)
          have HN := Lib.hid (add_new l m H1.out (by omega) h3 (by omega))
          have HPut := Lib.hid (fun W (h : PoolAt W p l S) => pool_put p l S m W H1.out (by omega) h3 (by omega) h)
          clear h3 hf
          go_enter Try.func22, Try.ntmps22
          go_wp2_with fail
          refine HFn.out.mono ?_
          rintro e w1 ⟨rfl, hb1⟩
          have hbx := bstep hB0 hb1
          have hA1 := (hb1.block w.heap.size (by rw [World.size_alloc]; omega)).trans hA
          have hz1 := Nat.lt_of_lt_of_le (show w.heap.size < _ by rw [World.size_alloc]; exact Nat.lt_succ_self _) hb1.size
          have d1 := (hbx.cell (p := ⟨p, 1, none⟩) hpl).trans c1
          have hpx := Nat.lt_of_lt_of_le hpl hbx.size
          rw [Hf.out]
          have HA1 := Lib.hid hA1
          have HBX := Lib.hid hbx
          clear hb1 hA1 hbx hA hB0 c1
          go_wp2_with fail
          refine (HPut.out _ (HP.out.below ?_)).mono ?_
          · exact HBX.out.alloc (by omega) _
          rintro e w2 ⟨rfl, S', hp2, hS', ht2⟩
          have hSl := HP.out.2.1
          have hr2 := (ht2.block w.heap.size (by rw [World.size_alloc]; omega) (fun hs => by have := hSl _ hs; omega)).trans ((heap_alloc_old w1 _ hz1).trans HA1.out)
          obtain ⟨x0, x1, x2, x3⟩ := cells2 hr2
          have HR2 := Lib.hid hr2
          have hsz2 : w.heap.size < w2.heap.size := Nat.lt_of_lt_of_le hz1 (Nat.le_trans (by rw [World.size_alloc]; omega) ht2.size)
          have HP2 := Lib.hid hp2
          have HS2 : Hid (∀ g, S' g → S g ∨ w.heap.size < g) := Lib.hid (fun g hg => (hS' g hg).imp id (fun h => by rw [World.size_alloc] at h; omega))
          have HT2 : Hid (Touch S w w2) := Lib.hid ((Touch.of_below (S := S) (HBX.out.alloc (by omega) _)).trans ht2 (fun g hg => .inl hg))
          have HSl := Lib.hid hSl
          clear hp2 hS' ht2 hr2 d1 hSl
          obtain ⟨M, hM⟩ : ∃ M, l.flatten.length = M := ⟨_, rfl⟩
          rw [hM]
          have HM := Lib.hid hM
          clear hM
          go_wp2_with fail
          refine ret_cell3 (A := ⟨w.heap.size, 0, none⟩) rfl (load_content _ _ _ _ _ (two_set HR2.out _ _)) rfl rfl rfl rfl ?_
          obtain ⟨n1, n2, n3, n4⟩ := HN.out
          refine ⟨by rw [n1, n3, n4, HM.out]; rfl, S', ?_, fun g hg => (HS2.out g hg).imp id (fun h => by omega), touch_set _ (touch_set _ HT2.out (.inr (Nat.le_refl _))) (.inr (Nat.le_refl _))⟩
          rw [n2]
          refine HP2.out.keep (by simp only [set_size]; exact Nat.le_refl _) (fun g hg => ?_)
          have hgn : g ≠ w.heap.size := fun e => (HS2.out g hg).elim (fun h => by have := HSl.out g h; omega) (fun h => by omega)
          exact (set_other _ hgn).trans (set_other _ hgn)
end Go.Proofs.Ytjeeedbbdgjgeaa
