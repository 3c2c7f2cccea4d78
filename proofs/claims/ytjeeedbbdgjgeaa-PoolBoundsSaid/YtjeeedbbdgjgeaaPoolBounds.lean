/- The law PoolBounds returns true. -/
import Derived.Test.YtjeeedbbdgjgeaaPoolNobody
namespace Go.Proofs.Ytjeeedbbdgjgeaa
open Go.RowKit Go.Maps PoolPlain
/-- the contents of the law -/
def rep (c : UInt8) : List UInt8 := Lib.repeatL [c] 65536
def item (c : UInt8) (i : Nat) : List UInt8 := [c, UInt8.ofNat i, UInt8.ofNat (i / 256)]
def poolL (c : UInt8) (k : Nat) : List (List UInt8) := rep c :: (List.range k).map (fun j => item c (j + 1))
theorem rep_len (c : UInt8) : (rep c).length = 65536 := by
  have gen : ∀ n, (Lib.repeatL [c] n).length = n := by
    intro n
    induction n with
    | zero => rfl
    | succ n ih => simp [Lib.repeatL, ih]
  exact gen 65536
theorem poolL_succ (c : UInt8) (k : Nat) : poolL c (k + 1) = poolL c k ++ [item c (k + 1)] := by
  unfold poolL; rw [List.range_succ, List.map_append]; rfl
theorem poolL_len (c : UInt8) (k : Nat) : (poolL c k).length = k + 1 := by simp [poolL]
theorem item_inj (c : UInt8) (i j : Nat) (hi : i < 65536) (hj : j < 65536) (h : item c i = item c j) : i = j := by
  unfold item at h
  injection h with _ h
  injection h with h1 h
  injection h with h2 _
  have e1 := congrArg UInt8.toNat h1
  have e2 := congrArg UInt8.toNat h2
  rw [UInt8.toNat_ofNat', UInt8.toNat_ofNat'] at e1 e2
  omega
theorem item_new (c : UInt8) (k : Nat) (hk : k < 65536) : item c k ∉ poolL c (k - 1) := by
  unfold poolL
  intro h
  rcases List.mem_cons.1 h with h | h
  · have := congrArg List.length h
    rw [rep_len] at this
    simp [item] at this
  · obtain ⟨j, hj, e⟩ := List.mem_map.1 h
    have hj := List.mem_range.1 hj
    have := item_inj c (j + 1) k (by omega) hk e
    omega
theorem poolL_ok (c : UInt8) (k : Nat) (hk : k ≤ 2047) : OkL (poolL c k) := by
  induction k with
  | zero =>
    have h := okL_snoc [] (rep c) okL_nil (fun e => by have := rep_len c; rw [e] at this; exact absurd this (by decide)) (by rw [rep_len]; exact Nat.le_refl _) (by simp) (by decide)
    exact h
  | succ k ih =>
    rw [poolL_succ]
    exact okL_snoc _ _ (ih (by omega)) (by simp [item]) (by simp [item]) (item_new c (k + 1) (by omega)) (by rw [poolL_len]; omega)
theorem addC_some (l : List (List UInt8)) (s : List UInt8) : ∃ x y, addC l s = (x, y) := ⟨(addC l s).1, (addC l s).2, rfl⟩
theorem rep_data (c : UInt8) : (⟨(Lib.repeatL (bs [c]).data.toList 65536).toArray⟩ : ByteArray) = bs (rep c) := by rw [bs_data]; rfl
theorem one_size (c : UInt8) : (bs [c]).size * 65536 ≤ 140737488355328 := by rw [bs_size]; show 1 * 65536 ≤ _; omega
theorem pool_step (c : UInt8) (k : Nat) (hk : k < 2047) : addIs (poolL c k) (item c (k + 1)) = true ∧ addE (poolL c k) (item c (k + 1)) = 0 ∧ addL (poolL c k) (item c (k + 1)) = poolL c (k + 1) := by
  obtain ⟨h1, h2, -, h4⟩ := add_new (poolL c k) (item c (k + 1)) (by simp [item]) (by simp [item]) (item_new c (k + 1) (by omega)) (by rw [poolL_len]; omega)
  exact ⟨h1, h4, by rw [h2, poolL_succ]⟩
theorem pool_first (c : UInt8) : addIs [] (rep c) = true ∧ addE [] (rep c) = 0 ∧ addL [] (rep c) = poolL c 0 := by
  obtain ⟨h1, h2, -, h4⟩ := add_new [] (rep c) (fun e => by have := rep_len c; rw [e] at this; exact absurd this (by decide)) (by rw [rep_len]; exact Nat.le_refl _) (by simp) (by decide)
  exact ⟨h1, h4, h2⟩
theorem pool_long (c : UInt8) : addIs (poolL c 0) (rep c ++ [120]) = false ∧ addE (poolL c 0) (rep c ++ [120]) = 5 ∧ addL (poolL c 0) (rep c ++ [120]) = poolL c 0 := by
  have hl : (rep c ++ [120]).length = 65537 := by rw [List.length_append, rep_len]; rfl
  obtain ⟨h1, h2, -⟩ := add_old (poolL c 0) (rep c ++ [120]) (fun h => by have := h.2.1; omega)
  refine ⟨h1, ?_, h2⟩
  unfold addE
  rw [if_neg (fun e => by rw [e] at hl; exact absurd hl (by decide)), if_pos (by omega)]
theorem pool_full (c : UInt8) : addIs (poolL c 2047) [102, 117, 108, 108] = false ∧ addE (poolL c 2047) [102, 117, 108, 108] = 7 ∧ addL (poolL c 2047) [102, 117, 108, 108] = poolL c 2047 := by
  have hn : [102, 117, 108, 108] ∉ poolL c 2047 := by
    unfold poolL
    intro h
    rcases List.mem_cons.1 h with h | h
    · have := congrArg List.length h
      rw [rep_len] at this
      exact absurd this (by decide)
    · obtain ⟨j, -, e⟩ := List.mem_map.1 h
      have := congrArg List.length e
      exact absurd this (by simp [item])
  obtain ⟨h1, h2, -⟩ := add_old (poolL c 2047) [102, 117, 108, 108] (fun h => by have := h.2.2.2; rw [poolL_len] at this; omega)
  refine ⟨h1, ?_, h2⟩
  unfold addE
  rw [if_neg (by decide), if_neg (by decide), if_neg hn, if_pos (by rw [poolL_len]; omega)]
theorem pool_old (c : UInt8) (k : Nat) (h1 : 1 ≤ k) (h2 : k ≤ 2047) : addIs (poolL c 2047) (item c k) = false ∧ addE (poolL c 2047) (item c k) = 0 ∧ addL (poolL c 2047) (item c k) = poolL c 2047 := by
  have hm : item c k ∈ poolL c 2047 := by
    unfold poolL
    exact List.mem_cons_of_mem _ (List.mem_map.2 ⟨k - 1, List.mem_range.2 (by omega), by rw [show k - 1 + 1 = k by omega]⟩)
  obtain ⟨g1, g2, -⟩ := add_old (poolL c 2047) (item c k) (fun h => h.2.2.1 hm)
  refine ⟨g1, ?_, g2⟩
  unfold addE
  rw [if_neg (by simp [item]), if_neg (by simp [item]), if_pos hm]
theorem bytes_of (W : World) (l : List UInt8) (n : Nat) (hn : l.length = n) (cs : Array Value) (hcs : cs.toList = bytesV l) : (convert 29 9 (.slice (some ⟨W.heap.size, 0, none⟩) n n)).run Try.prog (W.alloc (.cells cs 5)) = .ok (.string (bs l)) (W.alloc (.cells cs 5)) := by
  subst hn
  refine run_convert_bytes_back (P := Try.prog) _ 29 9 5 ⟨W.heap.size, 0, none⟩ l.length l Try.underlying29 Try.underlying5 Try.underlying9 (fun j hj => ?_)
  rw [at_plain, Nat.zero_add, cell_of_row _ _ _ _ _ (0, 0) (block_alloc W _), ← Array.getElem?_toList, hcs]
  exact bytesV_get l j hj
theorem bytes3 (c : UInt8) (k : Nat) (x : Int) (hx : x = (k : Int)) (hk : k < 65536) (W : World) : (convert 29 9 (.slice (some ⟨W.heap.size, 0, none⟩) 3 3)).run Try.prog (W.alloc (.cells #[.int .u8 (c.toNat : Int), .int .u8 (x % 256), .int .u8 (x / 256)] 5)) = .ok (.string (bs (item c k))) (W.alloc (.cells #[.int .u8 (c.toNat : Int), .int .u8 (x % 256), .int .u8 (x / 256)] 5)) := by
  refine bytes_of W (item c k) 3 rfl _ ?_
  subst hx
  have e1 : ((UInt8.ofNat k).toNat : Int) = (k : Int) % 256 := by rw [UInt8.toNat_ofNat']; omega
  have e2 : ((UInt8.ofNat (k / 256)).toNat : Int) = (k : Int) / 256 := by rw [UInt8.toNat_ofNat']; omega
  simp only [bytesV, item, List.map_cons, List.map_nil, e1, e2]
end Go.Proofs.Ytjeeedbbdgjgeaa
