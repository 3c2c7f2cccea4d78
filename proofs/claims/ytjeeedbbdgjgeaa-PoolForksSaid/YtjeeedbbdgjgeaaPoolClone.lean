/- What slices.Clone and maps.Clone return at the types of a pool. -/
import Derived.Test.YtjeeedbbdgjgeaaPoolOncePl
import Derived.ArgAppend
import Derived.Shelf.SlMaps.Clone
namespace Go.Proofs.Ytjeeedbbdgjgeaa
open Go.RowKit Go.Maps PoolPlain
theorem cell_far (w : World) (j : Nat) (u : Value) (g : Nat) (h : w.cell? ((⟨g, 0, none⟩ : Addr).add j) = some u) (hg : g < w.heap.size) {o : Obj} : (w.alloc o).cell? ((⟨g, 0, none⟩ : Addr).add j) = some u := by
  rw [at_plain] at h ⊢
  exact (World.cell?_of_block (w := w) (a := ⟨g, 0 + j, none⟩) (heap_alloc_old w o hg)).trans h
theorem own_lower {w : World} {base base' : Nat} {e : TypeId} {size : Nat} {v : Value} {n : Nat} {xs : List Value} (h : w.ownsRow base e size v n xs) (hb : base' ≤ base) : w.ownsRow base' e size v n xs := by
  refine ⟨h.1, ?_⟩
  rcases h.2 with hn | ⟨g, cap, cur, h1, h2, h3⟩
  · exact .inl hn
  · exact .inr ⟨g, cap, cur, h1, Nat.le_trans hb h2, h3⟩
theorem below_grow (w : World) (o : Obj) {w1 : World} (h : (w.alloc o).grownBy w1 none) : Below w.heap.size w w1 :=
  (own_new w o _ (Nat.le_refl _)).grown h (by rw [World.size_alloc]; omega) (fun k hk => by cases hk)
/-- slices.Clone of bytes: the same in memory of the call's own -/
theorem clone_text (v : Value) (n : Nat) (xs : List Value) (base : Nat) (w : World) (hown : w.ownsRow base 5 1 v n xs) (hn : 0 < n) (hl : n ≤ 134217728) (h1 : ∀ u ∈ xs, u.oneCell' = true) :
    Calls Try.prog 38 #[v] w fun e w' => ∃ v', e = .returned v' ∧ w'.ownsRow w.heap.size 5 1 v' n xs ∧ Below w.heap.size w w' := by
  obtain ⟨g, cap, rfl, -, hg⟩ := hown.form hn
  have hc := hown.cells (g := g) rfl
  have hlen := hown.1
  have HC := Lib.hid (And.intro hc (And.intro hlen h1))
  obtain ⟨i0, hi, hz0, hz1, hz2⟩ := info_parts info_byte
  have q : ∀ (w : World), (binOp .eql 29 (.slice (some ⟨g, 0, none⟩) n cap) (.slice none 0 0)).run Try.prog w = .ok (.bool false) w := fun w => Lib.run_eql_slice_nil w 29 5 _ n cap 0 0 Try.underlying29
  clear hc hlen h1 hown
  go_enter Try.func38, Try.ntmps38
  go_wp2_with (at_builtin; (refine wpList_append_grows _ rfl _ _ 29 rfl 5 i0 _ 1 1 Try.underlying29 hi hz0 hz1 hz2 rfl (by decide) (some ⟨w.heap.size, 0, none⟩) 0 0 [] rfl (by intro h; cases h) rfl (by intro b hb j u hu; simp at hu) ⟨g, 0, none⟩ n cap xs rfl HC.out.2.1 (fun j u hu => ?hcell) HC.out.2.2 (by omega) (by unfold maxLen; omega) (by omega) ?_); (case hcell => (have h := HC.out.1 j u hu; exact (cell_far w j u g h hg))); intro v' w1 hown1 hg1)
  go_ret
  rw [Nat.zero_add, List.nil_append] at hown1
  exact ⟨v', rfl, own_lower hown1 (by rw [World.size_alloc]; omega), below_grow w _ hg1⟩
/-- slices.Clone of places: the same in memory of the call's own -/
theorem clone_places (v : Value) (n : Nat) (xs : List Value) (base : Nat) (w : World) (hown : w.ownsRow base 39 2 v n xs) (hn : 0 < n) (hl : n ≤ 134217728) (h1 : ∀ u ∈ xs, u.oneCell' = true) :
    Calls Try.prog 39 #[v] w fun e w' => ∃ v', e = .returned v' ∧ w'.ownsRow w.heap.size 39 2 v' n xs ∧ Below w.heap.size w w' := by
  obtain ⟨g, cap, rfl, -, hg⟩ := hown.form hn
  have hc := hown.cells (g := g) rfl
  have hlen := hown.1
  have HC := Lib.hid (And.intro hc (And.intro hlen h1))
  obtain ⟨i0, hi, hz0, hz1, hz2⟩ := info_parts info_content
  have q : ∀ (w : World), (binOp .eql 56 (.slice (some ⟨g, 0, none⟩) n cap) (.slice none 0 0)).run Try.prog w = .ok (.bool false) w := fun w => Lib.run_eql_slice_nil w 56 39 _ n cap 0 0 Try.underlying56
  clear hc hlen h1 hown
  go_enter Try.func39, Try.ntmps39
  go_wp2_with (at_builtin; (refine wpList_append_grows _ rfl _ _ 56 rfl 39 i0 _ 2 16 Try.underlying56 hi hz0 hz1 hz2 rfl (by decide) (some ⟨w.heap.size, 0, none⟩) 0 0 [] rfl (by intro h; cases h) rfl (by intro b hb j u hu; simp at hu) ⟨g, 0, none⟩ n cap xs rfl HC.out.2.1 (fun j u hu => ?hcell) HC.out.2.2 (by omega) (by unfold maxLen; omega) (by omega) ?_); (case hcell => (have h := HC.out.1 j u hu; exact (cell_far w j u g h hg))); intro v' w1 hown1 hg1)
  go_ret
  rw [Nat.zero_add, List.nil_append] at hown1
  exact ⟨v', rfl, own_lower hown1 (by rw [World.size_alloc]; omega), below_grow w _ hg1⟩
/-- slices.Clone of numbers: the same in memory of the call's own -/
theorem clone_row (v : Value) (n : Nat) (xs : List Value) (base : Nat) (w : World) (hown : w.ownsRow base 3 1 v n xs) (hn : 0 < n) (hl : n ≤ 134217728) (h1 : ∀ u ∈ xs, u.oneCell' = true) :
    Calls Try.prog 41 #[v] w fun e w' => ∃ v', e = .returned v' ∧ w'.ownsRow w.heap.size 3 1 v' n xs ∧ Below w.heap.size w w' := by
  obtain ⟨g, cap, rfl, -, hg⟩ := hown.form hn
  have hc := hown.cells (g := g) rfl
  have hlen := hown.1
  have HC := Lib.hid (And.intro hc (And.intro hlen h1))
  obtain ⟨i0, hi, hz0, hz1, hz2⟩ := info_parts info_int
  have q : ∀ (w : World), (binOp .eql 70 (.slice (some ⟨g, 0, none⟩) n cap) (.slice none 0 0)).run Try.prog w = .ok (.bool false) w := fun w => Lib.run_eql_slice_nil w 70 3 _ n cap 0 0 Try.underlying70
  clear hc hlen h1 hown
  go_enter Try.func41, Try.ntmps41
  go_wp2_with (at_builtin; (refine wpList_append_grows _ rfl _ _ 70 rfl 3 i0 _ 1 8 Try.underlying70 hi hz0 hz1 hz2 rfl (by decide) (some ⟨w.heap.size, 0, none⟩) 0 0 [] rfl (by intro h; cases h) rfl (by intro b hb j u hu; simp at hu) ⟨g, 0, none⟩ n cap xs rfl HC.out.2.1 (fun j u hu => ?hcell) HC.out.2.2 (by omega) (by unfold maxLen; omega) (by omega) ?_); (case hcell => (have h := HC.out.1 j u hu; exact (cell_far w j u g h hg))); intro v' w1 hown1 hg1)
  go_ret
  rw [Nat.zero_add, List.nil_append] at hown1
  exact ⟨v', rfl, own_lower hown1 (by rw [World.size_alloc]; omega), below_grow w _ hg1⟩
theorem clone_nil1 (w : World) : Calls Try.prog 38 #[.slice none 0 0] w fun e w' => e = .returned (.slice none 0 0) ∧ w' = w := by
  have q : ∀ (w : World), (binOp .eql 29 (.slice none 0 0) (.slice none 0 0)).run Try.prog w = .ok (.bool true) w := fun w => Lib.run_eql_slice_nil w 29 5 _ 0 0 0 0 Try.underlying29
  go_enter Try.func38, Try.ntmps38
  go_wp2_with fail
  go_ret
  exact ⟨rfl, rfl⟩
theorem clone_nil2 (w : World) : Calls Try.prog 39 #[.slice none 0 0] w fun e w' => e = .returned (.slice none 0 0) ∧ w' = w := by
  have q : ∀ (w : World), (binOp .eql 56 (.slice none 0 0) (.slice none 0 0)).run Try.prog w = .ok (.bool true) w := fun w => Lib.run_eql_slice_nil w 56 39 _ 0 0 0 0 Try.underlying56
  go_enter Try.func39, Try.ntmps39
  go_wp2_with fail
  go_ret
  exact ⟨rfl, rfl⟩
theorem clone_nil3 (w : World) : Calls Try.prog 41 #[.slice none 0 0] w fun e w' => e = .returned (.slice none 0 0) ∧ w' = w := by
  have q : ∀ (w : World), (binOp .eql 70 (.slice none 0 0) (.slice none 0 0)).run Try.prog w = .ok (.bool true) w := fun w => Lib.run_eql_slice_nil w 70 3 _ 0 0 0 0 Try.underlying70
  go_enter Try.func41, Try.ntmps41
  go_wp2_with fail
  go_ret
  exact ⟨rfl, rfl⟩
theorem maps_clone (b : Nat) (es : Array MapEntry) (clock : Nat) (w : World) (hb : w.heap[b]? = some (.map es clock)) :
    Calls Try.prog 40 #[.map (some b)] w fun e w' => e = .returned (.map (some w.heap.size)) ∧ w' = w.alloc (.map es clock) := by
  have hq := fun w => run_eql_map_nil_sl (P := Try.prog) w 59 _ _ (some b) Try.underlying59
  go_enter Try.func40, Try.ntmps40
  go_wp2_with fail
  rw [run_callFunc_extern Try.func51 (by kernel_rfl) (by kernel_rfl) (by kernel_rfl) (e := Extern.MapsClone.clone) (by kernel_rfl), run_maps_clone_sl w 59 hb]
  simp only [Result.andThen]
  rw [Oper.upon_value]
  go_wp2_with fail
  rw [run_typeAssert_map_sl _ 59 20 _ _ _ Try.underlying59]
  simp only [Result.andThen]
  rw [Oper.upon_value]
  go_wp2_with fail
  go_ret
  exact ⟨rfl, rfl⟩
end Go.Proofs.Ytjeeedbbdgjgeaa
