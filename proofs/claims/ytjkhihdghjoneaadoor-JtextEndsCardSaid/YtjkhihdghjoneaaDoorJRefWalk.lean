/- What Bytes and Rune of the reference of jtext return. -/
import Derived.Test.YtjkhihdghjoneaaDoorJRefPlain
import Derived.Test.YtjkhihdghjoneaaDoorJQuiet
namespace Go.Proofs.YtjkhihdghjoneaaDoor
open Go.RowKit

theorem conv_list (W : World) (zs : List Int) (h : ∀ z ∈ zs, 0 ≤ z ∧ z < 256) :
    (convert 35 9 (.slice (some ⟨W.heap.size, 0, none⟩) zs.length zs.length)).run Tryd.prog (W.alloc (.cells (zs.map (Value.int .u8)).toArray 5)) = .ok (.string (bs (zs.map fun x => x.toNat.toUInt8))) (W.alloc (.cells (zs.map (Value.int .u8)).toArray 5)) := by
  have := run_convert_bytes_back (P := Tryd.prog) (W.alloc (.cells (zs.map (Value.int .u8)).toArray 5)) 35 9 5 ⟨W.heap.size, 0, none⟩ zs.length (zs.map fun x => x.toNat.toUInt8) Tryd.underlying35 Tryd.underlying5 Tryd.underlying9 (fun j hj => by
    rw [List.length_map] at hj
    have e : (W.alloc (.cells (zs.map (Value.int .u8)).toArray 5)).cell? (Addr.add ⟨W.heap.size, 0, none⟩ j) = some (.int .u8 zs[j]) := by
      have := World.cell?_alloc_new W (zs.map (Value.int .u8)).toArray 5 (0 + j)
      rw [show Addr.add ⟨W.heap.size, 0, none⟩ j = ⟨W.heap.size, 0 + j, none⟩ by unfold Addr.add; split <;> simp_all, this, Nat.zero_add]
      simp [hj]
    rw [e, List.getElem_map]
    have := h zs[j] (List.getElem_mem hj)
    rw [byte_z _ this.1 this.2]
    congr 2; omega)
  rw [List.length_map] at this
  exact this
theorem refB_of (c : Nat) (zs : List Int) (hg : c < 55296 ∨ (57343 < c ∧ c ≤ 1114111)) (h : Go.Lib.encodeRuneZ (c : Int) = zs) : (zs.map fun x => x.toNat.toUInt8) = refB c := by
  unfold refB Go.Lib.encodeRune; rw [if_pos hg, h]
theorem refB_no (c : Nat) (hg : ¬ (c < 55296 ∨ (57343 < c ∧ c ≤ 1114111))) : refB c = [] := if_neg hg
set_option maxRecDepth 100000 in
set_option maxHeartbeats 1000000 in
theorem ref_bytes (c : Nat) (w : World) (hc : c ≤ 100000000) : Calls Tryd.prog 26 #[.int .i64 (c : Int)] w fun e w' => e = .returned (.string (bs (refB c))) ∧ Below w.heap.size w w' := by
  have t0 : decide ((c : Int) < 0) = false := decide_eq_false (by omega)
  by_cases h1 : 1114111 < c
  · have H : Hid (refB c = []) := Lib.hid (refB_no c (by omega))
    have t1 : decide ((c : Int) > 1114111) = true := decide_eq_true (by omega)
    go_enter Tryd.func26, Tryd.ntmps26
    go_wp2_with fail
    go_ret
    exact ⟨by rw [H.out]; rfl, Below.refl _ _⟩
  have t1 : decide ((c : Int) > 1114111) = false := decide_eq_false (by omega)
  by_cases h2 : 55296 ≤ c ∧ c ≤ 57343
  · have H : Hid (refB c = []) := Lib.hid (refB_no c (by omega))
    have t2 : decide ((c : Int) ≥ 55296) = true := decide_eq_true (by omega)
    have t3 : decide ((c : Int) ≤ 57343) = true := decide_eq_true (by omega)
    clear h1 h2
    go_enter Tryd.func26, Tryd.ntmps26
    go_wp2_with fail
    go_ret
    exact ⟨by rw [H.out]; rfl, Below.refl _ _⟩
  by_cases h3 : c < 128
  · have t2 : decide ((c : Int) ≥ 55296) = false := decide_eq_false (by omega)
    have t4 : decide ((c : Int) < 128) = true := decide_eq_true (by omega)
    have k := conv_list w [(c : Int)] (by intro z hz; simp at hz; omega)
    rw [refB_of c _ (by omega) (Go.Lib.encodeRuneZ_one (by omega) (by omega))] at k
    simp only [List.map_cons, List.map_nil, List.length_cons, List.length_nil, Nat.reduceAdd] at k
    generalize bs (refB c) = R at k ⊢
    clear h1 h2
    go_enter Tryd.func26, Tryd.ntmps26
    go_wp2_with fail
    go_ret
    exact ⟨rfl, (Below.refl _ _).alloc (Nat.le_refl _) _⟩
  have t4 : decide ((c : Int) < 128) = false := decide_eq_false (by omega)
  by_cases h4 : c < 2048
  · have t2 : decide ((c : Int) ≥ 55296) = false := decide_eq_false (by omega)
    have t5 : decide ((c : Int) < 2048) = true := decide_eq_true (by omega)
    have k := conv_list w [192 + (c : Int) / 64, 128 + (c : Int) % 64] (by intro z hz; simp at hz; omega)
    rw [refB_of c _ (by omega) (Go.Lib.encodeRuneZ_two (by omega) (by omega))] at k
    simp only [List.map_cons, List.map_nil, List.length_cons, List.length_nil, Nat.reduceAdd] at k
    generalize bs (refB c) = R at k ⊢
    clear h1 h2
    go_enter Tryd.func26, Tryd.ntmps26
    go_wp2_with fail
    go_ret
    exact ⟨rfl, (Below.refl _ _).alloc (Nat.le_refl _) _⟩
  have t5 : decide ((c : Int) < 2048) = false := decide_eq_false (by omega)
  by_cases h5 : c < 65536
  · have t6 : decide ((c : Int) < 65536) = true := decide_eq_true (by omega)
    have k := conv_list w [224 + (c : Int) / 4096, 128 + (c : Int) / 64 % 64, 128 + (c : Int) % 64] (by intro z hz; simp at hz; omega)
    rw [refB_of c _ (by omega) (Go.Lib.encodeRuneZ_three (by omega))] at k
    simp only [List.map_cons, List.map_nil, List.length_cons, List.length_nil, Nat.reduceAdd] at k
    generalize bs (refB c) = R at k ⊢
    by_cases h6 : c < 55296
    · have t2 : decide ((c : Int) ≥ 55296) = false := decide_eq_false (by omega)
      clear h1 h2
      go_enter Tryd.func26, Tryd.ntmps26
      go_wp2_with fail
      go_ret
      exact ⟨rfl, (Below.refl _ _).alloc (Nat.le_refl _) _⟩
    · have t2 : decide ((c : Int) ≥ 55296) = true := decide_eq_true (by omega)
      have t3 : decide ((c : Int) ≤ 57343) = false := decide_eq_false (by omega)
      clear h1 h2
      go_enter Tryd.func26, Tryd.ntmps26
      go_wp2_with fail
      go_ret
      exact ⟨rfl, (Below.refl _ _).alloc (Nat.le_refl _) _⟩
  · have t6 : decide ((c : Int) < 65536) = false := decide_eq_false (by omega)
    have t2 : decide ((c : Int) ≥ 55296) = true := decide_eq_true (by omega)
    have t3 : decide ((c : Int) ≤ 57343) = false := decide_eq_false (by omega)
    have k := conv_list w [240 + (c : Int) / 262144, 128 + (c : Int) / 4096 % 64, 128 + (c : Int) / 64 % 64, 128 + (c : Int) % 64] (by intro z hz; simp at hz; omega)
    rw [refB_of c _ (by omega) (Go.Lib.encodeRuneZ_four (by omega) (by omega))] at k
    simp only [List.map_cons, List.map_nil, List.length_cons, List.length_nil, Nat.reduceAdd] at k
    generalize bs (refB c) = R at k ⊢
    clear h2
    go_enter Tryd.func26, Tryd.ntmps26
    go_wp2_with fail
    go_ret
    exact ⟨rfl, (Below.refl _ _).alloc (Nat.le_refl _) _⟩
end Go.Proofs.YtjkhihdghjoneaaDoor
