/- What Check of package asking, and of its reference, and the law's Own return. -/
import Derived.Test.YtgaojfebmcmpaaaGreatDoorAskRef
import Derived.Test.YtgaojfebmcmpaaaGreatDoorRetCell
namespace Go.Proofs.YtgaojfebmcmpaaaGreatDoor
open Go.RowKit

/-- may a request be? -/
def aErr (p h : List UInt8) (a b : Int) : Nat := if pathB p = false ∨ hostB h = false then 2 else rErr a b
theorem box4 (w : World) (x y z u : Value) (t : TypeId) : (w.alloc (.cells #[x, y, z, u] t)).cell? ⟨w.heap.size, 0, none⟩ = some x ∧ (w.alloc (.cells #[x, y, z, u] t)).cell? ⟨w.heap.size, 1, none⟩ = some y ∧ (w.alloc (.cells #[x, y, z, u] t)).cell? ⟨w.heap.size, 2, none⟩ = some z ∧ (w.alloc (.cells #[x, y, z, u] t)).cell? ⟨w.heap.size, 3, none⟩ = some u := by
  have hh := heap_alloc_new w (.cells #[x, y, z, u] t)
  refine ⟨?_, ?_, ?_, ?_⟩ <;> (unfold World.cell?; rw [hh]; rfl)
theorem below_agg4 (w : World) (x y z u : Value) (t : TypeId) : Below w.heap.size w (w.alloc (.cells #[x, y, z, u] t)) := (Below.refl _ _).alloc (Nat.le_refl _) _
theorem box_four {w w1 : World} {x y z u : Value} {t : TypeId} (hb : Below (w.alloc (.cells #[x, y, z, u] t)).heap.size (w.alloc (.cells #[x, y, z, u] t)) w1) : w1.cell? ⟨w.heap.size, 0, none⟩ = some x ∧ w1.cell? ⟨w.heap.size, 1, none⟩ = some y ∧ w1.cell? ⟨w.heap.size, 2, none⟩ = some z ∧ w1.cell? ⟨w.heap.size, 3, none⟩ = some u := by
  obtain ⟨a, b, c, d⟩ := box4 w x y z u t
  exact ⟨(hb.cell (p := ⟨w.heap.size, 0, none⟩) (by simp)).trans a, (hb.cell (p := ⟨w.heap.size, 1, none⟩) (by simp)).trans b, (hb.cell (p := ⟨w.heap.size, 2, none⟩) (by simp)).trans c, (hb.cell (p := ⟨w.heap.size, 3, none⟩) (by simp)).trans d⟩
set_option maxRecDepth 100000 in
set_option maxHeartbeats 1000000 in
theorem asking_check (p h : ByteArray) (a b : Int) (w : World) :
    Calls Tryz.prog 21 #[.agg #[.string p, .string h, .int .i64 a, .int .i64 b]] w fun e w' => e = .returned (.int .i64 (aErr p.data.toList h.data.toList a b : Nat)) ∧ Below w.heap.size w w' := by
  have HP := Lib.hid (fun w => asking_path p w)
  have HH := Lib.hid (fun w => asking_host h w)
  have HC := Lib.hid (fun w => ranges_check a b w)
  cases hp : pathB p.data.toList with
  | false =>
    have HR : Hid (aErr p.data.toList h.data.toList a b = 2) := Lib.hid (if_pos (.inl hp))
    rw [hp] at HP
    clear hp
    go_enter Tryz.func21, Tryz.ntmps21
    go_wp2_with fail
    refine (HP.out _).mono ?_
    rintro e w1 ⟨rfl, hb1⟩
    go_wp2_with fail
    go_ret
    exact ⟨by rw [HR.out]; rfl, bstep (below_agg4 w _ _ _ _ _) hb1⟩
  | true =>
    rw [hp] at HP
    cases hh : hostB h.data.toList with
    | false =>
      have HR : Hid (aErr p.data.toList h.data.toList a b = 2) := Lib.hid (if_pos (.inr hh))
      rw [hh] at HH
      clear hp hh
      go_enter Tryz.func21, Tryz.ntmps21
      go_wp2_with fail
      refine (HP.out _).mono ?_
      rintro e w1 ⟨rfl, hb1⟩
      obtain ⟨c0, c1, c2, c3⟩ := box_four hb1
      have HB1 := Lib.hid (bstep (below_agg4 w _ _ _ _ _) hb1)
      clear hb1
      go_wp2_with fail
      refine (HH.out _).mono ?_
      rintro e w2 ⟨rfl, hb2⟩
      go_wp2_with fail
      go_ret
      exact ⟨by rw [HR.out]; rfl, bstep HB1.out hb2⟩
    | true =>
      have HR : Hid (aErr p.data.toList h.data.toList a b = rErr a b) := Lib.hid (if_neg (fun e => e.elim (fun e => by rw [hp] at e; exact absurd e (by decide)) (fun e => by rw [hh] at e; exact absurd e (by decide))))
      rw [hh] at HH
      clear hp hh
      go_enter Tryz.func21, Tryz.ntmps21
      go_wp2_with fail
      refine (HP.out _).mono ?_
      rintro e w1 ⟨rfl, hb1⟩
      obtain ⟨c0, c1, c2, c3⟩ := box_four hb1
      have HB1 := Lib.hid hb1
      clear hb1
      go_wp2_with fail
      refine (HH.out _).mono ?_
      rintro e w2 ⟨rfl, hb2⟩
      have HB2 := Lib.hid (bstep HB1.out hb2)
      obtain ⟨c0, c1, c2, c3⟩ := box_four HB2.out
      clear hb2
      go_wp2_with fail
      refine (HC.out _).mono ?_
      rintro e w3 ⟨rfl, hb3⟩
      go_wp2_with fail
      go_ret
      exact ⟨by rw [HR.out]; rfl, bstep (below_agg4 w _ _ _ _ _) (bstep HB2.out hb3)⟩
set_option maxRecDepth 100000 in
set_option maxHeartbeats 1000000 in
theorem ref_acheck (p h : ByteArray) (a b : Int) (w : World) (hps : p.size ≤ 9223372036854775807) (hhs : h.size ≤ 9223372036854775807) :
    Calls Tryz.prog 22 #[.agg #[.string p, .string h, .int .i64 a, .int .i64 b]] w fun e w' => e = .returned (.int .i64 (aErr p.data.toList h.data.toList a b : Nat)) ∧ Below w.heap.size w w' := by
  have HP := Lib.hid (fun w => ref_path p w hps)
  have HH := Lib.hid (fun w => ref_host h w hhs)
  have HC := Lib.hid (fun w => ref_rcheck a b w)
  cases hp : pathB p.data.toList with
  | false =>
    have HR : Hid (aErr p.data.toList h.data.toList a b = 2) := Lib.hid (if_pos (.inl hp))
    rw [hp] at HP
    clear hp
    go_enter Tryz.func22, Tryz.ntmps22
    go_wp2_with fail
    refine (HP.out _).mono ?_
    rintro e w' ⟨rfl, rfl⟩
    go_wp2_with fail
    go_ret
    exact ⟨by rw [HR.out]; rfl, below_agg4 w _ _ _ _ _⟩
  | true =>
    rw [hp] at HP
    cases hh : hostB h.data.toList with
    | false =>
      have HR : Hid (aErr p.data.toList h.data.toList a b = 2) := Lib.hid (if_pos (.inr hh))
      rw [hh] at HH
      clear hp hh
      go_enter Tryz.func22, Tryz.ntmps22
      go_wp2_with fail
      refine (HP.out _).mono ?_
      rintro e w' ⟨rfl, rfl⟩
      go_wp2_with fail
      refine (HH.out _).mono ?_
      rintro e w' ⟨rfl, rfl⟩
      go_wp2_with fail
      go_ret
      exact ⟨by rw [HR.out]; rfl, below_agg4 w _ _ _ _ _⟩
    | true =>
      have HR : Hid (aErr p.data.toList h.data.toList a b = rErr a b) := Lib.hid (if_neg (fun e => e.elim (fun e => by rw [hp] at e; exact absurd e (by decide)) (fun e => by rw [hh] at e; exact absurd e (by decide))))
      rw [hh] at HH
      clear hp hh
      go_enter Tryz.func22, Tryz.ntmps22
      go_wp2_with fail
      refine (HP.out _).mono ?_
      rintro e w' ⟨rfl, rfl⟩
      go_wp2_with fail
      refine (HH.out _).mono ?_
      rintro e w' ⟨rfl, rfl⟩
      go_wp2_with fail
      refine (HC.out _).mono ?_
      rintro e w3 ⟨rfl, hb3⟩
      go_wp2_with fail
      go_ret
      exact ⟨by rw [HR.out]; rfl, bstep (below_agg4 w _ _ _ _ _) hb3⟩
theorem load_req (w : World) (b : Nat) (t : TypeId) (x y z u : Value) (h : w.heap[b]? = some (.cells #[x, y, z, u] t (0, 0))) : (loadVar 32 ⟨b, 0, none⟩).run Tryz.prog w = .ok (.agg #[x, y, z, u]) w :=
  run_loadVar_row w b t 32 #[x, y, z, u] (0, 0) _ h Tryz.underlying32 rfl (by kernel_rfl)
theorem load_rreq (w : World) (b : Nat) (t : TypeId) (x y z u : Value) (h : w.heap[b]? = some (.cells #[x, y, z, u] t (0, 0))) : (loadVar 25 ⟨b, 0, none⟩).run Tryz.prog w = .ok (.agg #[x, y, z, u]) w :=
  run_loadVar_row w b t 25 #[x, y, z, u] (0, 0) _ h Tryz.underlying25 rfl (by kernel_rfl)
theorem four_set {w : World} {b : Nat} {x y z u : Value} {t : TypeId} (h : w.heap[b]? = some (.cells #[x, y, z, u] t (0, 0))) (x' y' z' u' : Value) :
    ((((w.setCell ⟨b, 0, none⟩ x').setCell ⟨b, 1, none⟩ y').setCell ⟨b, 2, none⟩ z').setCell ⟨b, 3, none⟩ u').heap[b]? = some (.cells #[x', y', z', u'] t (0, 0)) := by
  simp [World.setCell, Array.getElem?_modify, h]
theorem four_below {B : Nat} {w0 w : World} (h : Below B w0 w) (b : Nat) (hB : B ≤ b) (x' y' z' u' : Value) : Below B w0 ((((w.setCell ⟨b, 0, none⟩ x').setCell ⟨b, 1, none⟩ y').setCell ⟨b, 2, none⟩ z').setCell ⟨b, 3, none⟩ u') :=
  (((h.setCell (p := ⟨b, 0, none⟩) hB _).setCell (p := ⟨b, 1, none⟩) hB _).setCell (p := ⟨b, 2, none⟩) hB _).setCell (p := ⟨b, 3, none⟩) hB _
set_option maxRecDepth 100000 in
theorem law_ownq (p h : ByteArray) (a b : Int) (w : World) :
    Calls Tryz.prog 17 #[.agg #[.string p, .string h, .int .i64 a, .int .i64 b]] w fun e w' => e = .returned (.agg #[.string p, .string h, .int .i64 a, .int .i64 b]) ∧ Below w.heap.size w w' := by
  go_enter Tryz.func17, Tryz.ntmps17
  go_wp2_with fail
  refine ret_cell (A := ⟨w.heap.size + 1, 0, none⟩) rfl (load_req _ _ _ _ _ _ _ (heap_alloc2_new w _ _)) rfl rfl ?_
  exact ⟨rfl, ((Below.refl _ _).alloc (Nat.le_refl _) _).alloc (by simp) _⟩
end Go.Proofs.YtgaojfebmcmpaaaGreatDoor
