/- Slices of fields in memory; what Get of package fields returns. -/
import Derived.Test.YtgaojfebmcmpaaaGreatDoorBs
import Derived.Laws.Rows
namespace Go.Proofs.YtgaojfebmcmpaaaGreatDoor
open Go.RowKit

/-- the slice v reads, in the world w, as the fields fs. -/
def HoldsF (w : World) (v : Value) (fs : List (List UInt8 × List UInt8)) : Prop :=
  ∃ a c, v = .slice a fs.length c ∧ fs.length ≤ c ∧ (fs ≠ [] → ∃ b o, a = some ⟨b, o, none⟩ ∧ b < w.heap.size ∧ ∀ j (hj : j < fs.length), w.cell? ⟨b, o + j * 2, none⟩ = some (.string (bs fs[j].1)) ∧ w.cell? ⟨b, o + j * 2 + 1, none⟩ = some (.string (bs fs[j].2)))
theorem HoldsF.below {w w' : World} {v : Value} {fs : List (List UInt8 × List UInt8)} (h : HoldsF w v fs) (hb : Below w.heap.size w w') : HoldsF w' v fs := by
  obtain ⟨a, c, hv, hc, hx⟩ := h
  refine ⟨a, c, hv, hc, fun hne => ?_⟩
  obtain ⟨b, o, ha, hlt, hcell⟩ := hx hne
  exact ⟨b, o, ha, Nat.lt_of_lt_of_le hlt hb.size, fun j hj => ⟨(hb.cell (p := ⟨b, o + j * 2, none⟩) hlt).trans (hcell j hj).1, (hb.cell (p := ⟨b, o + j * 2 + 1, none⟩) hlt).trans (hcell j hj).2⟩⟩
theorem HoldsF.nil (w : World) (a : Option Addr) (c : Nat) : HoldsF w (.slice a 0 c) [] := ⟨a, c, rfl, Nat.zero_le _, fun h => absurd rfl h⟩

/-- the cells of some fields -/
def fcells : List (List UInt8 × List UInt8) → List Value
  | [] => []
  | f :: t => .string (bs f.1) :: .string (bs f.2) :: fcells t
theorem fcells_length (fs : List (List UInt8 × List UInt8)) : (fcells fs).length = fs.length * 2 := by
  induction fs with
  | nil => rfl
  | cons f t ih => show (fcells t).length + 1 + 1 = (t.length + 1) * 2; omega
theorem fcells_get (fs : List (List UInt8 × List UInt8)) (j : Nat) (hj : j < fs.length) : (fcells fs)[j * 2]? = some (.string (bs fs[j].1)) ∧ (fcells fs)[j * 2 + 1]? = some (.string (bs fs[j].2)) := by
  induction fs generalizing j with
  | nil => exact absurd hj (Nat.not_lt_zero _)
  | cons f t ih =>
    cases j with
    | zero => exact ⟨rfl, rfl⟩
    | succ j =>
      have := ih j (by simp at hj; omega)
      rw [show (j + 1) * 2 = j * 2 + 1 + 1 by omega]
      exact this
theorem fcells_append (a b : List (List UInt8 × List UInt8)) : fcells (a ++ b) = fcells a ++ fcells b := by
  induction a with
  | nil => rfl
  | cons f t ih => show _ :: _ :: fcells (t ++ b) = _; rw [ih]; rfl
theorem HoldsF.of_cells {w : World} {b : Nat} {C : Array Value} {t : TypeId} {fs : List (List UInt8 × List UInt8)} {n : Nat} (hb : w.heap[b]? = some (.cells C t (0, 0))) (hC : C.toList = fcells fs) (hn : n = fs.length) : HoldsF w (.slice (some ⟨b, 0, none⟩) n n) fs := by
  subst hn
  refine ⟨_, _, rfl, Nat.le_refl _, fun _ => ⟨b, 0, rfl, (Array.getElem?_eq_some_iff.1 hb).1, fun j hj => ?_⟩⟩
  have h := fcells_get fs j hj
  rw [cell_of_row w b _ C t (0, 0) hb, cell_of_row w b _ C t (0, 0) hb, ← Array.getElem?_toList, ← Array.getElem?_toList, hC, Nat.zero_add]
  exact h
theorem HoldsF.of_own {w : World} {base n : Nat} {e : TypeId} {v : Value} {fs : List (List UInt8 × List UInt8)} (h : w.ownsRow base e 2 v n (fcells fs)) : HoldsF w v fs := by
  have hn : fs.length = n := by have := h.1; rw [fcells_length] at this; omega
  subst hn
  rcases h.2 with ⟨rfl, h0⟩ | ⟨g, cap, cur, rfl, hb, hg, hle, hm, hs, ht⟩
  · have : fs = [] := List.eq_nil_of_length_eq_zero h0
    subst this
    exact HoldsF.nil w none 0
  · refine ⟨_, cap, rfl, hle, fun _ => ⟨g, 0, rfl, (Array.getElem?_eq_some_iff.1 hg).1, fun j hj => ?_⟩⟩
    have h1 := h.cells (g := g) rfl (j * 2) _ (fcells_get fs j hj).1
    have h2 := h.cells (g := g) rfl (j * 2 + 1) _ (fcells_get fs j hj).2
    have e0 : ∀ k, (⟨g, 0, none⟩ : Addr).add k = ⟨g, 0 + k, none⟩ := fun k => by unfold Addr.add; split <;> simp_all
    rw [e0] at h1 h2
    exact ⟨h1, h2⟩

/-- the values of a name -/
def hits (fs : List (List UInt8 × List UInt8)) (n : List UInt8) : List (List UInt8) := (fs.filter (fun f => f.1 == n)).map (·.2)
def getE (fs : List (List UInt8 × List UInt8)) (n : List UInt8) : Nat := match hits fs n with | [] => 6 | [_] => 0 | _ => 22
def getS (fs : List (List UInt8 × List UInt8)) (n : List UInt8) : List UInt8 := match hits fs n with | [v] => v | _ => []
theorem hits_step (fs : List (List UInt8 × List UInt8)) (n : List UInt8) (k : Nat) (h : k < fs.length) : hits (fs.take (k + 1)) n = hits (fs.take k) n ++ (if fs[k].1 = n then [fs[k].2] else []) := by
  unfold hits
  rw [List.take_succ_eq_append_getElem h, List.filter_append, List.map_append]
  congr 1
  by_cases e : fs[k].1 = n
  · rw [if_pos e]; simp [e]
  · rw [if_neg e]; simp [e]
theorem hits_prefix (fs : List (List UInt8 × List UInt8)) (n : List UInt8) (k : Nat) : ∃ t, hits fs n = hits (fs.take k) n ++ t := by
  refine ⟨hits (fs.drop k) n, ?_⟩
  unfold hits
  rw [← List.map_append, ← List.filter_append, List.take_append_drop]
def GetSt (fs : List (List UInt8 × List UInt8)) (n : List UInt8) (k : Nat) (x e : Value) : Prop :=
  (hits (fs.take k) n = [] ∧ x = .string ⟨#[]⟩ ∧ e = .int .i64 6) ∨ ∃ v, hits (fs.take k) n = [v] ∧ x = .string (bs v) ∧ e = .int .i64 0
theorem get_end (fs : List (List UInt8 × List UInt8)) (n : List UInt8) (k : Nat) (hk : fs.length ≤ k) (x e : Value) (h : GetSt fs n k x e) : x = .string (bs (getS fs n)) ∧ e = .int .i64 (getE fs n) := by
  have ht : fs.take k = fs := List.take_of_length_le hk
  unfold GetSt at h
  rw [ht] at h
  unfold getS getE
  rcases h with ⟨h, hx, he⟩ | ⟨v, h, hx, he⟩
  · rw [h]; exact ⟨hx, he⟩
  · rw [h]; exact ⟨hx, he⟩
theorem get_twice (fs : List (List UInt8 × List UInt8)) (n : List UInt8) (k : Nat) (hk : k < fs.length) (v : List UInt8) (h : hits (fs.take k) n = [v]) (hn : fs[k].1 = n) : getS fs n = [] ∧ getE fs n = 22 := by
  obtain ⟨t, ht⟩ := hits_prefix fs n (k + 1)
  rw [hits_step fs n k hk, h, if_pos hn] at ht
  unfold getS getE
  rw [ht]
  exact ⟨rfl, rfl⟩
theorem ret_two {x y x' y' : Value} (h : x = x') (h2 : y = y') : Ending.returned (.tuple #[x, y]) = .returned (.tuple #[x', y']) := by rw [h, h2]

set_option maxRecDepth 100000 in
set_option maxHeartbeats 2000000 in
theorem fields_get (v : Value) (fs : List (List UInt8 × List UInt8)) (n : ByteArray) (w : World) (hv : HoldsF w v fs) (hlen : fs.length ≤ 1000000) :
    Calls Tryz.prog 41 #[v, .string n] w fun e w' => e = .returned (.tuple #[.string (bs (getS fs n.data.toList)), .int .i64 (getE fs n.data.toList)]) ∧ Below w.heap.size w w' := by
  obtain ⟨a, c, rfl, hc, hx⟩ := hv
  have HX := Lib.hid hx
  clear hx
  obtain ⟨m, rfl⟩ : ∃ m, n = bs m := ⟨n.data.toList, (bs_self n).symm⟩
  rw [bs_data]
  go_enter Tryz.func41, Tryz.ntmps41
  go_wp2_with fail
  go_loopw [6, 7, 12] (fun x e i wr => ∃ k : Nat, k ≤ fs.length ∧ i = .int .i64 k ∧ Below w.heap.size w wr ∧ GetSt fs m k x e) (fun _ _ i _ => fs.length - (intOf i).toNat)
  case atStart => exact ⟨0, by omega, rfl, Below.refl _ _, .inl ⟨rfl, rfl, rfl⟩⟩
  case round =>
    obtain ⟨k, hk, rfl, hb, hst⟩ := hrel
    by_cases hlt : k < fs.length
    · obtain ⟨b, o, rfl, hbl, hcell⟩ := HX.out (fun e => by rw [e] at hlt; exact absurd hlt (Nat.not_lt_zero _))
      have c0 := (hb.cell (p := ⟨b, o + k * 2, none⟩) hbl).trans (hcell k hlt).1
      have c1 := (hb.cell (p := ⟨b, o + k * 2 + 1, none⟩) hbl).trans (hcell k hlt).2
      have hstep := hits_step fs m k hlt
      have hcmp := bs_beq fs[k].1 m
      clear hcell
      by_cases hn : fs[k].1 = m
      · rw [if_pos hn] at hstep
        rw [decide_eq_true hn] at hcmp
        rcases hst with ⟨h0, rfl, rfl⟩ | ⟨v, h1, rfl, rfl⟩
        · have Hn : Hid (hits (fs.take (k + 1)) m = [fs[k].2]) := Lib.hid (by rw [hstep, h0]; rfl)
          have HF : Hid (fs = fs) := Lib.hid rfl
          clear hstep h0 hn HX
          obtain ⟨X, hX⟩ : ∃ X, X = bs fs[k].1 := ⟨_, rfl⟩
          obtain ⟨y, hy⟩ : ∃ y, y = fs[k].2 := ⟨_, rfl⟩
          rw [← hX] at c0 hcmp
          rw [← hy] at c1 Hn
          clear hX hy
          go_wp2_with fail
          go_roundw
          case rel => exact ⟨k + 1, by omega, by go_num, hb.trans (((Below.refl _ _).alloc (Nat.le_refl _) _).mono hb.size), .inr ⟨y, Hn.out, rfl, rfl⟩⟩
          case measure => simp [intOf]; omega
        · have HE := Lib.hid (get_twice fs m k hlt v h1 hn)
          clear hstep h1 hn HX
          obtain ⟨X, hX⟩ : ∃ X, X = bs fs[k].1 := ⟨_, rfl⟩
          rw [← hX] at c0 hcmp
          clear hX
          go_wp2_with fail
          go_ret2
          exact ⟨ret_two (by rw [HE.out.1]; rfl) (by rw [HE.out.2]; rfl), hb.trans (((Below.refl _ _).alloc (Nat.le_refl _) _).mono hb.size)⟩
      · rw [if_neg hn, List.append_nil] at hstep
        rw [decide_eq_false hn] at hcmp
        have Hst : Hid (GetSt fs m (k + 1) u6 u7) := Lib.hid (by unfold GetSt at hst ⊢; rw [hstep]; exact hst)
        clear hstep hst hn HX
        obtain ⟨X, hX⟩ : ∃ X, X = bs fs[k].1 := ⟨_, rfl⟩
        rw [← hX] at c0 hcmp
        clear hX
        go_wp2_with fail
        go_roundw
        case rel => exact ⟨k + 1, by omega, by go_num, hb.trans (((Below.refl _ _).alloc (Nat.le_refl _) _).mono hb.size), Hst.out⟩
        case measure => simp [intOf]; omega
    · have H := Lib.hid (get_end fs m k (by omega) _ _ hst)
      clear hst
      go_wp2_with fail
      go_ret2
      exact ⟨ret_two H.out.1 H.out.2, hb⟩
end Go.Proofs.YtgaojfebmcmpaaaGreatDoor
