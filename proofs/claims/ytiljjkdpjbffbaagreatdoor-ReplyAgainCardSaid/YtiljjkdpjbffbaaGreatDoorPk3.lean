/- Slices of fields in memory; what Get of package fields returns. A number's digits, as the reference lays them. What the law's Own and the reference's Get, Number and Digits of fields return. What Check and text of package ranges, and Check of its reference return. What numbers of package ranges returns. What Asked of package ranges returns. What Ask of package ranges, and Ask, cut, two and Asked of its reference return. What cut, two and Asked of the reference of ranges return. What path and host of package asking, and of its reference, return. What Path and Host of the reference of asking return. Results that lie in a block. What Check of package asking, and of its reference, and the law's Own return. A text cut at its blanks: the words (no program in sight). The words of a line: what lines.Words and the reference's Words return; ref.Same. The lines of a head: what lines.Head and the reference's Head return. Lines laid one behind the other read as a head; cut anywhere they are too short (no program in sight). Plain laws: trimming blanks and tabs byte by byte; what a field is printed as (no program in sight). -/
import Derived.Test.YtiljjkdpjbffbaaGreatDoorPk2
import Derived.Laws.Rows
import Derived.Lib.ItoaNum
import Derived.BigQuiet
import Derived.Outline
set_option linter.unusedVariables false
namespace Go.Proofs.YtiljjkdpjbffbaaGreatDoor
open Go.RowKit

/-- the slice v reads, in the world w, as the fields fs. -/
def HoldsF (w : World) (v : Value) (fs : List (List UInt8 × List UInt8)) : Prop :=
  ∃ a c, v = .slice a fs.length c ∧ fs.length ≤ c ∧ (fs ≠ [] → ∃ b o, a = some ⟨b, o, none⟩ ∧ b < w.heap.size ∧ ∀ j (hj : j < fs.length), w.cell? ⟨b, o + j * 2, none⟩ = some (.string (bs fs[j].1)) ∧ w.cell? ⟨b, o + j * 2 + 1, none⟩ = some (.string (bs fs[j].2)))
theorem HoldsF.below {w w' : World} {v : Value} {fs : List (List UInt8 × List UInt8)} (h : HoldsF w v fs) (hb : Below w.heap.size w w') : HoldsF w' v fs := by
  obtain ⟨a, c, hv, hc, hx⟩ := h
  refine ⟨a, c, hv, hc, fun hne => ?_⟩
  obtain ⟨b, o, ha, hlt, hcell⟩ := hx hne
  exact ⟨b, o, ha, Nat.lt_of_lt_of_le hlt hb.size, fun j hj => ⟨(hb.cell (p := ⟨b, o + j * 2, none⟩) hlt).trans (hcell j hj).1, (hb.cell (p := ⟨b, o + j * 2 + 1, none⟩) hlt).trans (hcell j hj).2⟩⟩
theorem HoldsF.nil (w : World) (a : Option Addr) (c : Nat) : HoldsF w (.slice a 0 c) [] := ⟨a, c, rfl, Nat.zero_le _, fun h => absurd rfl h⟩

/-- the cells of some fields -/
def fcells : List (List UInt8 × List UInt8) → List Value
  | [] => []
  | f :: t => .string (bs f.1) :: .string (bs f.2) :: fcells t
theorem fcells_length (fs : List (List UInt8 × List UInt8)) : (fcells fs).length = fs.length * 2 := by
  induction fs with
  | nil => rfl
  | cons f t ih => show (fcells t).length + 1 + 1 = (t.length + 1) * 2; omega
theorem fcells_get (fs : List (List UInt8 × List UInt8)) (j : Nat) (hj : j < fs.length) : (fcells fs)[j * 2]? = some (.string (bs fs[j].1)) ∧ (fcells fs)[j * 2 + 1]? = some (.string (bs fs[j].2)) := by
  induction fs generalizing j with
  | nil => exact absurd hj (Nat.not_lt_zero _)
  | cons f t ih =>
    cases j with
    | zero => exact ⟨rfl, rfl⟩
    | succ j =>
      have := ih j (by simp at hj; omega)
      rw [show (j + 1) * 2 = j * 2 + 1 + 1 by omega]
      exact this
theorem fcells_append (a b : List (List UInt8 × List UInt8)) : fcells (a ++ b) = fcells a ++ fcells b := by
  induction a with
  | nil => rfl
  | cons f t ih => show _ :: _ :: fcells (t ++ b) = _; rw [ih]; rfl
theorem HoldsF.of_cells {w : World} {b : Nat} {C : Array Value} {t : TypeId} {fs : List (List UInt8 × List UInt8)} {n : Nat} (hb : w.heap[b]? = some (.cells C t (0, 0))) (hC : C.toList = fcells fs) (hn : n = fs.length) : HoldsF w (.slice (some ⟨b, 0, none⟩) n n) fs := by
  subst hn
  refine ⟨_, _, rfl, Nat.le_refl _, fun _ => ⟨b, 0, rfl, (Array.getElem?_eq_some_iff.1 hb).1, fun j hj => ?_⟩⟩
  have h := fcells_get fs j hj
  rw [cell_of_row w b _ C t (0, 0) hb, cell_of_row w b _ C t (0, 0) hb, ← Array.getElem?_toList, ← Array.getElem?_toList, hC, Nat.zero_add]
  exact h
theorem HoldsF.of_own {w : World} {base n : Nat} {e : TypeId} {v : Value} {fs : List (List UInt8 × List UInt8)} (h : w.ownsRow base e 2 v n (fcells fs)) : HoldsF w v fs := by
  have hn : fs.length = n := by have := h.1; rw [fcells_length] at this; omega
  subst hn
  rcases h.2 with ⟨rfl, h0⟩ | ⟨g, cap, cur, rfl, hb, hg, hle, hm, hs, ht⟩
  · have : fs = [] := List.eq_nil_of_length_eq_zero h0
    subst this
    exact HoldsF.nil w none 0
  · refine ⟨_, cap, rfl, hle, fun _ => ⟨g, 0, rfl, (Array.getElem?_eq_some_iff.1 hg).1, fun j hj => ?_⟩⟩
    have h1 := h.cells (g := g) rfl (j * 2) _ (fcells_get fs j hj).1
    have h2 := h.cells (g := g) rfl (j * 2 + 1) _ (fcells_get fs j hj).2
    have e0 : ∀ k, (⟨g, 0, none⟩ : Addr).add k = ⟨g, 0 + k, none⟩ := fun k => by unfold Addr.add; split <;> simp_all
    rw [e0] at h1 h2
    exact ⟨h1, h2⟩

/-- the values of a name -/
def hits (fs : List (List UInt8 × List UInt8)) (n : List UInt8) : List (List UInt8) := (fs.filter (fun f => f.1 == n)).map (·.2)
def getE (fs : List (List UInt8 × List UInt8)) (n : List UInt8) : Nat := match hits fs n with | [] => 6 | [_] => 0 | _ => 22
def getS (fs : List (List UInt8 × List UInt8)) (n : List UInt8) : List UInt8 := match hits fs n with | [v] => v | _ => []
theorem hits_step (fs : List (List UInt8 × List UInt8)) (n : List UInt8) (k : Nat) (h : k < fs.length) : hits (fs.take (k + 1)) n = hits (fs.take k) n ++ (if fs[k].1 = n then [fs[k].2] else []) := by
  unfold hits
  rw [List.take_succ_eq_append_getElem h, List.filter_append, List.map_append]
  congr 1
  by_cases e : fs[k].1 = n
  · rw [if_pos e]; simp [e]
  · rw [if_neg e]; simp [e]
theorem hits_prefix (fs : List (List UInt8 × List UInt8)) (n : List UInt8) (k : Nat) : ∃ t, hits fs n = hits (fs.take k) n ++ t := by
  refine ⟨hits (fs.drop k) n, ?_⟩
  unfold hits
  rw [← List.map_append, ← List.filter_append, List.take_append_drop]
def GetSt (fs : List (List UInt8 × List UInt8)) (n : List UInt8) (k : Nat) (x e : Value) : Prop :=
  (hits (fs.take k) n = [] ∧ x = .string ⟨#[]⟩ ∧ e = .int .i64 6) ∨ ∃ v, hits (fs.take k) n = [v] ∧ x = .string (bs v) ∧ e = .int .i64 0
theorem get_end (fs : List (List UInt8 × List UInt8)) (n : List UInt8) (k : Nat) (hk : fs.length ≤ k) (x e : Value) (h : GetSt fs n k x e) : x = .string (bs (getS fs n)) ∧ e = .int .i64 (getE fs n) := by
  have ht : fs.take k = fs := List.take_of_length_le hk
  unfold GetSt at h
  rw [ht] at h
  unfold getS getE
  rcases h with ⟨h, hx, he⟩ | ⟨v, h, hx, he⟩
  · rw [h]; exact ⟨hx, he⟩
  · rw [h]; exact ⟨hx, he⟩
theorem get_twice (fs : List (List UInt8 × List UInt8)) (n : List UInt8) (k : Nat) (hk : k < fs.length) (v : List UInt8) (h : hits (fs.take k) n = [v]) (hn : fs[k].1 = n) : getS fs n = [] ∧ getE fs n = 22 := by
  obtain ⟨t, ht⟩ := hits_prefix fs n (k + 1)
  rw [hits_step fs n k hk, h, if_pos hn] at ht
  unfold getS getE
  rw [ht]
  exact ⟨rfl, rfl⟩
theorem ret_two {x y x' y' : Value} (h : x = x') (h2 : y = y') : Ending.returned (.tuple #[x, y]) = .returned (.tuple #[x', y']) := by rw [h, h2]

set_option maxRecDepth 100000 in
set_option maxHeartbeats 2000000 in
theorem fields_get (v : Value) (fs : List (List UInt8 × List UInt8)) (n : ByteArray) (w : World) (hv : HoldsF w v fs) (hlen : fs.length ≤ 1000000) :
    Calls Tryz.prog 59 #[v, .string n] w fun e w' => e = .returned (.tuple #[.string (bs (getS fs n.data.toList)), .int .i64 (getE fs n.data.toList)]) ∧ Below w.heap.size w w' := by
  obtain ⟨a, c, rfl, hc, hx⟩ := hv
  have HX := Lib.hid hx
  clear hx
  obtain ⟨m, rfl⟩ : ∃ m, n = bs m := ⟨n.data.toList, (bs_self n).symm⟩
  rw [bs_data]
  go_enter Tryz.func59, Tryz.ntmps59
  go_wp2_with fail
  go_loopw [6, 7, 12] (fun x e i wr => ∃ k : Nat, k ≤ fs.length ∧ i = .int .i64 k ∧ Below w.heap.size w wr ∧ GetSt fs m k x e) (fun _ _ i _ => fs.length - (intOf i).toNat)
  case atStart => exact ⟨0, by omega, rfl, Below.refl _ _, .inl ⟨rfl, rfl, rfl⟩⟩
  case round =>
    obtain ⟨k, hk, rfl, hb, hst⟩ := hrel
    by_cases hlt : k < fs.length
    · obtain ⟨b, o, rfl, hbl, hcell⟩ := HX.out (fun e => by rw [e] at hlt; exact absurd hlt (Nat.not_lt_zero _))
      have c0 := (hb.cell (p := ⟨b, o + k * 2, none⟩) hbl).trans (hcell k hlt).1
      have c1 := (hb.cell (p := ⟨b, o + k * 2 + 1, none⟩) hbl).trans (hcell k hlt).2
      have hstep := hits_step fs m k hlt
      have hcmp := bs_beq fs[k].1 m
      clear hcell
      by_cases hn : fs[k].1 = m
      · rw [if_pos hn] at hstep
        rw [decide_eq_true hn] at hcmp
        rcases hst with ⟨h0, rfl, rfl⟩ | ⟨v, h1, rfl, rfl⟩
        · have Hn : Hid (hits (fs.take (k + 1)) m = [fs[k].2]) := Lib.hid (by rw [hstep, h0]; rfl)
          have HF : Hid (fs = fs) := Lib.hid rfl
          clear hstep h0 hn HX
          obtain ⟨X, hX⟩ : ∃ X, X = bs fs[k].1 := ⟨_, rfl⟩
          obtain ⟨y, hy⟩ : ∃ y, y = fs[k].2 := ⟨_, rfl⟩
          rw [← hX] at c0 hcmp
          rw [← hy] at c1 Hn
          clear hX hy
          go_wp2_with fail
          go_roundw
          case rel => exact ⟨k + 1, by omega, by go_num, hb.trans (((Below.refl _ _).alloc (Nat.le_refl _) _).mono hb.size), .inr ⟨y, Hn.out, rfl, rfl⟩⟩
          case measure => simp [intOf]; omega
        · have HE := Lib.hid (get_twice fs m k hlt v h1 hn)
          clear hstep h1 hn HX
          obtain ⟨X, hX⟩ : ∃ X, X = bs fs[k].1 := ⟨_, rfl⟩
          rw [← hX] at c0 hcmp
          clear hX
          go_wp2_with fail
          go_ret2
          exact ⟨ret_two (by rw [HE.out.1]; rfl) (by rw [HE.out.2]; rfl), hb.trans (((Below.refl _ _).alloc (Nat.le_refl _) _).mono hb.size)⟩
      · rw [if_neg hn, List.append_nil] at hstep
        rw [decide_eq_false hn] at hcmp
        have Hst : Hid (GetSt fs m (k + 1) u6 u7) := Lib.hid (by unfold GetSt at hst ⊢; rw [hstep]; exact hst)
        clear hstep hst hn HX
        obtain ⟨X, hX⟩ : ∃ X, X = bs fs[k].1 := ⟨_, rfl⟩
        rw [← hX] at c0 hcmp
        clear hX
        go_wp2_with fail
        go_roundw
        case rel => exact ⟨k + 1, by omega, by go_num, hb.trans (((Below.refl _ _).alloc (Nat.le_refl _) _).mono hb.size), Hst.out⟩
        case measure => simp [intOf]; omega
    · have H := Lib.hid (get_end fs m k (by omega) _ _ hst)
      clear hst
      go_wp2_with fail
      go_ret2
      exact ⟨ret_two H.out.1 H.out.2, hb⟩
end Go.Proofs.YtiljjkdpjbffbaaGreatDoor
namespace Go.Proofs.YtiljjkdpjbffbaaGreatDoor
open Go.RowKit

theorem decDigits_len (n : Nat) (h : n < 18446744073709551616) : (Go.Lib.decDigits n).length ≤ 20 := by
  rw [Go.Lib.decDigits_length]
  have h1 := Go.Lib.numDigits_eq n
  rcases Nat.eq_zero_or_pos n with h0 | h0
  · subst h0; rw [Go.Lib.nDigits_small (by decide)]; decide
  · obtain ⟨h2, h3⟩ := h1 h0 h
    rw [← h2]; split <;> omega
theorem itoa_len (n : Int) (h0 : -9223372036854775808 ≤ n) (h1 : n ≤ 9223372036854775807) : (Go.Lib.itoa n).length ≤ 21 := by
  unfold Go.Lib.itoa
  split
  · have := decDigits_len n.natAbs (by omega); simp; omega
  · have := decDigits_len n.toNat (by omega); omega
theorem digit_slice (n : Nat) (h : n < 10) : (ByteArray.mk #[48, 49, 50, 51, 52, 53, 54, 55, 56, 57]).extract n (n + 1) = bs (Go.Lib.decDigits n) := by
  rw [extract_bs, Go.Lib.decDigits_one h]
  congr 1
  have : ∀ k : Fin 10, (((ByteArray.mk #[48, 49, 50, 51, 52, 53, 54, 55, 56, 57]).data.toList.take (k.val + 1)).drop k.val) = [UInt8.ofNat (48 + k.val)] := by decide +kernel
  exact this ⟨n, h⟩
theorem dec_split (n : Nat) (h : ¬ n < 10) : bs (Go.Lib.decDigits (n / 10)) ++ bs (Go.Lib.decDigits (n % 10)) = bs (Go.Lib.decDigits n) := by
  rw [bs_cat, Go.Lib.decDigits_one (show n % 10 < 10 by omega)]
  conv => rhs; rw [Go.Lib.decDigits, dif_neg h]
theorem ref_digits (k : Nat) : ∀ (n : Nat) (w : World), n ≤ k → n ≤ 9223372036854775807 →
    Calls Tryz.prog 27 #[.int .i64 n] w fun e w' => e = .returned (.string (bs (Go.Lib.decDigits n))) ∧ w' = w := by
  induction k using Nat.strongRecOn with
  | _ k ih =>
    intro n w hk hn
    by_cases h : n < 10
    · have hd := digit_slice n h
      have Hd := Lib.hid hd
      clear hd
      go_enter Tryz.func27, Tryz.ntmps27
      go_wp2_with fail
      go_ret
      exact ⟨ret_str Hd.out, rfl⟩
    · have Hs := Lib.hid (dec_split n h)
      have l1 := decDigits_len (n / 10) (by omega)
      have l2 := decDigits_len (n % 10) (by omega)
      obtain ⟨A, hA⟩ : ∃ A, A = bs (Go.Lib.decDigits (n / 10)) := ⟨_, rfl⟩
      obtain ⟨B, hB⟩ : ∃ B, B = bs (Go.Lib.decDigits (n % 10)) := ⟨_, rfl⟩
      have hAB : A.size + B.size ≤ 9223372036854775807 := by rw [hA, hB, bs_size, bs_size]; omega
      have HA := Lib.hid hA
      have HB := Lib.hid hB
      have h10 : 10 ≤ n := by omega
      have i1 := ih (n / 10) (by omega) (n / 10) w (Nat.le_refl _) (by omega)
      have i2 := ih (n % 10) (by omega) (n % 10) w (Nat.le_refl _) (by omega)
      rw [← hA] at i1
      rw [← hB] at i2
      have I1 := Lib.hid i1
      have I2 := Lib.hid i2
      clear hA hB i1 i2 h l1 l2
      go_enter Tryz.func27, Tryz.ntmps27
      go_wp2_with fail
      rw [show ((n : Int) / 10) = ((n / 10 : Nat) : Int) by omega]
      refine I1.out.mono ?_
      rintro e w' ⟨rfl, rfl⟩
      go_wp2_with fail
      rw [show ((n : Int) % 10) = ((n % 10 : Nat) : Int) by omega]
      refine I2.out.mono ?_
      rintro e w' ⟨rfl, rfl⟩
      go_wp2_with fail
      go_ret
      refine ⟨ret_str ?_, rfl⟩
      rw [HA.out, HB.out, Hs.out]
theorem itoa_nonneg (n : Int) (h : 0 ≤ n) : Go.Lib.itoa n = Go.Lib.decDigits n.toNat := by
  unfold Go.Lib.itoa; rw [if_neg (by omega)]
end Go.Proofs.YtiljjkdpjbffbaaGreatDoor
namespace Go.Proofs.YtiljjkdpjbffbaaGreatDoor
open Go.RowKit

theorem info_field : (Tryz.prog.info? 51).map (fun i => (i.zero, i.size, i.bytes)) = some (some (.agg #[.string ByteArray.empty, .string ByteArray.empty]), 2, 32) := by kernel_rfl
theorem cell_two_new (w : World) (x y : Value) (t : TypeId) : ∀ j u, [x, y][j]? = some u → (w.alloc (.cells #[x, y] t)).cell? ((⟨w.heap.size, 0, none⟩ : Addr).add j) = some u := by
  intro j u hj
  have hh := heap_alloc_new w (.cells #[x, y] t)
  have e0 : (⟨w.heap.size, 0, none⟩ : Addr).add j = ⟨w.heap.size, 0 + j, none⟩ := by unfold Addr.add; split <;> simp_all
  rw [e0]
  match j, hj with
  | 0, hj => simp at hj; subst hj; unfold World.cell?; rw [hh]; rfl
  | 1, hj => simp at hj; subst hj; unfold World.cell?; rw [hh]; rfl
/-- append of one field to a slice of the call's own. -/
theorem append_field {ops : Array Oper} {rest : List Oper} {o : Oper} {a : Act} {Q : Exit → Act → World → Prop} (w0 : World) (hgd : o.guard = none) (s x : Operand)
    (ho : o.op = .call { callee := .builtin .append, args := #[s, x], argTypes := #[30, 30] })
    (base : Nat) (v : Value) (fs : List (List UInt8 × List UInt8)) (hs : a.eval s = v) (hown : w0.ownsRow base 51 2 v fs.length (fcells fs))
    (p q : ByteArray) (f : List UInt8 × List UInt8) (hp : p = bs f.1) (hq : q = bs f.2) (hx : a.eval x = .slice (some ⟨w0.heap.size, 0, none⟩) 1 1) (hn : fs.length < 2147483648) (hbase : base ≤ w0.heap.size)
    (h : ∀ v' w', w'.ownsRow base 51 2 v' (fs ++ [f]).length (fcells (fs ++ [f])) → w0.grownBy w' v.ownBlock → v' ≠ .slice none 0 0 → wpList Tryz.prog ops Q rest (a.put o.dst v') w') :
    wpList Tryz.prog ops Q (o :: rest) a (w0.alloc (.cells #[.string p, .string q] 51)) := by
  obtain ⟨i0, hi, hz0, hz1, hz2⟩ := info_parts info_field
  subst hp hq
  refine wpList_append_own _ hgd s x 30 ho base 51 i0 _ 2 32 Tryz.underlying30 hi hz0 hz1 hz2 rfl (by decide) v fs.length (fcells fs) hs (hown.alloc _) ⟨w0.heap.size, 0, none⟩ 1 1 [.string (bs f.1), .string (bs f.2)] hx rfl (cell_two_new w0 _ _ _) (by simp [Value.oneCell']) (by unfold maxLen; omega) (by omega) (by simp; omega) ?_
  intro v' w' h2 h3 h4
  refine h v' w' ?_ ?_ (fun e => by have := (h4.1 e).2; omega)
  · rw [List.length_append, fcells_append]; exact h2
  · exact ⟨h3.os, h3.tape, h3.output, Nat.le_trans (by simp) h3.size, fun k hk hne => (h3.block k (by simp; omega) hne).trans (heap_alloc_old w0 _ hk)⟩
theorem below_ownF {B : Nat} {w wr w' : World} {base : Nat} {e : TypeId} {size : Nat} {v : Value} {n : Nat} {xs : List Value} (hb : Below B w wr) (hg : wr.grownBy w' v.ownBlock) (hown : wr.ownsRow base e size v n xs) (hB : B ≤ base) (hB2 : B ≤ wr.heap.size) : Below B w w' :=
  hb.grown hg hB2 fun k hk => Nat.le_trans hB (hown.lt k hk).1

def OwnPost (fs : List (List UInt8 × List UInt8)) (w : World) (e : Ending) (w' : World) : Prop := ∃ v, e = .returned v ∧ HoldsF w' v fs ∧ Below w.heap.size w w'
set_option maxRecDepth 100000 in
set_option maxHeartbeats 2000000 in
theorem law_own (v : Value) (fs : List (List UInt8 × List UInt8)) (w : World) (hv : HoldsF w v fs) (hlen : fs.length < 2147483648) :
    Calls Tryz.prog 25 #[v] w (OwnPost fs w) := by
  obtain ⟨a, c, rfl, hc, hx⟩ := hv
  have HX := Lib.hid hx
  clear hx
  go_enter Tryz.func25, Tryz.ntmps25
  go_wp2_with fail
  go_loopw [3, 4] (fun u i wr => ∃ k : Nat, k ≤ fs.length ∧ i = .int .i64 k ∧ wr.ownsRow w.heap.size 51 2 u (fs.take k).length (fcells (fs.take k)) ∧ Below w.heap.size w wr) (fun _ i _ => fs.length - (intOf i).toNat)
  case atStart => exact ⟨0, by omega, rfl, World.ownsRow_nil _ _ _ _, Below.refl _ _⟩
  case round =>
    obtain ⟨k, hk, rfl, hown, hb⟩ := hrel
    by_cases hlt : k < fs.length
    · obtain ⟨b, o, rfl, hbl, hcell⟩ := HX.out (fun e => by rw [e] at hlt; exact absurd hlt (Nat.not_lt_zero _))
      have c0 := (hb.cell (p := ⟨b, o + k * 2, none⟩) hbl).trans (hcell k hlt).1
      have c1 := (hb.cell (p := ⟨b, o + k * 2 + 1, none⟩) hbl).trans (hcell k hlt).2
      have hstep : Hid (fs.take (k + 1) = fs.take k ++ [fs[k]]) := Lib.hid (List.take_succ_eq_append_getElem hlt)
      have hkl : (fs.take k).length < 2147483648 := by rw [List.length_take]; omega
      clear hcell HX
      go_wp2_with (at_builtin; go_loud (refine append_field wr (by rfl) _ _ (by rfl) w.heap.size _ (fs.take k) (by rfl) hown (bs fs[k].1) (bs fs[k].2) fs[k] rfl rfl (by rfl) hkl hb.size ?_); intro v' w1 hown1 hg1 hne1)
      go_roundw
      case rel => exact ⟨k + 1, by omega, by go_num, by rw [hstep.out]; exact hown1, below_ownF hb hg1 hown (Nat.le_refl _) hb.size⟩
      case measure => simp [intOf]; omega
    · have hall : fs.take k = fs := List.take_of_length_le (by omega)
      rw [hall] at hown
      clear hall
      go_wp2_with fail
      go_ret
      exact ⟨_, rfl, HoldsF.of_own hown, hb⟩

/-- where a name stands, told as the reference counts. -/
def RGet (fs : List (List UInt8 × List UInt8)) (m : List UInt8) (k : Nat) (x y : Value) : Prop :=
  ∃ c t : Nat, x = .int .i64 c ∧ y = .int .i64 t ∧ c = (hits (fs.take k) m).length ∧ c ≤ k ∧ (0 < c → ∃ h : t < fs.length, (hits (fs.take k) m).getLast? = some fs[t].2)
theorem hits_all (fs : List (List UInt8 × List UInt8)) (m : List UInt8) (k : Nat) (h : fs.length ≤ k) : hits (fs.take k) m = hits fs m := by rw [List.take_of_length_le h]
set_option maxRecDepth 100000 in
set_option maxHeartbeats 2000000 in
theorem ref_get (v : Value) (fs : List (List UInt8 × List UInt8)) (n : ByteArray) (w : World) (hv : HoldsF w v fs) (hlen : fs.length ≤ 1000000) :
    Calls Tryz.prog 37 #[v, .string n] w fun e w' => e = .returned (.tuple #[.string (bs (getS fs n.data.toList)), .int .i64 (getE fs n.data.toList)]) ∧ w' = w := by
  obtain ⟨a, c, rfl, hc, hx⟩ := hv
  have HX := Lib.hid hx
  clear hx
  obtain ⟨m, rfl⟩ : ∃ m, n = bs m := ⟨n.data.toList, (bs_self n).symm⟩
  rw [bs_data]
  go_enter Tryz.func37, Tryz.ntmps37
  go_wp2_with fail
  go_loop [6, 7, 8] (fun x y i => ∃ k : Nat, k ≤ fs.length ∧ i = .int .i64 k ∧ RGet fs m k x y) (fun _ _ i => fs.length - (intOf i).toNat)
  case atStart => exact ⟨0, by omega, rfl, 0, 0, rfl, rfl, rfl, by omega, fun h => absurd h (Nat.lt_irrefl _)⟩
  case round =>
    obtain ⟨k, hk, rfl, cn, tn, rfl, rfl, hcn, hck, hlast⟩ := hrel
    by_cases hlt : k < fs.length
    · obtain ⟨b, o, rfl, hbl, hcell⟩ := HX.out (fun e => by rw [e] at hlt; exact absurd hlt (Nat.not_lt_zero _))
      have c0 := (hcell k hlt).1
      have hstep := hits_step fs m k hlt
      have hcmp := bs_beq fs[k].1 m
      clear hcell
      by_cases hn : fs[k].1 = m
      · rw [if_pos hn] at hstep
        rw [decide_eq_true hn] at hcmp
        have Hn : Hid (RGet fs m (k + 1) (.int .i64 ((cn + 1 : Nat) : Int)) (.int .i64 (k : Int))) := Lib.hid ⟨cn + 1, k, rfl, rfl, by rw [hstep, List.length_append, ← hcn]; rfl, by omega, fun _ => ⟨hlt, by rw [hstep, List.getLast?_append]; rfl⟩⟩
        clear hstep hn HX hlast hcn
        obtain ⟨X, hX⟩ : ∃ X, X = bs fs[k].1 := ⟨_, rfl⟩
        rw [← hX] at c0 hcmp
        clear hX
        go_wp2_with fail
        go_round
        case rel => exact ⟨k + 1, by omega, by go_num, Hn.out⟩
        case measure => simp [intOf]; omega
      · rw [if_neg hn, List.append_nil] at hstep
        rw [decide_eq_false hn] at hcmp
        have Hn : Hid (RGet fs m (k + 1) (.int .i64 (cn : Int)) (.int .i64 (tn : Int))) := Lib.hid ⟨cn, tn, rfl, rfl, by rw [hstep]; exact hcn, by omega, fun h => by rw [hstep]; exact hlast h⟩
        clear hstep hn HX hlast hcn
        obtain ⟨X, hX⟩ : ∃ X, X = bs fs[k].1 := ⟨_, rfl⟩
        rw [← hX] at c0 hcmp
        clear hX
        go_wp2_with fail
        go_round
        case rel => exact ⟨k + 1, by omega, by go_num, Hn.out⟩
        case measure => simp [intOf]; omega
    · rw [hits_all fs m k (by omega)] at hcn hlast
      by_cases hz : cn = 0
      · have H : Hid (getS fs m = [] ∧ getE fs m = 6) := Lib.hid (by
          have : hits fs m = [] := List.length_eq_zero_iff.1 (by omega)
          unfold getS getE; rw [this]; exact ⟨rfl, rfl⟩)
        have t1 : ((cn : Int) == 0) = true := by rw [hz]; rfl
        clear hz hcn hlast HX
        go_wp2_with fail
        go_ret2
        exact ⟨ret_two (by rw [H.out.1]; rfl) (by rw [H.out.2]; rfl), rfl⟩
      · have t1 : ((cn : Int) == 0) = false := by rw [beq_eq_false_iff_ne]; omega
        by_cases h1 : 1 < cn
        · have H : Hid (getS fs m = [] ∧ getE fs m = 22) := Lib.hid (by
            unfold getS getE
            cases hh : hits fs m with
            | nil => rw [hh] at hcn; simp at hcn; omega
            | cons a t => cases t with
              | nil => rw [hh] at hcn; simp at hcn; omega
              | cons b u => exact ⟨rfl, rfl⟩)
          clear hz hcn hlast HX
          go_wp2_with fail
          go_ret2
          exact ⟨ret_two (by rw [H.out.1]; rfl) (by rw [H.out.2]; rfl), rfl⟩
        · obtain ⟨htl, hl⟩ := hlast (by omega)
          obtain ⟨b, o, rfl, hbl, hcell⟩ := HX.out (fun e => by rw [e] at htl; exact absurd htl (Nat.not_lt_zero _))
          have c1 := (hcell tn htl).2
          have H : Hid (getS fs m = fs[tn].2 ∧ getE fs m = 0) := Lib.hid (by
            unfold getS getE
            cases hh : hits fs m with
            | nil => rw [hh] at hcn; simp at hcn; omega
            | cons a t => cases t with
              | nil => rw [hh] at hl; simp at hl; exact ⟨hl, rfl⟩
              | cons b u => rw [hh] at hcn; simp at hcn; omega)
          clear hz hcn hl HX hcell
          go_wp2_with fail
          go_ret2
          exact ⟨ret_two (by rw [H.out.1]; rfl) (by rw [H.out.2]; rfl), rfl⟩
theorem ref_digitsZ (n : Int) (w : World) (h1 : n ≤ 9223372036854775807) :
    Calls Tryz.prog 27 #[.int .i64 n] w fun e w' => e = .returned (.string (bs (digL n))) ∧ w' = w := by
  by_cases hn : n < 0
  · have H : Hid (digL n = []) := Lib.hid (if_pos hn)
    go_enter Tryz.func27, Tryz.ntmps27
    go_wp2_with fail
    go_ret
    exact ⟨by rw [H.out]; rfl, rfl⟩
  · obtain ⟨k, rfl⟩ := Int.eq_ofNat_of_zero_le (show 0 ≤ n by omega)
    have := ref_digits k k w (Nat.le_refl _) (by omega)
    rw [show digL (k : Int) = Go.Lib.decDigits k from if_neg hn]
    exact this

/-- the reference's reading of a number: what is known behind k digits -/
def RNum (l : List UInt8) (k : Nat) (x y : Value) : Prop := ∃ (n : Nat) (b : Bool), x = .int .i64 n ∧ y = .bool b ∧ n ≤ 9007199254740991 ∧ b = decide (9007199254740991 < decV (l.take k)) ∧ (b = false → n = decV (l.take k))
theorem rnum_step (l : List UInt8) (k n : Nat) (b : Bool) (hk : k < l.length) (hn : n ≤ 9007199254740991) (hb : b = decide (9007199254740991 < decV (l.take k))) (hv : b = false → n = decV (l.take k)) (hd : 48 ≤ l[k].toNat ∧ l[k].toNat ≤ 57) :
    (9007199254740991 < n * 10 + (l[k].toNat - 48) → RNum l (k + 1) (.int .i64 0) (.bool true)) ∧ (¬ 9007199254740991 < n * 10 + (l[k].toNat - 48) → RNum l (k + 1) (.int .i64 ((n * 10 + (l[k].toNat - 48) : Nat) : Int)) (.bool b)) := by
  have hs : decV (l.take (k + 1)) = decV (l.take k) * 10 + (l[k].toNat - 48) := by
    rw [List.take_succ_eq_append_getElem hk, decV_snoc]
  constructor
  · intro h
    refine ⟨0, true, rfl, rfl, by omega, ?_, fun h => absurd h (by decide)⟩
    rw [eq_comm, decide_eq_true_eq, hs]
    cases b with
    | true => have := of_decide_eq_true hb.symm; omega
    | false => have := hv rfl; omega
  · intro h
    refine ⟨_, b, rfl, rfl, by omega, ?_, fun e => by rw [hs, ← hv e]⟩
    cases b with
    | true => have := of_decide_eq_true hb.symm; rw [eq_comm, decide_eq_true_eq, hs]; omega
    | false => have := hv rfl; rw [eq_comm, decide_eq_false_iff_not, hs]; omega

set_option maxRecDepth 100000 in
set_option maxHeartbeats 2000000 in
theorem ref_number (s : ByteArray) (w : World) (hs : s.size ≤ 1000000) :
    Calls Tryz.prog 38 #[.string s] w fun e w' => e = .returned (.tuple #[.int .i64 (numV s.data.toList), .int .i64 (numE s.data.toList)]) ∧ w' = w := by
  obtain ⟨l, hl⟩ : ∃ l, l = s.data.toList := ⟨_, rfl⟩
  have hsl : l.length = s.size := by rw [hl]; exact size_len s
  have hlead1 := fun h h2 => lead0_size s h h2
  have hlead2 := fun h => lead0_not s h
  rw [← hl] at hlead1 hlead2 ⊢
  have HL := Lib.hid hl
  clear hl
  by_cases h0 : s.size = 0
  · have H := Lib.hid (numE_bad l (by rw [List.length_eq_zero_iff.1 (show l.length = 0 by omega)]; rfl))
    have t : ((s.size : Int) == 0) = true := by rw [h0]; rfl
    clear hsl hlead1 hlead2 h0
    go_enter Tryz.func38, Tryz.ntmps38
    go_wp2_with fail
    go_ret2
    exact ⟨ret_nums (by rw [H.out.2]; rfl) (by rw [H.out.1]; rfl), rfl⟩
  · have t : ((s.size : Int) == 0) = false := by rw [beq_eq_false_iff_ne]; omega
    have hpos : 0 < s.size := by omega
    by_cases h1 : ∃ h : 1 < s.size, s[0] = 48
    · obtain ⟨h1, h48⟩ := h1
      have H := Lib.hid (numE_bad l (by unfold numBad; rw [hlead1 h1 h48, Bool.or_true]))
      have t1 : ((s[0].toNat : Int) == 48) = true := by rw [h48]; rfl
      clear hsl hlead1 hlead2 h48 h0
      go_enter Tryz.func38, Tryz.ntmps38
      go_wp2_with fail
      go_ret2
      exact ⟨ret_nums (by rw [H.out.2]; rfl) (by rw [H.out.1]; rfl), rfl⟩
    · have hl0 := Lib.hid (hlead2 h1)
      have hemp : Hid (l.isEmpty = false) := Lib.hid (by rw [Bool.eq_false_iff, Ne, List.isEmpty_iff]; intro e; rw [e] at hsl; simp at hsl; omega)
      clear hlead1 hlead2 h0
      by_cases h2 : 1 < s.size
      case' pos =>
        have t1 : ((s[0].toNat : Int) == 48) = false := by
          rw [beq_eq_false_iff_ne]; intro e; exact h1 ⟨h2, UInt8.toNat_inj.1 (by show _ = 48; omega)⟩
      case' neg =>
        have t1 : decide ((s.size : Int) > 1) = false := decide_eq_false (by omega)
      all_goals
        clear h1
        go_enter Tryz.func38, Tryz.ntmps38
        go_wp2_with fail
        go_loop [4, 5, 6] (fun x y i => ∃ k : Nat, k ≤ s.size ∧ i = .int .i64 k ∧ Hid (digAll (l.take k) = true) ∧ RNum l k x y) (fun _ _ i => s.size - (intOf i).toNat)
        case atStart => exact ⟨0, by omega, rfl, Lib.hid rfl, 0, false, rfl, rfl, by omega, rfl, fun _ => rfl⟩
        case round =>
          obtain ⟨k, hk, rfl, Hd, n, b, rfl, rfl, hn, hb, hv⟩ := hrel
          by_cases hlt : k < s.size
          · have hlk : l[k]'(by omega) = s[k] := by have := HL.out; subst this; rfl
            have hcase : s[k].toNat < 48 ∨ 57 < s[k].toNat ∨ (48 ≤ s[k].toNat ∧ s[k].toNat ≤ 57) := by omega
            have hbadk : digN s[k].toNat = false → numE l = 4 ∧ numV l = 0 := fun hq => numE_bad l (by
              unfold numBad digAll
              rw [show l.all (fun c => digN c.toNat) = false by rw [HL.out]; exact all_at (fun c => digN c.toNat) s k hlt hq]; simp)
            rcases hcase with hc | hc | hc
            · have H := Lib.hid (hbadk (by unfold digN; rw [decide_eq_false (by omega), Bool.false_and]))
              clear hbadk hlk Hd hb hv
              have t2 : decide ((s[k].toNat : Int) < 48) = true := decide_eq_true (by omega)
              go_wp2_with fail
              go_ret2
              exact ⟨ret_nums (by rw [H.out.2]; rfl) (by rw [H.out.1]; rfl), rfl⟩
            · have H := Lib.hid (hbadk (by unfold digN; rw [decide_eq_false (show ¬ s[k].toNat ≤ 57 by omega), Bool.and_false]))
              clear hbadk hlk Hd hb hv
              have t2 : decide ((s[k].toNat : Int) < 48) = false := decide_eq_false (by omega)
              have t3 : decide ((s[k].toNat : Int) > 57) = true := decide_eq_true (by omega)
              go_wp2_with fail
              go_ret2
              exact ⟨ret_nums (by rw [H.out.2]; rfl) (by rw [H.out.1]; rfl), rfl⟩
            · have hst := rnum_step l k n b (by omega) hn hb hv (by rw [hlk]; exact hc)
              rw [hlk] at hst
              have Hd' : Hid (digAll (l.take (k + 1)) = true) := Lib.hid (by
                unfold digAll; rw [List.take_succ_eq_append_getElem (by omega), List.all_append, hlk]
                rw [show (l.take k).all (fun c => digN c.toNat) = true from Hd.out, List.all_cons, digN_mk _ hc.1 hc.2]; rfl)
              obtain ⟨c1, c2⟩ := hc
              have t2 : decide ((s[k].toNat : Int) < 48) = false := decide_eq_false (by omega)
              have t3 : decide ((s[k].toNat : Int) > 57) = false := decide_eq_false (by omega)
              clear hbadk hlk Hd hb hv
              by_cases hbig : 9007199254740991 < n * 10 + (s[k].toNat - 48)
              · have Hn := Lib.hid (hst.1 hbig)
                have t4 : decide ((10 * (n : Int) + (s[k].toNat : Int) - 48) > 9007199254740991) = true := decide_eq_true (by omega)
                clear hst hbig
                go_wp2_with fail
                go_round
                case rel => exact ⟨k + 1, by omega, by go_num, Hd', Hn.out⟩
                case measure => simp [intOf]; omega
              · have Hn := Lib.hid (hst.2 hbig)
                have t4 : decide ((10 * (n : Int) + (s[k].toNat : Int) - 48) > 9007199254740991) = false := decide_eq_false (by omega)
                have Hz : Hid ((10 * (n : Int) + (s[k].toNat : Int) - 48) = ((n * 10 + (s[k].toNat - 48) : Nat) : Int)) := Lib.hid (by omega)
                clear hst hbig
                go_wp2_with fail
                go_round
                case rel => exact ⟨k + 1, by omega, by go_num, Hd', by rw [Hz.out]; exact Hn.out⟩
                case measure => simp [intOf]; omega
          · have hall : l.take k = l := List.take_of_length_le (by omega)
            have hgood : numBad l = false := by
              have := Hd.out
              rw [hall] at this
              unfold numBad; rw [hemp.out, this, hl0.out]; rfl
            rw [hall] at hb hv
            cases b with
            | true =>
              have H := Lib.hid (numE_over l hgood (of_decide_eq_true hb.symm))
              clear hb hv hgood hall Hd
              go_wp2_with fail
              go_ret2
              exact ⟨ret_nums (by rw [H.out.2]; rfl) (by rw [H.out.1]; rfl), rfl⟩
            | false =>
              have H := Lib.hid (numE_ok l hgood (of_decide_eq_false hb.symm))
              have Hv := Lib.hid (hv rfl)
              clear hb hv hgood hall Hd
              go_wp2_with fail
              go_ret2
              exact ⟨ret_nums (by rw [H.out.2, ← Hv.out]) (by rw [H.out.1]; rfl), rfl⟩
end Go.Proofs.YtiljjkdpjbffbaaGreatDoor
namespace Go.Proofs.YtiljjkdpjbffbaaGreatDoor
open Go.RowKit

theorem box2 (w : World) (x y : Value) (t : TypeId) : (w.alloc (.cells #[x, y] t)).cell? ⟨w.heap.size, 0, none⟩ = some x ∧ (w.alloc (.cells #[x, y] t)).cell? ⟨w.heap.size, 1, none⟩ = some y := by
  have hh := heap_alloc_new w (.cells #[x, y] t)
  constructor <;> (unfold World.cell?; rw [hh]; rfl)
theorem digL_len (n : Int) (h1 : n ≤ 9223372036854775807) : (digL n).length ≤ 20 := by
  unfold digL; split
  · exact Nat.zero_le _
  · exact decDigits_len _ (by omega)
end Go.Proofs.YtiljjkdpjbffbaaGreatDoor
namespace Go.Proofs.YtiljjkdpjbffbaaGreatDoor
open Go.RowKit

theorem own_keep {B : Nat} {e : TypeId} {k : Nat} {v : Value} {n : Nat} {xs : List Value} {w w' : World} (h : w.ownsRow B e k v n xs) (hb : Below w.heap.size w w') : w'.ownsRow B e k v n xs := by
  refine ⟨h.1, ?_⟩
  rcases h.2 with h0 | ⟨g, cap, cur, e1, e2, e3, e4⟩
  · exact .inl h0
  · exact .inr ⟨g, cap, cur, e1, e2, (hb.block g (Array.getElem?_eq_some_iff.1 e3).1).trans e3, e4⟩
def intsV (ns : List Nat) : List Value := ns.map fun (n : Nat) => .int .i64 (n : Int)
theorem intsV_length (ns : List Nat) : (intsV ns).length = ns.length := by simp [intsV]
theorem intsV_append (a b : List Nat) : intsV (a ++ b) = intsV a ++ intsV b := by simp [intsV]
/-- the slice v reads, in the world w, as the numbers ns; it lies behind block B -/
def HoldsI (B : Nat) (w : World) (v : Value) (ns : List Nat) : Prop :=
  ∃ b c, v = .slice (some ⟨b, 0, none⟩) ns.length c ∧ B ≤ b ∧ b < w.heap.size ∧ ns.length ≤ c ∧ ∀ j (hj : j < ns.length), w.cell? ⟨b, j, none⟩ = some (.int .i64 (ns[j] : Int))
theorem HoldsI.of_own {w : World} {base n : Nat} {e : TypeId} {v : Value} {ns : List Nat} (h : w.ownsRow base e 1 v n (intsV ns)) (hne : ns ≠ []) : HoldsI base w v ns := by
  have hn : ns.length = n := by have := h.1; rw [intsV_length, Nat.mul_one] at this; exact this
  subst hn
  rcases h.2 with ⟨rfl, h0⟩ | ⟨g, cap, cur, rfl, hb, hg, hle, hm, hs, ht⟩
  · exact absurd (List.eq_nil_of_length_eq_zero h0) hne
  · refine ⟨g, cap, rfl, hb, (Array.getElem?_eq_some_iff.1 hg).1, hle, fun j hj => ?_⟩
    have := h.cells (g := g) rfl j (.int .i64 (ns[j] : Int)) (by unfold intsV; rw [List.getElem?_map, List.getElem?_eq_getElem hj]; rfl)
    have e0 : (⟨g, 0, none⟩ : Addr).add j = ⟨g, j, none⟩ := by unfold Addr.add; split <;> simp_all
    rwa [e0] at this
theorem info_int : (Tryz.prog.info? 3).map (fun i => (i.zero, i.size, i.bytes)) = some (some (.int .i64 0), 1, 8) := by kernel_rfl
theorem append_int {ops : Array Oper} {rest : List Oper} {o : Oper} {a : Act} {Q : Exit → Act → World → Prop} (w0 : World) (hgd : o.guard = none) (s x : Operand)
    (ho : o.op = .call { callee := .builtin .append, args := #[s, x], argTypes := #[115, 115] })
    (base : Nat) (v : Value) (ns : List Nat) (hs : a.eval s = v) (hown : w0.ownsRow base 3 1 v ns.length (intsV ns))
    (m : Nat) (hx : a.eval x = .slice (some ⟨w0.heap.size, 0, none⟩) 1 1) (hn : ns.length < 2147483648) (hbase : base ≤ w0.heap.size)
    (h : ∀ v' w', w'.ownsRow base 3 1 v' (ns ++ [m]).length (intsV (ns ++ [m])) → w0.grownBy w' v.ownBlock → v' ≠ .slice none 0 0 → wpList Tryz.prog ops Q rest (a.put o.dst v') w') :
    wpList Tryz.prog ops Q (o :: rest) a (w0.alloc (.cells #[.int .i64 (m : Int)] 3)) := by
  obtain ⟨i0, hi, hz0, hz1, hz2⟩ := info_parts info_int
  refine wpList_append_own _ hgd s x 115 ho base 3 i0 _ 1 8 Tryz.underlying115 hi hz0 hz1 hz2 rfl (by decide) v ns.length (intsV ns) hs (hown.alloc _) ⟨w0.heap.size, 0, none⟩ 1 1 [.int .i64 (m : Int)] hx rfl (cell_one_new w0 _ _) (by simp [Value.oneCell']) (by unfold maxLen; omega) (by omega) (by simp; omega) ?_
  intro v' w' h2 h3 h4
  refine h v' w' ?_ ?_ (fun e => by have := (h4.1 e).2; omega)
  · rw [List.length_append, intsV_append]; simpa [intsV] using h2
  · exact ⟨h3.os, h3.tape, h3.output, Nat.le_trans (by simp) h3.size, fun k hk hne => (h3.block k (by simp; omega) hne).trans (heap_alloc_old w0 _ hk)⟩
/-- the first error of some texts that are to be numbers -/
def numsE : List (List UInt8) → Nat
  | [] => 0
  | l :: t => if numE l ≠ 0 then numE l else numsE t
theorem numsE_skip (xs : List (List UInt8)) : ∀ k, (∀ j (hj : j < xs.length), j < k → numE xs[j] = 0) → numsE xs = numsE (xs.drop k) := by
  induction xs with
  | nil => intro k _; simp
  | cons x t ih =>
    intro k h
    cases k with
    | zero => rfl
    | succ k =>
      have h0 := h 0 (by simp) (by omega)
      show (if numE x ≠ 0 then numE x else numsE t) = numsE (t.drop k)
      rw [if_neg (fun hh => hh h0)]
      exact ih k (fun j hj hk => h (j + 1) (by simp; omega) (by omega))
theorem numsE_at (xs : List (List UInt8)) (k : Nat) (hk : k < xs.length) (h : ∀ j (hj : j < xs.length), j < k → numE xs[j] = 0) (hb : numE xs[k] ≠ 0) : numsE xs = numE xs[k] := by
  rw [numsE_skip xs k h, List.drop_eq_getElem_cons hk]
  exact if_pos hb
theorem numsE_all (xs : List (List UInt8)) (h : ∀ j (hj : j < xs.length), numE xs[j] = 0) : numsE xs = 0 := by
  rw [numsE_skip xs xs.length (fun j hj _ => h j hj), List.drop_length]; rfl
def NumsPost (xs : List (List UInt8)) (w : World) (e : Ending) (w' : World) : Prop := ∃ v, e = .returned (.tuple #[v, .int .i64 (numsE xs : Nat)]) ∧ (numsE xs = 0 → HoldsI w.heap.size w' v (xs.map numV)) ∧ Below w.heap.size w w'
end Go.Proofs.YtiljjkdpjbffbaaGreatDoor
namespace Go.Proofs.YtiljjkdpjbffbaaGreatDoor
open Go.RowKit

theorem c_cutAt (s : ByteArray) (c : UInt8) (w : World) (hs : s.size ≤ 1000000) (hE : EnvF w) :
    Calls Tryz.prog 83 #[.string s, .string ⟨#[c]⟩] w fun e w' => e = .returned (.tuple #[.string (bs (if hasB c s.data.toList = true then upTo c s.data.toList else s.data.toList)), .string (bs (if hasB c s.data.toList = true then behind c s.data.toList else [])), .bool (hasB c s.data.toList)]) ∧ Below w.heap.size w w' := by
  obtain ⟨m, hm⟩ := hE.m
  refine (Tryz.strings_Cut s ⟨#[c]⟩ m w (by omega) hm).mono ?_
  rintro e w' ⟨rfl, n, rfl⟩
  refine ⟨?_, (fun n => by induction n with | zero => exact Below.refl _ _ | succ n ih => exact ih.drew : ∀ n, Below w.heap.size w (w.drewN n)) n⟩
  have h2 := cut_one c s.data.toList
  have h3 : Go.Lib.cut s.data.toList (ByteArray.mk #[c]).data.toList = Go.Lib.cut s.data.toList [c] := rfl
  rw [h3, h2]
  cases hasB c s.data.toList <;> rfl
theorem c_cutPre (s p : ByteArray) (w : World) :
    Calls Tryz.prog 80 #[.string s, .string p] w fun e w' => e = .returned (.tuple #[.string (bs (Lib.trimPrefix s.data.toList p.data.toList)), .bool (p.data.toList.isPrefixOf s.data.toList)]) ∧ w' = w := Tryz.strings_CutPrefix s p w
theorem numV_le' (l : List UInt8) : numV l ≤ 9007199254740991 := by
  unfold numV
  split
  · rename_i h
    unfold numE at h
    split at h
    · exact absurd h (by decide)
    · split at h
      · exact absurd h (by decide)
      · omega
  · exact Nat.zero_le _
theorem twoE_nums (a b : List UInt8) : numsE [a, b] = twoE a b := by
  show (if numE a ≠ 0 then numE a else if numE b ≠ 0 then numE b else 0) = _
  unfold twoE
  split
  · rfl
  · split <;> omega
theorem askedSplit (l : List UInt8) : askedOk l = (asksL.isPrefixOf l && hasB 45 (if asksL.isPrefixOf l = true then l.drop 6 else l)) := by
  unfold askedOk
  cases h : asksL.isPrefixOf l <;> simp
end Go.Proofs.YtiljjkdpjbffbaaGreatDoor
namespace Go.Proofs.YtiljjkdpjbffbaaGreatDoor
open Go.RowKit

theorem textR_len (a b : Int) (ha : a ≤ 9223372036854775807) (hb : b ≤ 9223372036854775807) : (textR a b).length ≤ 41 := by
  unfold textR
  have h1 := digL_len a ha
  have h2 := digL_len b hb
  rw [List.length_append, List.length_cons]; omega
theorem box_two {w w1 : World} {x y : Value} {t : TypeId} (hb : Below (w.alloc (.cells #[x, y] t)).heap.size (w.alloc (.cells #[x, y] t)) w1) : w1.cell? ⟨w.heap.size, 0, none⟩ = some x ∧ w1.cell? ⟨w.heap.size, 1, none⟩ = some y :=
  ⟨(two_of (two_box hb)).c0, (two_of (two_box hb)).c1⟩
theorem below_agg2 (w : World) (x y : Value) (t : TypeId) : Below w.heap.size w (w.alloc (.cells #[x, y] t)) := (Below.refl _ _).alloc (Nat.le_refl _) _
theorem ask_ok (a b : Int) (h : rErr a b = 0) (X : ByteArray) (hX : bs (textR a b) = X) : (⟨#[98, 121, 116, 101, 115, 61]⟩ : ByteArray) ++ X = bs (askL a b) := by
  unfold askL
  rw [if_pos h, ← hX]
  exact bs_cat asksL (textR a b)
end Go.Proofs.YtiljjkdpjbffbaaGreatDoor
namespace Go.Proofs.YtiljjkdpjbffbaaGreatDoor
open Go.RowKit

theorem upTo_at (c : UInt8) (l : List UInt8) (k : Nat) (hk : k < l.length) (h : ∀ j (hj : j < l.length), j < k → l[j] ≠ c) (hc : l[k] = c) : upTo c l = l.take k ∧ hasB c l = true ∧ behind c l = l.drop (k + 1) := by
  have e : upTo c l = l.take k := by
    unfold upTo
    conv => lhs; rw [← List.take_append_drop k l]
    rw [List.takeWhile_append_of_pos (by
      intro x hx
      obtain ⟨j, hj, rfl⟩ := List.getElem_of_mem hx
      rw [List.length_take] at hj
      rw [List.getElem_take]
      have := h j (by omega) (by omega)
      simpa using this)]
    rw [List.drop_eq_getElem_cons hk, List.takeWhile_cons_of_neg (by simp [hc]), List.append_nil]
  have hl : (upTo c l).length = k := by rw [e, List.length_take]; omega
  refine ⟨e, ?_, ?_⟩
  · unfold hasB; rw [hl]; exact decide_eq_true hk
  · unfold behind; rw [hl]
theorem upTo_none (c : UInt8) (l : List UInt8) (h : ∀ j (hj : j < l.length), l[j] ≠ c) : hasB c l = false := by
  have e : upTo c l = l := by
    unfold upTo
    have := @List.takeWhile_append_of_pos _ (fun x => x != c) l [] (by
      intro x hx
      obtain ⟨j, hj, rfl⟩ := List.getElem_of_mem hx
      simpa using h j hj)
    simpa using this
  unfold hasB; rw [e]; exact decide_eq_false (Nat.lt_irrefl _)
/-- two numbers, if both are -/
def twoA (a b : List UInt8) : Nat := if twoE a b = 0 then numV a else 0
def twoB (a b : List UInt8) : Nat := if twoE a b = 0 then numV b else 0
theorem prefix_asks (l : List UInt8) (h : 6 ≤ l.length) : asksL.isPrefixOf l = (l.take 6 == asksL) := by
  rw [Bool.eq_iff_iff, beq_iff_eq, List.isPrefixOf_iff_prefix, List.prefix_iff_eq_take]
  exact ⟨fun e => e.symm, fun e => e.symm⟩
theorem prefix_short (l : List UInt8) (h : l.length < 6) : asksL.isPrefixOf l = false := by
  rw [Bool.eq_false_iff]
  intro hp
  have := (List.isPrefixOf_iff_prefix.1 hp).length_le
  have e : asksL.length = 6 := rfl
  omega
end Go.Proofs.YtiljjkdpjbffbaaGreatDoor
namespace Go.Proofs.YtiljjkdpjbffbaaGreatDoor
open Go.RowKit

def pathN (x : Nat) : Bool := decide (33 ≤ x) && decide (x ≤ 126)
def pathB (l : List UInt8) : Bool := [47].isPrefixOf l && decide (l.length ≤ 64) && l.all (fun c => pathN c.toNat)
def hostN (x : Nat) : Bool := letN x || digN x || x == 45 || x == 46
def hostB (l : List UInt8) : Bool := !l.isEmpty && decide (l.length ≤ 32) && l.all (fun c => hostN c.toNat)
theorem pathN_ge (x : Nat) (h : 128 ≤ x) : pathN x = false := by unfold pathN; rw [decide_eq_false (show ¬ x ≤ 126 by omega), Bool.and_false]
theorem hostN_ge (x : Nat) (h : 128 ≤ x) : hostN x = false := by
  unfold hostN letN digN
  rw [decide_eq_false (show ¬ x ≤ 122 by omega), decide_eq_false (show ¬ x ≤ 57 by omega), beq_eq_false_iff_ne.2 (show x ≠ 45 by omega), beq_eq_false_iff_ne.2 (show x ≠ 46 by omega), Bool.and_false, Bool.and_false]; rfl
theorem hostN_of (x : Nat) (a b c d e f : Bool) (h1 : decide (97 ≤ x) = a) (h2 : decide (x ≤ 122) = b) (h3 : decide (48 ≤ x) = c) (h4 : decide (x ≤ 57) = d) (h5 : (x == 45) = e) (h6 : (x == 46) = f) : hostN x = ((a && b) || (c && d) || e || f) := by
  unfold hostN letN digN
  rw [h1, h2, h3, h4, h5, h6]
theorem dec_cast (x k : Nat) (a : Bool) (h : decide (k ≤ x) = a) : decide ((x : Int) ≥ (k : Int)) = a := by
  rw [← h]; exact decide_eq_decide.2 (by omega)
theorem dec_cast2 (x k : Nat) (a : Bool) (h : decide (x ≤ k) = a) : decide ((x : Int) ≤ (k : Int)) = a := by
  rw [← h]; exact decide_eq_decide.2 (by omega)
theorem beq_cast (x k : Nat) (a : Bool) (h : (x == k) = a) : ((x : Int) == (k : Int)) = a := by
  rw [← h, Bool.eq_iff_iff, beq_iff_eq, beq_iff_eq]; omega
theorem all_path_eq (s : ByteArray) : decide (Lib.idxFunc (fun x => !pathN x) true s < 0) = s.data.toList.all (fun c => pathN c.toNat) := by
  rw [idx_all _ (fun x h => by rw [pathN_ge x h]; rfl)]; simp
theorem all_host_eq (s : ByteArray) : decide (Lib.idxFunc (fun x => !hostN x) true s < 0) = s.data.toList.all (fun c => hostN c.toNat) := by
  rw [idx_all _ (fun x h => by rw [hostN_ge x h]; rfl)]; simp
end Go.Proofs.YtiljjkdpjbffbaaGreatDoor
namespace Go.Proofs.YtiljjkdpjbffbaaGreatDoor
open Go.RowKit

theorem all_iff (l : List UInt8) (p : Nat → Bool) (h : ∀ j (hj : j < l.length), p l[j].toNat = true) : l.all (fun c => p c.toNat) = true := by
  rw [List.all_eq_true]
  intro c hc
  obtain ⟨j, hj, rfl⟩ := List.getElem_of_mem hc
  exact h j hj
theorem all_not (l : List UInt8) (p : Nat → Bool) (j : Nat) (hj : j < l.length) (h : p l[j].toNat = false) : l.all (fun c => p c.toNat) = false := by
  rw [List.all_eq_false]
  exact ⟨l[j], List.getElem_mem hj, by rw [h]; decide⟩
theorem slash_iff (s : ByteArray) (h : 0 < s.size) : [47].isPrefixOf s.data.toList = (s[0] == 47) := by
  have := List.drop_eq_getElem_cons (l := s.data.toList) (i := 0) (by rw [size_len]; exact h)
  rw [List.drop_zero] at this
  rw [this]
  show ((47 : UInt8) == s[0] && true) = _
  rw [Bool.and_true, Bool.eq_iff_iff, beq_iff_eq, beq_iff_eq]
  exact ⟨fun e => e.symm, fun e => e.symm⟩
theorem dec_lt (x k : Nat) (a : Bool) (h : decide (k ≤ x) = a) : decide ((x : Int) < (k : Int)) = !a := by
  rw [← h, ← decide_not]; exact decide_eq_decide.2 (by omega)
theorem dec_gt (x k : Nat) (a : Bool) (h : decide (x ≤ k) = a) : decide ((x : Int) > (k : Int)) = !a := by
  rw [← h, ← decide_not]; exact decide_eq_decide.2 (by omega)
theorem bne_cast (x k : Nat) (a : Bool) (h : (x == k) = a) : ((x : Int) != (k : Int)) = !a := by
  rw [← beq_cast x k a h]; rfl
end Go.Proofs.YtiljjkdpjbffbaaGreatDoor
namespace Go.Proofs.YtiljjkdpjbffbaaGreatDoor
open Go.RowKit

theorem kcell {W w1 : World} (hb : Below W.heap.size W w1) : (∀ b o, b < W.heap.size → w1.cell? ⟨b, o, none⟩ = W.cell? ⟨b, o, none⟩) ∧ (∀ b o, b < W.heap.size → w1.frozen? ⟨b, o, none⟩ = W.frozen? ⟨b, o, none⟩) :=
  ⟨fun b o h => hb.cell (p := ⟨b, o, none⟩) h, fun b o h => hb.frozen (p := ⟨b, o, none⟩) h⟩
theorem ret_cell {fn : Func} {R : Ending → World → Prop} {a : Act} {w : World} {A : Addr} {V : Value} {p : Tmp} {ty : TypeId} (hres : fn.results = #[.cell p ty])
    (hload : (loadVar ty A).run Tryz.prog w = .ok V w)
    (hp : a.tmps.getD p undef = .pointer (some A)) (hdef : a.defers = [])
    (hR : R (.returned V) w) : bodyPost Tryz.prog fn R .ret a w := by
  refine bodyPost_ret_by (v := V) ?_ hdef hR
  have hp' : a.tmps[p]?.getD undef = .pointer (some A) := by simpa using hp
  simp [results, hres, hp', asAddr, hload]
theorem ret_cell2 {fn : Func} {R : Ending → World → Prop} {a : Act} {w : World} {A : Addr} {V E : Value} {p u : Tmp} {ty : TypeId} (hres : fn.results = #[.cell p ty, .tmp u])
    (hload : (loadVar ty A).run Tryz.prog w = .ok V w)
    (hp : a.tmps.getD p undef = .pointer (some A)) (hE : a.tmps.getD u undef = E) (hdef : a.defers = [])
    (hR : R (.returned (.tuple #[V, E])) w) : bodyPost Tryz.prog fn R .ret a w := by
  refine bodyPost_ret_by (v := .tuple #[V, E]) ?_ hdef hR
  rw [results_cell_tmp hres, hp, hE]
  simp [asAddr, hload, Result.andThen]
theorem ret_cell3 {fn : Func} {R : Ending → World → Prop} {a : Act} {w : World} {A : Addr} {V E F : Value} {p u v : Tmp} {ty : TypeId} (hres : fn.results = #[.cell p ty, .tmp u, .tmp v])
    (hload : (loadVar ty A).run Tryz.prog w = .ok V w)
    (hp : a.tmps.getD p undef = .pointer (some A)) (hE : a.tmps.getD u undef = E) (hF : a.tmps.getD v undef = F) (hdef : a.defers = [])
    (hR : R (.returned (.tuple #[V, E, F])) w) : bodyPost Tryz.prog fn R .ret a w := by
  refine bodyPost_ret_by (v := .tuple #[V, E, F]) ?_ hdef hR
  have hp' : a.tmps[p]?.getD undef = .pointer (some A) := by simpa using hp
  have hE' : a.tmps[u]?.getD undef = E := by simpa using hE
  have hF' : a.tmps[v]?.getD undef = F := by simpa using hF
  simp [results, hres, hp', hE', hF', asAddr, hload, Result.andThen]
end Go.Proofs.YtiljjkdpjbffbaaGreatDoor
namespace Go.Proofs.YtiljjkdpjbffbaaGreatDoor
open Go.RowKit

/-- may a request be? -/
def aErr (p h : List UInt8) (a b : Int) : Nat := if pathB p = false ∨ hostB h = false then 2 else rErr a b
theorem box4 (w : World) (x y z u : Value) (t : TypeId) : (w.alloc (.cells #[x, y, z, u] t)).cell? ⟨w.heap.size, 0, none⟩ = some x ∧ (w.alloc (.cells #[x, y, z, u] t)).cell? ⟨w.heap.size, 1, none⟩ = some y ∧ (w.alloc (.cells #[x, y, z, u] t)).cell? ⟨w.heap.size, 2, none⟩ = some z ∧ (w.alloc (.cells #[x, y, z, u] t)).cell? ⟨w.heap.size, 3, none⟩ = some u := by
  have hh := heap_alloc_new w (.cells #[x, y, z, u] t)
  refine ⟨?_, ?_, ?_, ?_⟩ <;> (unfold World.cell?; rw [hh]; rfl)
theorem below_agg4 (w : World) (x y z u : Value) (t : TypeId) : Below w.heap.size w (w.alloc (.cells #[x, y, z, u] t)) := (Below.refl _ _).alloc (Nat.le_refl _) _
theorem box_four {w w1 : World} {x y z u : Value} {t : TypeId} (hb : Below (w.alloc (.cells #[x, y, z, u] t)).heap.size (w.alloc (.cells #[x, y, z, u] t)) w1) : w1.cell? ⟨w.heap.size, 0, none⟩ = some x ∧ w1.cell? ⟨w.heap.size, 1, none⟩ = some y ∧ w1.cell? ⟨w.heap.size, 2, none⟩ = some z ∧ w1.cell? ⟨w.heap.size, 3, none⟩ = some u := by
  obtain ⟨a, b, c, d⟩ := box4 w x y z u t
  exact ⟨(hb.cell (p := ⟨w.heap.size, 0, none⟩) (by simp)).trans a, (hb.cell (p := ⟨w.heap.size, 1, none⟩) (by simp)).trans b, (hb.cell (p := ⟨w.heap.size, 2, none⟩) (by simp)).trans c, (hb.cell (p := ⟨w.heap.size, 3, none⟩) (by simp)).trans d⟩
theorem four_set {w : World} {b : Nat} {x y z u : Value} {t : TypeId} (h : w.heap[b]? = some (.cells #[x, y, z, u] t (0, 0))) (x' y' z' u' : Value) :
    ((((w.setCell ⟨b, 0, none⟩ x').setCell ⟨b, 1, none⟩ y').setCell ⟨b, 2, none⟩ z').setCell ⟨b, 3, none⟩ u').heap[b]? = some (.cells #[x', y', z', u'] t (0, 0)) := by
  simp [World.setCell, Array.getElem?_modify, h]
theorem four_below {B : Nat} {w0 w : World} (h : Below B w0 w) (b : Nat) (hB : B ≤ b) (x' y' z' u' : Value) : Below B w0 ((((w.setCell ⟨b, 0, none⟩ x').setCell ⟨b, 1, none⟩ y').setCell ⟨b, 2, none⟩ z').setCell ⟨b, 3, none⟩ u') :=
  (((h.setCell (p := ⟨b, 0, none⟩) hB _).setCell (p := ⟨b, 1, none⟩) hB _).setCell (p := ⟨b, 2, none⟩) hB _).setCell (p := ⟨b, 3, none⟩) hB _
end Go.Proofs.YtiljjkdpjbffbaaGreatDoor
namespace Go.Proofs.YtiljjkdpjbffbaaGreatDoor

def words : List UInt8 → List (List UInt8)
  | [] => [[]]
  | c :: r => if c = 32 then [] :: words r else match words r with
    | w :: ws => (c :: w) :: ws
    | [] => [[c]]

theorem words_ne (l : List UInt8) : words l ≠ [] := by
  cases l with
  | nil => simp [words]
  | cons c r =>
    unfold words
    split
    · simp
    · split <;> simp

/-- bytes put ahead of the first word -/
def addPre (p : List UInt8) : List (List UInt8) → List (List UInt8)
  | [] => [p]
  | w :: t => (p ++ w) :: t

theorem addPre_nil (l : List UInt8) : addPre [] (words l) = words l := by
  cases h : words l with
  | nil => exact absurd h (words_ne l)
  | cons w t => rfl

theorem addPre_blank (p r : List UInt8) : addPre p (words (32 :: r)) = p :: words r := by
  rw [words, if_pos rfl]; simp [addPre]

theorem addPre_other (p r : List UInt8) (c : UInt8) (hc : c ≠ 32) : addPre p (words (c :: r)) = addPre (p ++ [c]) (words r) := by
  rw [words, if_neg hc]
  cases h : words r with
  | nil => exact absurd h (words_ne r)
  | cons w t => simp [addPre]

open Go.Lib in
theorem index_cons (c : UInt8) (r : List UInt8) : index (c :: r) [32] = if c = 32 then 0 else if index r [32] == -1 then -1 else index r [32] + 1 := by
  by_cases h : c = 32
  · subst h
    unfold index
    simp
  · rw [if_neg h]
    have h0 : [(32 : UInt8)].isPrefixOf (c :: r) = false := by simp [List.isPrefixOf]; exact fun e => h e.symm
    rw [index.eq_def]
    simp only [h0]
    rfl

open Go.Lib in
theorem split_words (l : List UInt8) : split l [32] = words l := by
  induction l with
  | nil => rfl
  | cons c r ih =>
    by_cases hc : c = 32
    · have hi : index (c :: r) [32] = (0 : Nat) := by rw [index_cons, if_pos hc]; rfl
      unfold split
      rw [count_hit (by simp) hi, Nat.add_comm, splitK, if_neg (by rw [hi]; decide), hi, words, if_pos hc, ← ih]
      rfl
    · rw [words, if_neg hc]
      rcases index_spec r [32] with ⟨hm, _⟩ | ⟨i, hi, _⟩
      · have h1 : index (c :: r) [32] = -1 := by rw [index_cons, if_neg hc, hm]; rfl
        have e1 : split (c :: r) [32] = [c :: r] := by unfold split; rw [count_miss h1]; rfl
        have e2 : split r [32] = [r] := by unfold split; rw [count_miss hm]; rfl
        rw [e1, ← ih, e2]
      · have h1 : index (c :: r) [32] = ((i + 1 : Nat) : Int) := by
          rw [index_cons, if_neg hc, hi, if_neg (by simp <;> omega)]; rfl
        have e1 : split (c :: r) [32] = (c :: r.take i) :: splitK [32] 0 (count (r.drop (i + 1)) [32]) (r.drop (i + 1)) := by
          unfold split
          rw [count_hit (by simp) h1, Nat.add_comm, splitK, if_neg (by rw [h1]; simp <;> omega), h1]
          rfl
        have e2 : split r [32] = (r.take i) :: splitK [32] 0 (count (r.drop (i + 1)) [32]) (r.drop (i + 1)) := by
          unfold split
          rw [count_hit (by simp) hi, Nat.add_comm, splitK, if_neg (by rw [hi]; simp <;> omega), hi]
          rfl
        rw [e1, ← ih, e2]

open Go.Lib in
/-- what strings.Split lays, cut at a blank. -/
theorem splitB_words (s : ByteArray) : (splitB ⟨#[32]⟩ 0 (countB s ⟨#[32]⟩) s).map Value.string = strs (words s.data.toList) := by
  have h := splitB_data ⟨#[32]⟩ 0 (countB s ⟨#[32]⟩) s
  have h2 : splitK (⟨#[32]⟩ : ByteArray).data.toList 0 (countB s ⟨#[32]⟩) s.data.toList = words s.data.toList := split_words s.data.toList
  rw [h2] at h
  unfold strs
  rw [← h, List.map_map]
  apply List.map_congr_left
  intro x _
  simp only [Function.comp_apply, bs_self]

open Go.Lib in
theorem countB_words (s : ByteArray) : countB s ⟨#[32]⟩ + 1 = (words s.data.toList).length := by
  have h := splitB_words s
  have h2 := congrArg List.length h
  rw [strs_length, List.length_map] at h2
  rw [← h2]
  have h3 := splitB_data ⟨#[32]⟩ 0 (countB s ⟨#[32]⟩) s
  have key : ∀ l : List UInt8, (split l [32]).length = count l [32] + 1 := by
    intro l
    induction l with
    | nil => rfl
    | cons c r ih =>
      rcases index_spec (c :: r) [32] with ⟨hm, _⟩ | ⟨i, hi, _⟩
      · have e1 : split (c :: r) [32] = [c :: r] := by unfold split; rw [count_miss hm]; rfl
        rw [e1, count_miss hm]; rfl
      · by_cases hc : c = 32
        · have hi0 : index (c :: r) [32] = (0 : Nat) := by rw [index_cons, if_pos hc]; rfl
          have e2 : split (c :: r) [32] = [] :: split r [32] := by
            unfold split
            rw [count_hit (by simp) hi0, Nat.add_comm, splitK, if_neg (by rw [hi0]; decide), hi0]; rfl
          rw [e2, count_hit (by simp) hi0, List.length_cons, ih]
          show _ = 1 + count r [32] + 1
          omega
        · rcases index_spec r [32] with ⟨hm, _⟩ | ⟨j, hj, _⟩
          · have h1 : index (c :: r) [32] = -1 := by rw [index_cons, if_neg hc, hm]; rfl
            rw [h1] at hi; omega
          · have h1 : index (c :: r) [32] = ((j + 1 : Nat) : Int) := by
              rw [index_cons, if_neg hc, hj, if_neg (by simp <;> omega)]; rfl
            have e1 : split (c :: r) [32] = (c :: r.take j) :: splitK [32] 0 (count (r.drop (j + 1)) [32]) (r.drop (j + 1)) := by
              unfold split
              rw [count_hit (by simp) h1, Nat.add_comm, splitK, if_neg (by rw [h1]; simp <;> omega), h1]
              rfl
            have e2 : split r [32] = (r.take j) :: splitK [32] 0 (count (r.drop (j + 1)) [32]) (r.drop (j + 1)) := by
              unfold split
              rw [count_hit (by simp) hj, Nat.add_comm, splitK, if_neg (by rw [hj]; simp <;> omega), hj]
              rfl
            have e3 : count (c :: r) [32] = count r [32] := by
              rw [count_hit (by simp) h1, count_hit (by simp) hj]; rfl
            rw [e1, e3, ← ih, e2]; rfl
  have h4 := key s.data.toList
  have h5 := congrArg List.length h3
  rw [List.length_map] at h5
  rw [h5]
  exact h4.symm
end Go.Proofs.YtiljjkdpjbffbaaGreatDoor
namespace Go.Proofs.YtiljjkdpjbffbaaGreatDoor
open Go.RowKit

theorem words_blank (l : List UInt8) (a i : Nat) (hi : i < l.length) (h : l[i] = 32) (xs : List (List UInt8)) (hw : words l = xs ++ addPre ((l.take i).drop a) (words (l.drop i))) :
    words l = (xs ++ [(l.take i).drop a]) ++ addPre ((l.take (i + 1)).drop (i + 1)) (words (l.drop (i + 1))) := by
  rw [List.drop_eq_getElem_cons hi, h, addPre_blank] at hw
  rw [hw, show (l.take (i + 1)).drop (i + 1) = [] from List.drop_of_length_le (List.length_take_le _ _), addPre_nil]
  simp
theorem words_other (l : List UInt8) (a i : Nat) (ha : a ≤ i) (hi : i < l.length) (h : l[i] ≠ 32) (xs : List (List UInt8)) (hw : words l = xs ++ addPre ((l.take i).drop a) (words (l.drop i))) :
    words l = xs ++ addPre ((l.take (i + 1)).drop a) (words (l.drop (i + 1))) := by
  rw [List.drop_eq_getElem_cons hi, addPre_other _ _ _ h] at hw
  rw [hw, List.take_succ_eq_append_getElem hi, List.drop_append_of_le_length (by simp; omega)]
theorem words_end (l : List UInt8) (a : Nat) (xs : List (List UInt8)) (hw : words l = xs ++ addPre ((l.take l.length).drop a) (words (l.drop l.length))) : words l = xs ++ [l.drop a] := by
  rw [List.drop_length, List.take_length] at hw
  rw [hw]; simp [words, addPre]

end Go.Proofs.YtiljjkdpjbffbaaGreatDoor
namespace Go.Proofs.YtiljjkdpjbffbaaGreatDoor
open Go.RowKit

def headR : Nat → ByteArray → Int → List (List UInt8) → List (List UInt8) × Int × Nat
  | 0, _, _, _ => ([], 0, 21)
  | f + 1, s, a, xs => if takeErr s a ≠ 0 then ([], 0, takeErr s a) else if (takeLine s a).toList.isEmpty = true then (xs, takeNext s a, 0)
      else if xs.length = 17 then ([], 0, 21) else headR f s (takeNext s a) (xs ++ [(takeLine s a).data.toList])
/-- the lines of a head, the place behind it, and the error. -/
def headOf (s : ByteArray) : List (List UInt8) × Int × Nat := headR 18 s 0 []

theorem headR_err (f : Nat) (s : ByteArray) (a : Int) (xs : List (List UInt8)) (h : takeErr s a ≠ 0) : headR (f + 1) s a xs = ([], 0, takeErr s a) := by rw [headR, if_pos h]
theorem headR_end (f : Nat) (s : ByteArray) (a : Int) (xs : List (List UInt8)) (h : takeErr s a = 0) (h2 : (takeLine s a).toList.isEmpty = true) : headR (f + 1) s a xs = (xs, takeNext s a, 0) := by
  rw [headR, if_neg (by simp [h]), if_pos h2]
theorem headR_many (f : Nat) (s : ByteArray) (a : Int) (xs : List (List UInt8)) (h : takeErr s a = 0) (h2 : (takeLine s a).toList.isEmpty = false) (h3 : xs.length = 17) : headR (f + 1) s a xs = ([], 0, 21) := by
  rw [headR, if_neg (by simp [h]), if_neg (by simp [h2]), if_pos h3]
theorem headR_more (f : Nat) (s : ByteArray) (a : Int) (xs : List (List UInt8)) (h : takeErr s a = 0) (h2 : (takeLine s a).toList.isEmpty = false) (h3 : xs.length ≠ 17) : headR (f + 1) s a xs = headR f s (takeNext s a) (xs ++ [(takeLine s a).data.toList]) := by
  rw [headR, if_neg (by simp [h]), if_neg (by simp [h2]), if_neg h3]

/-- the answer of a head, as it lies in memory. -/
def HeadPost (s : ByteArray) (w : World) (e : Ending) (w' : World) : Prop :=
  ∃ v, e = .returned (.tuple #[v, .int .i64 (headOf s).2.1, .int .i64 (headOf s).2.2]) ∧ w'.ownsRow w.heap.size 9 1 v (headOf s).1.length (strs (headOf s).1) ∧ Below w.heap.size w w'

def HeadRel (s : ByteArray) (w : World) (v j : Value) (wr : World) : Prop :=
  ∃ (a : Int) (xs : List (List UInt8)), xs.length ≤ 17 ∧ j = .int .i64 a ∧ wr.ownsRow w.heap.size 9 1 v xs.length (strs xs) ∧ Below w.heap.size w wr ∧ headR (18 - xs.length) s a xs = headOf s

theorem head_fin (s : ByteArray) (w w' : World) (v : Value) (n : Int) (e : Nat) (xs : List (List UInt8)) (h : headOf s = (xs, n, e)) (hown : w'.ownsRow w.heap.size 9 1 v xs.length (strs xs)) (hb : Below w.heap.size w w') :
    HeadPost s w (.returned (.tuple #[v, .int .i64 n, .int .i64 e])) w' := by
  unfold HeadPost
  rw [h]
  exact ⟨v, rfl, hown, hb⟩

theorem slice_of_own {w : World} {base n : Nat} {e : TypeId} {size : Nat} {v : Value} {xs : List Value} (h : w.ownsRow base e size v n xs) : ∃ a c, v = .slice a n c := by
  rcases h.2 with ⟨rfl, rfl⟩ | ⟨g, cap, cur, rfl, _⟩
  · exact ⟨_, _, rfl⟩
  · exact ⟨_, _, rfl⟩

def headM (v : Value) : Nat := match v with
  | .slice _ n _ => 18 - n
  | _ => 0

set_option maxRecDepth 100000 in
set_option maxHeartbeats 2000000 in
theorem lines_head (s : ByteArray) (w : World) (hs : s.size ≤ 9223372036854775807) :
    Calls Tryz.prog 31 #[.string s] w (HeadPost s w) := by
  go_enter Tryz.func31, Tryz.ntmps31
  go_wp2_with fail
  go_loopw [2, 5] (fun v j wr => HeadRel s w v j wr) (fun v _ _ => headM v)
  case atStart => exact ⟨0, [], by simp, rfl, World.ownsRow_nil _ _ _ _, Below.refl _ _, rfl⟩
  case round =>
    obtain ⟨a, xs, hx, rfl, hown, hb, hr⟩ := hrel
    obtain ⟨av, cv, rfl⟩ := slice_of_own hown
    obtain ⟨f, hf⟩ : ∃ f, 18 - xs.length = f + 1 := ⟨17 - xs.length, by omega⟩
    rw [hf] at hr
    by_cases he : takeErr s a = 0
    · have he' : ((takeErr s a : Nat) : Int) = 0 := by omega
      by_cases hl : (takeLine s a).toList.isEmpty = true
      · have H := Lib.hid ((headR_end f s a xs he hl).symm.trans hr)
        have Hf := Lib.hid hf
        clear hr hf he
        go_wp2_with (go_at_call 56; refine (lines_take _ _ _ hs).mono ?_; rintro e w' ⟨rfl, rfl⟩)
        go_ret3
        exact head_fin s w _ _ _ 0 xs H.out.symm hown hb
      · have hl' : (takeLine s a).toList.isEmpty = false := by simpa using hl
        clear hl
        by_cases h17 : xs.length = 17
        · have H := Lib.hid ((headR_many f s a xs he hl' h17).symm.trans hr)
          have Hf := Lib.hid hf
          have hd : 16 < xs.length := by omega
          have H17 := Lib.hid h17
          clear hr hf he h17
          go_wp2_with (go_at_call 56; refine (lines_take _ _ _ hs).mono ?_; rintro e w' ⟨rfl, rfl⟩)
          go_ret3
          exact head_fin s w _ _ _ 21 [] H.out.symm (World.ownsRow_nil _ _ _ _) hb
        · have H := Lib.hid ((headR_more f s a xs he hl' h17).symm.trans hr)
          have Hf := Lib.hid hf
          have hd : xs.length < 17 := by omega
          have hd2 : xs.length ≤ 16 := by omega
          clear hr hf he h17
          have He := Lib.hid (bs_self (takeLine s a)).symm
          go_wp2_with (first
            | (go_at_call 56; refine (lines_take _ _ _ hs).mono ?_; rintro e w' ⟨rfl, rfl⟩)
            | (at_builtin; refine append_str _ (by rfl) _ _ (by rfl) w.heap.size _ xs (by rfl) hown (takeLine s a) (takeLine s a).data.toList He.out (by rfl) (by omega) hb.size ?_; intro v' w1 hown1 hg1 hne1))
          have hb1 := below_own hb hg1 hown (Nat.le_refl _) hb.size
          have hlen : (xs ++ [(takeLine s a).data.toList]).length = xs.length + 1 := by simp
          obtain ⟨av', cv', rfl⟩ := slice_of_own hown1
          go_roundw
          case rel => exact ⟨takeNext s a, xs ++ [(takeLine s a).data.toList], by omega, rfl, hown1, hb1, by rw [← H.out, hlen]; congr 1; have := Hf.out; omega⟩
          case measure => simp [headM]; omega
    · have he' : (((takeErr s a : Nat) : Int) != 0) = true := by rw [bne_iff_ne]; omega
      have H := Lib.hid ((headR_err f s a xs he).symm.trans hr)
      have Hf := Lib.hid hf
      clear hr hf he
      go_wp2_with (go_at_call 56; refine (lines_take _ _ _ hs).mono ?_; rintro e w' ⟨rfl, rfl⟩)
      go_ret3
      exact head_fin s w _ _ _ _ [] H.out.symm (World.ownsRow_nil _ _ _ _) hb

set_option maxRecDepth 100000 in
set_option maxHeartbeats 2000000 in
theorem ref_head (s : ByteArray) (w : World) (hs : s.size ≤ 9223372036854775807) :
    Calls Tryz.prog 34 #[.string s] w (HeadPost s w) := by
  go_enter Tryz.func34, Tryz.ntmps34
  go_wp2_with fail
  go_loopw [5, 6] (fun v j wr => HeadRel s w v j wr) (fun v _ _ => headM v)
  case atStart => exact ⟨0, [], by simp, rfl, World.ownsRow_nil _ _ _ _, Below.refl _ _, rfl⟩
  case round =>
    obtain ⟨a, xs, hx, rfl, hown, hb, hr⟩ := hrel
    obtain ⟨av, cv, rfl⟩ := slice_of_own hown
    obtain ⟨f, hf⟩ : ∃ f, 18 - xs.length = f + 1 := ⟨17 - xs.length, by omega⟩
    rw [hf] at hr
    by_cases he : takeErr s a = 0
    · have he' : ((takeErr s a : Nat) : Int) = 0 := by omega
      by_cases hl : (takeLine s a).toList.isEmpty = true
      · have H := Lib.hid ((headR_end f s a xs he hl).symm.trans hr)
        have Hf := Lib.hid hf
        clear hr hf he
        go_wp2_with (go_at_call 64; refine (ref_take _ _ _ hs).mono ?_; rintro e w' ⟨rfl, rfl⟩)
        go_ret3
        exact head_fin s w _ _ _ 0 xs H.out.symm hown hb
      · have hl' : (takeLine s a).toList.isEmpty = false := by simpa using hl
        clear hl
        by_cases h17 : xs.length = 17
        · have H := Lib.hid ((headR_many f s a xs he hl' h17).symm.trans hr)
          have Hf := Lib.hid hf
          have hd : 16 < xs.length := by omega
          have H17 := Lib.hid h17
          clear hr hf he h17
          go_wp2_with (go_at_call 64; refine (ref_take _ _ _ hs).mono ?_; rintro e w' ⟨rfl, rfl⟩)
          go_ret3
          exact head_fin s w _ _ _ 21 [] H.out.symm (World.ownsRow_nil _ _ _ _) hb
        · have H := Lib.hid ((headR_more f s a xs he hl' h17).symm.trans hr)
          have Hf := Lib.hid hf
          have hd : xs.length < 17 := by omega
          have hd2 : xs.length ≤ 16 := by omega
          clear hr hf he h17
          have He := Lib.hid (bs_self (takeLine s a)).symm
          go_wp2_with (first
            | (go_at_call 64; refine (ref_take _ _ _ hs).mono ?_; rintro e w' ⟨rfl, rfl⟩)
            | (at_builtin; refine append_str _ (by rfl) _ _ (by rfl) w.heap.size _ xs (by rfl) hown (takeLine s a) (takeLine s a).data.toList He.out (by rfl) (by omega) hb.size ?_; intro v' w1 hown1 hg1 hne1))
          have hb1 := below_own hb hg1 hown (Nat.le_refl _) hb.size
          have hlen : (xs ++ [(takeLine s a).data.toList]).length = xs.length + 1 := by simp
          obtain ⟨av', cv', rfl⟩ := slice_of_own hown1
          go_roundw
          case rel => exact ⟨takeNext s a, xs ++ [(takeLine s a).data.toList], by omega, rfl, hown1, hb1, by rw [← H.out, hlen]; congr 1; have := Hf.out; omega⟩
          case measure => simp [headM]; omega
    · have he' : (((takeErr s a : Nat) : Int) != 0) = true := by rw [bne_iff_ne]; omega
      have H := Lib.hid ((headR_err f s a xs he).symm.trans hr)
      have Hf := Lib.hid hf
      clear hr hf he
      go_wp2_with (go_at_call 64; refine (ref_take _ _ _ hs).mono ?_; rintro e w' ⟨rfl, rfl⟩)
      go_ret3
      exact head_fin s w _ _ _ _ [] H.out.symm (World.ownsRow_nil _ _ _ _) hb
end Go.Proofs.YtiljjkdpjbffbaaGreatDoor
namespace Go.Proofs.YtiljjkdpjbffbaaGreatDoor
open Go.RowKit

def plainL (x : List UInt8) : Prop := ∀ c ∈ x, plainB c.toNat = true
/-- the lines, each with its end. -/
def body : List (List UInt8) → List UInt8
  | [] => []
  | x :: t => x ++ 13 :: 10 :: body t
theorem body_append (l m : List (List UInt8)) : body (l ++ m) = body l ++ body m := by
  induction l with
  | nil => rfl
  | cons x t ih => simp [body, ih]

theorem plain_not13 : plainB 13 = false := by decide

theorem scan_line (x rest : List UInt8) : ∀ n, plainL x → n + x.length ≤ 256 → scan (x ++ 13 :: 10 :: rest) n = (n + x.length, 0) := by
  induction x with
  | nil => intro n _ _; rw [List.nil_append, scan, if_neg (by simp), if_pos (by simp)]; rfl
  | cons c t ih =>
    intro n hp hl
    have hc := hp c (List.mem_cons_self ..)
    have h13 : c ≠ 13 := fun e => by rw [e] at hc; exact absurd hc (by decide)
    rw [List.cons_append, scan, if_neg (by simp [h13]), if_neg (by simp [h13]), if_neg (by simp [hc]), if_neg (by simp at hl; omega), ih (n + 1) (fun c h => hp c (List.mem_cons_of_mem _ h)) (by simp at hl; omega)]
    simp; omega

/-- a proper beginning of a line with its end is too short. -/
theorem scan_cut (x : List UInt8) : ∀ n k, plainL x → n + x.length ≤ 256 → k < x.length + 2 → (scan ((x ++ [13, 10]).take k) n).2 = 3 := by
  induction x with
  | nil =>
    intro n k _ _ hk
    match k, hk with
    | 0, _ => simp [scan]
    | 1, _ => simp [scan]
  | cons c t ih =>
    intro n k hp hl hk
    cases k with
    | zero => simp [scan]
    | succ k =>
      have hc := hp c (List.mem_cons_self ..)
      have h13 : c ≠ 13 := fun e => by rw [e] at hc; exact absurd hc (by decide)
      rw [List.cons_append, List.take_succ_cons, scan, if_neg (by simp [h13]), if_neg (by simp [h13]), if_neg (by simp [hc]), if_neg (by simp at hl; omega)]
      exact ih (n + 1) k (fun c h => hp c (List.mem_cons_of_mem _ h)) (by simp at hl; omega) (by simp at hk; omega)

theorem take_line (s : ByteArray) (pre x rest : List UInt8) (hs : s.data.toList = pre ++ (x ++ 13 :: 10 :: rest)) (hp : plainL x) (hl : x.length ≤ 256) :
    takeErr s (pre.length : Int) = 0 ∧ takeLine s (pre.length : Int) = bs x ∧ takeNext s (pre.length : Int) = ((pre ++ (x ++ [13, 10])).length : Int) := by
  have hsz : pre.length ≤ s.size := by rw [← size_len, hs]; simp
  have hsc : scanAt s.data.toList pre.length 0 = (x.length, 0) := by
    unfold scanAt
    rw [hs, List.drop_left, scan_line x rest 0 hp (by omega)]; simp
  have he : takeErr s (pre.length : Int) = 0 := by rw [takeErr_in s _ hsz, hsc]
  refine ⟨he, ?_, ?_⟩
  · unfold takeLine
    rw [if_pos he, Int.toNat_natCast, hsc, extract_bs, hs]
    congr 1
    rw [← List.append_assoc, ← List.length_append, List.take_left, List.drop_left]
  · unfold takeNext
    rw [if_pos he, Int.toNat_natCast, hsc]
    simp; omega

theorem take_cut (s : ByteArray) (pre x : List UInt8) (k : Nat) (hs : s.data.toList = pre ++ (x ++ [13, 10]).take k) (hk : k < x.length + 2) (hp : plainL x) (hl : x.length ≤ 256) : takeErr s (pre.length : Int) = 3 := by
  have hsz : pre.length ≤ s.size := by rw [← size_len, hs]; simp
  rw [takeErr_in s _ hsz]
  unfold scanAt
  rw [hs, List.drop_left]
  exact scan_cut x 0 k hp (by omega) hk

theorem isEmpty_bs (x : List UInt8) : (bs x).toList.isEmpty = x.isEmpty := by rw [ByteArray.toList_eq, bs_data]

def goodLine (x : List UInt8) : Prop := x ≠ [] ∧ plainL x ∧ x.length ≤ 256

theorem head_ok (s : ByteArray) (rest : List UInt8) : ∀ (ls : List (List UInt8)) (pre : List UInt8) (xs : List (List UInt8)) (f : Nat), (∀ x ∈ ls, goodLine x) → xs.length + ls.length ≤ 17 → f + xs.length = 18 →
    s.data.toList = pre ++ (body ls ++ 13 :: 10 :: rest) → headR f s (pre.length : Int) xs = (xs ++ ls, ((pre ++ body ls).length : Int) + 2, 0) := by
  intro ls
  induction ls with
  | nil =>
    intro pre xs f _ hle hf hs
    obtain ⟨f, rfl⟩ : ∃ g, f = g + 1 := ⟨f - 1, by simp at hle; omega⟩
    obtain ⟨h1, h2, h3⟩ := take_line s pre [] rest (by simpa [body] using hs) (fun c h => by simp at h) (by simp)
    rw [headR_end f s _ xs h1 (by rw [h2, isEmpty_bs]; rfl), h3]
    simp [body]
  | cons x t ih =>
    intro pre xs f hg hle hf hs
    obtain ⟨hx0, hxp, hxl⟩ := hg x (List.mem_cons_self ..)
    obtain ⟨f, rfl⟩ : ∃ g, f = g + 1 := ⟨f - 1, by simp at hle; omega⟩
    have hs' : s.data.toList = pre ++ (x ++ 13 :: 10 :: (body t ++ 13 :: 10 :: rest)) := by rw [hs]; simp [body]
    obtain ⟨h1, h2, h3⟩ := take_line s pre x _ hs' hxp hxl
    rw [headR_more f s _ xs h1 (by rw [h2, isEmpty_bs]; cases x <;> simp_all) (by simp at hle; omega), h3, h2, bs_data]
    rw [ih (pre ++ (x ++ [13, 10])) (xs ++ [x]) f (fun y hy => hg y (List.mem_cons_of_mem _ hy)) (by simp at hle ⊢; omega) (by simp; omega) (by rw [hs']; simp)]
    simp [body]

theorem head_many (s : ByteArray) (rest : List UInt8) : ∀ (ls : List (List UInt8)) (pre : List UInt8) (xs : List (List UInt8)) (f : Nat), (∀ x ∈ ls, goodLine x) → 17 < xs.length + ls.length → xs.length ≤ 17 → f + xs.length = 18 →
    s.data.toList = pre ++ (body ls ++ 13 :: 10 :: rest) → headR f s (pre.length : Int) xs = ([], 0, 21) := by
  intro ls
  induction ls with
  | nil => intro pre xs f _ hle h2 _ _; simp at hle; omega
  | cons x t ih =>
    intro pre xs f hg hle h17 hf hs
    obtain ⟨hx0, hxp, hxl⟩ := hg x (List.mem_cons_self ..)
    obtain ⟨f, rfl⟩ : ∃ g, f = g + 1 := ⟨f - 1, by omega⟩
    have hs' : s.data.toList = pre ++ (x ++ 13 :: 10 :: (body t ++ 13 :: 10 :: rest)) := by rw [hs]; simp [body]
    obtain ⟨h1, h2, h3⟩ := take_line s pre x _ hs' hxp hxl
    have he : (takeLine s (pre.length : Int)).toList.isEmpty = false := by rw [h2, isEmpty_bs]; cases x <;> simp_all
    by_cases h : xs.length = 17
    · exact headR_many f s _ xs h1 he h
    · rw [headR_more f s _ xs h1 he h, h3, h2, bs_data]
      exact ih (pre ++ (x ++ [13, 10])) (xs ++ [x]) f (fun y hy => hg y (List.mem_cons_of_mem _ hy)) (by simp at hle ⊢; omega) (by simp; omega) (by simp; omega) (by rw [hs']; simp)

theorem head_cut (s : ByteArray) : ∀ (ls : List (List UInt8)) (pre : List UInt8) (xs : List (List UInt8)) (f k : Nat), (∀ x ∈ ls, goodLine x) → xs.length + ls.length ≤ 17 → f + xs.length = 18 →
    k < (body ls).length + 2 → s.data.toList = pre ++ (body ls ++ [13, 10]).take k → headR f s (pre.length : Int) xs = ([], 0, 3) := by
  intro ls
  induction ls with
  | nil =>
    intro pre xs f k _ hle hf hk hs
    obtain ⟨f, rfl⟩ : ∃ g, f = g + 1 := ⟨f - 1, by simp at hle; omega⟩
    have h := take_cut s pre [] k (by simpa [body] using hs) (by simpa [body] using hk) (fun c h => by simp at h) (by simp)
    rw [headR_err f s _ xs (by rw [h]; decide), h]
  | cons x t ih =>
    intro pre xs f k hg hle hf hk hs
    obtain ⟨hx0, hxp, hxl⟩ := hg x (List.mem_cons_self ..)
    obtain ⟨f, rfl⟩ : ∃ g, f = g + 1 := ⟨f - 1, by simp at hle; omega⟩
    have hb : body (x :: t) ++ [13, 10] = (x ++ [13, 10]) ++ (body t ++ [13, 10]) := by simp [body]
    rw [hb] at hs
    by_cases hkx : k < x.length + 2
    · rw [List.take_append_of_le_length (by simp; omega)] at hs
      have h := take_cut s pre x k hs hkx hxp hxl
      rw [headR_err f s _ xs (by rw [h]; decide), h]
    · have hlen : (x ++ [13, 10]).length ≤ k := by simp; omega
      rw [List.take_append, List.take_of_length_le hlen] at hs
      have hs' : s.data.toList = pre ++ (x ++ 13 :: 10 :: (body t ++ [13, 10]).take (k - (x ++ [13, 10]).length)) := by rw [hs]; simp
      obtain ⟨h1, h2, h3⟩ := take_line s pre x _ hs' hxp hxl
      rw [headR_more f s _ xs h1 (by rw [h2, isEmpty_bs]; cases x <;> simp_all) (by simp at hle; omega), h3, h2, bs_data]
      exact ih (pre ++ (x ++ [13, 10])) (xs ++ [x]) f (k - (x ++ [13, 10]).length) (fun y hy => hg y (List.mem_cons_of_mem _ hy)) (by simp at hle ⊢; omega) (by simp; omega) (by simp [body] at hk ⊢; omega) (by rw [hs]; simp)

theorem putErr_good (x : List UInt8) (h : putErr x = 0) : plainL x ∧ x.length ≤ 256 := by
  unfold putErr at h
  split at h
  · cases h
  · rename_i h1
    split at h
    · cases h
    · refine ⟨fun c hc => ?_, by omega⟩
      have h2 : (x.all fun c => plainB c.toNat) = true := by simpa using h1
      exact List.all_eq_true.1 h2 c hc
theorem putLine_bs (x : List UInt8) (h : putErr x = 0) : putLine (bs x) = bs (x ++ [13, 10]) := by
  unfold putLine
  rw [bs_data, if_pos h]
  have : (bs x ++ ⟨#[13, 10]⟩ : ByteArray).data.toList = x ++ [13, 10] := by simp [bs]
  rw [← this, bs_self]
theorem putLine_bad (x : List UInt8) (h : putErr x ≠ 0) : putLine (bs x) = ⟨#[]⟩ := by
  unfold putLine
  rw [bs_data, if_neg h]
end Go.Proofs.YtiljjkdpjbffbaaGreatDoor
namespace Go.Proofs.YtiljjkdpjbffbaaGreatDoor
open Go.RowKit

theorem gapL_contains (c : UInt8) : gapL.contains c = gapB c := by
  unfold gapL gapB
  simp only [List.contains, List.elem]
  cases (c == 32) <;> cases (c == 9) <;> rfl
theorem trimS_cons (g : UInt8) (X : List UInt8) (h : gapB g = true) : Go.Lib.trimS (g :: X) gapL = Go.Lib.trimS X gapL := by
  have hg : gapL.contains g = true := (gapL_contains g).trans h
  unfold Go.Lib.trimS Go.Lib.trimRightS Go.Lib.trimLeftS
  rw [List.reverse_cons, List.dropWhile_append]
  split
  · rename_i he
    rw [List.isEmpty_iff] at he
    rw [he, List.dropWhile_cons_of_pos hg]; rfl
  · rw [List.reverse_append]
    show List.dropWhile _ (g :: _) = _
    rw [List.dropWhile_cons_of_pos hg]; rfl
theorem trimS_snoc (X : List UInt8) (g : UInt8) (h : gapB g = true) : Go.Lib.trimS (X ++ [g]) gapL = Go.Lib.trimS X gapL := by
  have hg : gapL.contains g = true := (gapL_contains g).trans h
  unfold Go.Lib.trimS Go.Lib.trimRightS
  rw [List.reverse_append]
  show Go.Lib.trimLeftS (List.dropWhile _ (g :: _)).reverse _ = _
  rw [List.dropWhile_cons_of_pos hg]; rfl
theorem trimS_le (X : List UInt8) : (Go.Lib.trimS X gapL).length ≤ X.length := by
  unfold Go.Lib.trimS Go.Lib.trimRightS Go.Lib.trimLeftS
  refine Nat.le_trans (List.dropWhile_suffix _).length_le ?_
  rw [List.length_reverse]
  refine Nat.le_trans (List.dropWhile_suffix _).length_le ?_
  rw [List.length_reverse]; exact Nat.le_refl _
def headGap (X : List UInt8) : Bool := match X with | [] => false | c :: _ => gapB c
def noGap (X : List UInt8) : Bool := !headGap X && !headGap X.reverse
theorem trimS_done (X : List UInt8) (h1 : headGap X = false) (h2 : headGap X.reverse = false) : Go.Lib.trimS X gapL = X := by
  have key : ∀ Y : List UInt8, headGap Y = false → Y.dropWhile (gapL.contains ·) = Y := by
    intro Y h
    cases Y with
    | nil => rfl
    | cons c t => exact List.dropWhile_cons_of_neg (by rw [gapL_contains]; show ¬ gapB c = true; rw [show gapB c = false from h]; decide)
  unfold Go.Lib.trimS Go.Lib.trimRightS Go.Lib.trimLeftS
  rw [key _ h2, List.reverse_reverse, key _ h1]
theorem trimS_iff (X : List UInt8) : Go.Lib.trimS X gapL = X ↔ noGap X = true := by
  unfold noGap
  constructor
  · intro h
    have a : headGap X = false := by
      cases X with
      | nil => rfl
      | cons c t =>
        rw [Bool.eq_false_iff]
        intro hc
        have := trimS_le t
        rw [← trimS_cons c t hc, h] at this
        simp at this
        omega
    have b : headGap X.reverse = false := by
      cases hr : X.reverse with
      | nil => rfl
      | cons c t =>
        rw [Bool.eq_false_iff]
        intro hc
        have e : X = t.reverse ++ [c] := by rw [← List.reverse_reverse X, hr, List.reverse_cons]
        have := trimS_le t.reverse
        rw [← trimS_snoc t.reverse c hc, ← e, h, e] at this
        simp at this
        omega
    rw [a, b]; rfl
  · intro h
    simp only [Bool.and_eq_true, Bool.not_eq_true'] at h
    exact trimS_done X h.1 h.2

/-- what stands behind a name's colon -/
def tailV (v : List UInt8) : List UInt8 := if v.isEmpty then [] else 32 :: v
def printL (n v : List UInt8) : List UInt8 := titL true n ++ 58 :: tailV v
def printOk (n v : List UInt8) : Bool := nameL n && plainAll v && noGap v
def fieldE (n v : List UInt8) : Nat := if printOk n v = true then (if 256 < (printL n v).length then 5 else 0) else 4
def fieldS (n v : List UInt8) : List UInt8 := if fieldE n v = 0 then printL n v else []

theorem titL_append (b : Bool) (x y : List UInt8) : titL b (x ++ y) = titL b x ++ titL (match x.getLast? with | none => b | some c => stB c) y := by
  induction x generalizing b with
  | nil => rfl
  | cons c t ih =>
    show UInt8.ofNat _ :: titL (stB c) (t ++ y) = (UInt8.ofNat _ :: titL (stB c) t) ++ _
    rw [ih, List.cons_append, List.getLast?_cons]
    congr 2
    cases t.getLast? <;> rfl
theorem titL_len (b : Bool) (l : List UInt8) : (titL b l).length = l.length := by
  induction l generalizing b with
  | nil => rfl
  | cons c t ih => simp [titL, ih]
/-- trimming the end of a printed name, colon, blank and value: the blank goes just where there is no value -/
theorem trimR_print (t v : List UInt8) (h : noGap v = true) : Go.Lib.trimRightS (t ++ [58, 32] ++ v) gapL = t ++ 58 :: tailV v := by
  unfold Go.Lib.trimRightS tailV
  cases hv : v with
  | nil =>
    simp only [List.isEmpty_nil, if_true]
    have e : (t ++ [58, 32] ++ []).reverse = 32 :: 58 :: t.reverse := by simp
    rw [e, List.dropWhile_cons_of_pos (by decide), List.dropWhile_cons_of_neg (by decide)]
    simp
  | cons a r =>
    rw [← hv]
    have hb : headGap v.reverse = false := by
      unfold noGap at h; simp only [Bool.and_eq_true, Bool.not_eq_true'] at h; exact h.2
    have e : (t ++ [58, 32] ++ v).reverse = v.reverse ++ (32 :: 58 :: t.reverse) := by simp
    rw [e]
    cases hr : v.reverse with
    | nil => rw [List.reverse_eq_nil_iff.1 hr] at hv; exact absurd hv (by simp)
    | cons c u =>
      rw [hr] at hb
      rw [List.cons_append, List.dropWhile_cons_of_neg (by rw [gapL_contains]; rw [show gapB c = false from hb]; decide), ← List.cons_append, ← hr, List.reverse_append]
      simp [hv]
end Go.Proofs.YtiljjkdpjbffbaaGreatDoor
