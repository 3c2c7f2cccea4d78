/- What numbers of package ranges returns. -/
import Derived.Test.YtgaojfebmcmpaaaGreatDoorRangesWalk
namespace Go.Proofs.YtgaojfebmcmpaaaGreatDoor
open Go.RowKit

theorem own_keep {B : Nat} {e : TypeId} {k : Nat} {v : Value} {n : Nat} {xs : List Value} {w w' : World} (h : w.ownsRow B e k v n xs) (hb : Below w.heap.size w w') : w'.ownsRow B e k v n xs := by
  refine ⟨h.1, ?_⟩
  rcases h.2 with h0 | ⟨g, cap, cur, e1, e2, e3, e4⟩
  · exact .inl h0
  · exact .inr ⟨g, cap, cur, e1, e2, (hb.block g (Array.getElem?_eq_some_iff.1 e3).1).trans e3, e4⟩
def intsV (ns : List Nat) : List Value := ns.map fun (n : Nat) => .int .i64 (n : Int)
theorem intsV_length (ns : List Nat) : (intsV ns).length = ns.length := by simp [intsV]
theorem intsV_append (a b : List Nat) : intsV (a ++ b) = intsV a ++ intsV b := by simp [intsV]
/-- the slice v reads, in the world w, as the numbers ns; it lies behind block B -/
def HoldsI (B : Nat) (w : World) (v : Value) (ns : List Nat) : Prop :=
  ∃ b c, v = .slice (some ⟨b, 0, none⟩) ns.length c ∧ B ≤ b ∧ b < w.heap.size ∧ ns.length ≤ c ∧ ∀ j (hj : j < ns.length), w.cell? ⟨b, j, none⟩ = some (.int .i64 (ns[j] : Int))
theorem HoldsI.of_own {w : World} {base n : Nat} {e : TypeId} {v : Value} {ns : List Nat} (h : w.ownsRow base e 1 v n (intsV ns)) (hne : ns ≠ []) : HoldsI base w v ns := by
  have hn : ns.length = n := by have := h.1; rw [intsV_length, Nat.mul_one] at this; exact this
  subst hn
  rcases h.2 with ⟨rfl, h0⟩ | ⟨g, cap, cur, rfl, hb, hg, hle, hm, hs, ht⟩
  · exact absurd (List.eq_nil_of_length_eq_zero h0) hne
  · refine ⟨g, cap, rfl, hb, (Array.getElem?_eq_some_iff.1 hg).1, hle, fun j hj => ?_⟩
    have := h.cells (g := g) rfl j (.int .i64 (ns[j] : Int)) (by unfold intsV; rw [List.getElem?_map, List.getElem?_eq_getElem hj]; rfl)
    have e0 : (⟨g, 0, none⟩ : Addr).add j = ⟨g, j, none⟩ := by unfold Addr.add; split <;> simp_all
    rwa [e0] at this
theorem info_int : (Tryz.prog.info? 3).map (fun i => (i.zero, i.size, i.bytes)) = some (some (.int .i64 0), 1, 8) := by kernel_rfl
theorem append_int {ops : Array Oper} {rest : List Oper} {o : Oper} {a : Act} {Q : Exit → Act → World → Prop} (w0 : World) (hgd : o.guard = none) (s x : Operand)
    (ho : o.op = .call { callee := .builtin .append, args := #[s, x], argTypes := #[153, 153] })
    (base : Nat) (v : Value) (ns : List Nat) (hs : a.eval s = v) (hown : w0.ownsRow base 3 1 v ns.length (intsV ns))
    (m : Nat) (hx : a.eval x = .slice (some ⟨w0.heap.size, 0, none⟩) 1 1) (hn : ns.length < 2147483648) (hbase : base ≤ w0.heap.size)
    (h : ∀ v' w', w'.ownsRow base 3 1 v' (ns ++ [m]).length (intsV (ns ++ [m])) → w0.grownBy w' v.ownBlock → v' ≠ .slice none 0 0 → wpList Tryz.prog ops Q rest (a.put o.dst v') w') :
    wpList Tryz.prog ops Q (o :: rest) a (w0.alloc (.cells #[.int .i64 (m : Int)] 3)) := by
  obtain ⟨i0, hi, hz0, hz1, hz2⟩ := info_parts info_int
  refine wpList_append_own _ hgd s x 153 ho base 3 i0 _ 1 8 Tryz.underlying153 hi hz0 hz1 hz2 rfl (by decide) v ns.length (intsV ns) hs (hown.alloc _) ⟨w0.heap.size, 0, none⟩ 1 1 [.int .i64 (m : Int)] hx rfl (cell_one_new w0 _ _) (by simp [Value.oneCell']) (by unfold maxLen; omega) (by omega) (by simp; omega) ?_
  intro v' w' h2 h3 h4
  refine h v' w' ?_ ?_ (fun e => by have := (h4.1 e).2; omega)
  · rw [List.length_append, intsV_append]; simpa [intsV] using h2
  · exact ⟨h3.os, h3.tape, h3.output, Nat.le_trans (by simp) h3.size, fun k hk hne => (h3.block k (by simp; omega) hne).trans (heap_alloc_old w0 _ hk)⟩
/-- the first error of some texts that are to be numbers -/
def numsE : List (List UInt8) → Nat
  | [] => 0
  | l :: t => if numE l ≠ 0 then numE l else numsE t
theorem numsE_skip (xs : List (List UInt8)) : ∀ k, (∀ j (hj : j < xs.length), j < k → numE xs[j] = 0) → numsE xs = numsE (xs.drop k) := by
  induction xs with
  | nil => intro k _; simp
  | cons x t ih =>
    intro k h
    cases k with
    | zero => rfl
    | succ k =>
      have h0 := h 0 (by simp) (by omega)
      show (if numE x ≠ 0 then numE x else numsE t) = numsE (t.drop k)
      rw [if_neg (fun hh => hh h0)]
      exact ih k (fun j hj hk => h (j + 1) (by simp; omega) (by omega))
theorem numsE_at (xs : List (List UInt8)) (k : Nat) (hk : k < xs.length) (h : ∀ j (hj : j < xs.length), j < k → numE xs[j] = 0) (hb : numE xs[k] ≠ 0) : numsE xs = numE xs[k] := by
  rw [numsE_skip xs k h, List.drop_eq_getElem_cons hk]
  exact if_pos hb
theorem numsE_all (xs : List (List UInt8)) (h : ∀ j (hj : j < xs.length), numE xs[j] = 0) : numsE xs = 0 := by
  rw [numsE_skip xs xs.length (fun j hj _ => h j hj), List.drop_length]; rfl
def NumsPost (xs : List (List UInt8)) (w : World) (e : Ending) (w' : World) : Prop := ∃ v, e = .returned (.tuple #[v, .int .i64 (numsE xs : Nat)]) ∧ (numsE xs = 0 → HoldsI w.heap.size w' v (xs.map numV)) ∧ Below w.heap.size w w'
set_option maxRecDepth 100000 in
set_option maxHeartbeats 2000000 in
theorem ranges_numbers (v : Value) (xs : List (List UInt8)) (w : World) (hv : HoldsS w v xs) (hne : xs ≠ []) (hlen : xs.length ≤ 1000) (hx : ∀ x ∈ xs, x.length ≤ 1000000) (hE : EnvF w) :
    Calls Tryz.prog 97 #[v] w (NumsPost xs w) := by
  obtain ⟨a, c, rfl, hc, hh⟩ := hv
  obtain ⟨b, o, rfl, hbl, hcell⟩ := hh hne
  have HC := Lib.hid hcell
  have HE := Lib.hid hE
  have HX := Lib.hid hx
  clear hh hcell hE hx
  go_enter Tryz.func97, Tryz.ntmps97
  go_wp2_with fail
  go_loopw [4, 11] (fun u i wr => ∃ k : Nat, k ≤ xs.length ∧ i = .int .i64 k ∧ wr.ownsRow w.heap.size 3 1 u ((xs.take k).map numV).length (intsV ((xs.take k).map numV)) ∧ Below w.heap.size w wr ∧ Hid (∀ j (hj : j < xs.length), j < k → numE xs[j] = 0)) (fun _ i _ => xs.length - (intOf i).toNat)
  case atStart => exact ⟨0, by omega, rfl, by rw [List.take_zero]; exact World.ownsRow_nil _ _ _ _, Below.refl _ _, Lib.hid (fun j hj h => absurd h (Nat.not_lt_zero _))⟩
  case round =>
    obtain ⟨k, hk, rfl, hown, hb, HK⟩ := hrel
    by_cases hlt : k < xs.length
    · have c0 := (hb.cell (p := ⟨b, o + k, none⟩) hbl).trans (HC.out k hlt)
      obtain ⟨S, hS⟩ : ∃ S, bs xs[k] = S := ⟨_, rfl⟩
      have hSd : S.data.toList = xs[k] := by rw [← hS, bs_data]
      have hSs : S.size ≤ 1000000 := by rw [← hS, bs_size]; exact HX.out _ (List.getElem_mem hlt)
      rw [hS] at c0
      have HN := Lib.hid (fun w hE => fields_number S w hSs hE)
      rw [hSd] at HN
      have hkl : ((xs.take k).map numV).length < 2147483648 := by rw [List.length_map, List.length_take]; omega
      have tl : decide ((k : Int) < (xs.length : Int)) = true := decide_eq_true (by omega)
      have HEr := Lib.hid (HE.out.below hb)
      by_cases hz : numE xs[k] = 0
      · rw [hz] at HN
        have HK2 : Hid (∀ j (hj : j < xs.length), j < k + 1 → numE xs[j] = 0) := Lib.hid (fun j hj h => by
          by_cases e : j = k
          · subst e; exact hz
          · exact HK.out j hj (by omega))
        have hstep : Hid ((xs.take (k + 1)).map numV = (xs.take k).map numV ++ [numV xs[k]]) := Lib.hid (by rw [List.take_succ_eq_append_getElem hlt, List.map_append]; rfl)
        clear hz hS hSd HK
        go_wp2_with fail
        refine (HN.out _ HEr.out).mono ?_
        rintro e w1 ⟨rfl, hb1⟩
        have hown1 : w1.ownsRow w.heap.size 3 1 _ ((xs.take k).map numV).length (intsV ((xs.take k).map numV)) := own_keep hown hb1
        have hb2 := bstep hb hb1
        clear hown c0
        go_wp2_with (at_builtin; go_loud (refine append_int w1 (by rfl) _ _ (by rfl) w.heap.size _ ((xs.take k).map numV) (by rfl) hown1 (numV xs[k]) (by rfl) hkl hb2.size ?_); intro v' w2 hown2 hg2 hne2)
        go_roundw
        case rel => exact ⟨k + 1, by omega, by go_num, by rw [hstep.out]; exact hown2, below_ownF hb2 hg2 hown1 (Nat.le_refl _) hb2.size, HK2⟩
        case measure => simp [intOf]; omega
      · have HR : Hid (numsE xs = numE xs[k]) := Lib.hid (numsE_at xs k hlt HK.out hz)
        have tz : ((numE xs[k] : Int) != 0) = true := by rw [bne_iff_ne]; omega
        have hz2 : Hid (numE xs[k] ≠ 0) := Lib.hid hz
        clear hz hS hSd HK
        go_wp2_with fail
        refine (HN.out _ HEr.out).mono ?_
        rintro e w1 ⟨rfl, hb1⟩
        have hb2 := bstep hb hb1
        clear c0 hown
        go_wp2_with fail
        go_ret2
        exact ⟨_, by rw [HR.out]; rfl, fun h => absurd (HR.out ▸ h) hz2.out, hb2⟩
    · have hall : xs.take k = xs := List.take_of_length_le (by omega)
      have HR : Hid (numsE xs = 0) := Lib.hid (numsE_all xs (fun j hj => HK.out j hj (by omega)))
      rw [hall] at hown
      have tl : decide ((k : Int) < (xs.length : Int)) = false := decide_eq_false (by omega)
      clear hall HK
      go_wp2_with fail
      go_ret2
      exact ⟨_, by rw [HR.out]; rfl, fun _ => HoldsI.of_own hown (by simpa using hne), hb⟩
end Go.Proofs.YtgaojfebmcmpaaaGreatDoor
