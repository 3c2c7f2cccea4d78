/- The law LinesWords of layer 21. -/
import Derived.Test.YtnfadmdndefanaaDoorLinesLaws
namespace Go.Proofs.YtnfadmdndefanaaDoor
open Go.RowKit

theorem words_no (l : List UInt8) : ∀ x ∈ words l, (32 : UInt8) ∉ x := by
  induction l with
  | nil => intro x hx; simp [words] at hx; subst hx; simp
  | cons c r ih =>
    intro x hx
    by_cases hc : c = 32
    · rw [words, if_pos hc] at hx
      rcases List.mem_cons.1 hx with rfl | h
      · simp
      · exact ih x h
    · rw [words, if_neg hc] at hx
      cases hw : words r with
      | nil => exact absurd hw (words_ne r)
      | cons y t =>
        rw [hw] at hx
        rcases List.mem_cons.1 hx with rfl | h
        · intro hm
          rcases List.mem_cons.1 hm with h | h
          · exact hc h.symm
          · exact ih y (by rw [hw]; exact List.mem_cons_self ..) h
        · exact ih x (by rw [hw]; exact List.mem_cons_of_mem _ h)

theorem indexByte_no (x : List UInt8) (h : (32 : UInt8) ∉ x) : decide (0 ≤ Go.Lib.indexByte x 32) = false := by
  have : Go.Lib.indexByte x 32 = -1 := by
    induction x with
    | nil => rfl
    | cons c t ih =>
      have hc : c ≠ 32 := fun e => h (by rw [e]; exact List.mem_cons_self ..)
      have ht := ih (fun hm => h (List.mem_cons_of_mem _ hm))
      unfold Go.Lib.indexByte
      simp [hc, ht]
  rw [this]; decide

theorem join_words (l : List UInt8) : [(32 : UInt8)].intercalate (words l) = l := by
  induction l with
  | nil => rfl
  | cons c r ih =>
    by_cases hc : c = 32
    · rw [words, if_pos hc]
      cases hw : words r with
      | nil => exact absurd hw (words_ne r)
      | cons y t =>
        rw [hw] at ih
        rw [hc, ← ih]
        simp [List.intercalate, List.intersperse]
    · rw [words, if_neg hc]
      cases hw : words r with
      | nil => exact absurd hw (words_ne r)
      | cons y t =>
        rw [hw] at ih
        rw [← ih]
        cases t <;> simp [List.intercalate, List.intersperse]

theorem join_any (va : Value) (xs : List (List UInt8)) (sep : ByteArray) (w : World) (hH : HoldsS w va xs) (hne : xs ≠ []) (hl : xs.length ≤ 140737488355328) (hj : (sep.data.toList.intercalate xs).length ≤ 140737488355328) :
    Calls Tryd.prog 24 #[va, .string sep] w fun e w' => e = .returned (.string (bs (sep.data.toList.intercalate xs))) ∧ Below w.heap.size w w' := by
  obtain ⟨a, c, rfl, hc, hx⟩ := hH
  obtain ⟨b, o, rfl, hb, hcell⟩ := hx hne
  have e1 : (xs.map bs).map (fun x => x.data.toList) = xs := by
    rw [List.map_map]
    conv => rhs; rw [← List.map_id xs]
    apply List.map_congr_left
    intro x _
    simp only [Function.comp_apply, bs_data, id]
  have h := Tryd.strings_Join b o c (xs.map bs) sep w (fun j x hjx => by
    rw [List.getElem?_map] at hjx
    obtain ⟨y, hy, rfl⟩ := Option.map_eq_some_iff.1 hjx
    obtain ⟨hlt, rfl⟩ := List.getElem?_eq_some_iff.1 hy
    exact hcell j hlt) hb (by simpa using hl) (by simpa using hc) (by rw [e1]; exact hj)
  rw [List.length_map, e1] at h
  exact h

set_option maxRecDepth 100000 in
set_option maxHeartbeats 4000000 in
theorem linesWords_walk (s : ByteArray) (m : Int) (w : World) (hm : MaxLenIs w m) (hs : s.size ≤ 9223372036854775807) :
    Calls Tryd.prog 6 #[.string s] w fun e w' => e = .returned (.bool true) ∧ Below w.heap.size w w' := by
  have Hm := Lib.hid hm
  clear hm
  by_cases h1 : (500 : Int) < (s.size : Int)
  · go_enter Tryd.func6, Tryd.ntmps6
    go_wp2_with (go_at_call 12; refine (awake21 m _ Hm.out).mono ?_; rintro e w' ⟨rfl, hb⟩)
    go_ret
    exact ⟨rfl, by assumption⟩
  · have hcw := countB_words s
    have hL : (words s.data.toList).length < 2000 := by
      rw [← hcw]; have := Go.Lib.count_le s.data.toList [32]; have h2 : Go.Lib.countB s ⟨#[32]⟩ ≤ s.size + 1 := by simpa using this
      omega
    have hjoin := join_words s.data.toList
    have hno := words_no s.data.toList
    have hne := words_ne s.data.toList
    obtain ⟨L, hLe⟩ : ∃ L, L = words s.data.toList := ⟨_, rfl⟩
    have hd1 : decide (500 < s.size) = false := by simp; omega
    have hs5 : s.size ≤ 500 := by omega
    clear h1
    go_enter Tryd.func6, Tryd.ntmps6
    have Hcw := Lib.hid hcw
    have Hjoin := Lib.hid hjoin
    have Hno := Lib.hid hno
    have Hne := Lib.hid hne
    have HLe := Lib.hid hLe
    clear hcw hjoin hno hne hLe
    go_wp2_with fail
    refine (lines_words s m _ (by omega) Hm.out).mono ?_
    rintro e w1 ⟨v, rfl, hown, hb1⟩
    rw [← HLe.out] at hown hL
    have hH := HoldsS.of_own hown
    have Hm1 := Lib.hid (Hm.out.below hb1)
    obtain ⟨av, cv, rfl⟩ := slice_of_own hown
    clear hown Hm
    go_wp2_with fail
    go_loopw [4] (fun j wr => ∃ k : Nat, k ≤ L.length ∧ j = .int .i64 k ∧ Below w1.heap.size w1 wr) (fun j _ => L.length - (intOf j).toNat)
    case atStart => exact ⟨0, by omega, rfl, Below.refl _ _⟩
    case round =>
      obtain ⟨k, hk, rfl, hb⟩ := hrel
      by_cases hlt : k < L.length
      · obtain ⟨a', c', hv, hcap, hx⟩ := hH
        have e1 : av = a' := by injection hv
        subst e1
        obtain ⟨bb, oo, rfl, hbb, hcs⟩ := hx (by intro h; rw [h] at hlt; simp at hlt)
        have hcell := (hb.cell (p := ⟨bb, oo + k, none⟩) hbb).trans (hcs k hlt)
        have hmem : L[k] ∈ words s.data.toList := by rw [← HLe.out]; exact List.getElem_mem hlt
        have hi := indexByte_no L[k] (Hno.out _ hmem)
        clear hcs hx hmem hv
        have hdx := bs_data L[k]
        generalize L[k] = x at *
        go_wp2_with (go_at_call 22; refine (Tryd.strings_Contains_one _ _ _).mono ?_; rintro e w' ⟨rfl, rfl⟩)
        go_roundw
        case rel => exact ⟨k + 1, by omega, by go_num, hb⟩
        case measure => simp [intOf]; omega
      · obtain rfl : k = L.length := by omega
        have hHr := hH.below hb
        have hbr := bstep hb1 hb
        have Hmr := Lib.hid (Hm1.out.below hb)
        have hcnt : Go.Lib.countB s ⟨#[32]⟩ + 1 = L.length := by have := Hcw.out; rw [← HLe.out] at this; exact this
        have hcmp : ((L.length : Int) == ((Go.Lib.countB s ⟨#[32]⟩ : Nat) : Int) + 1) = true := by rw [beq_iff_eq]; omega
        have hcb : Go.Lib.countB s ⟨#[32]⟩ ≤ 2000 := by omega
        have hLne : L ≠ [] := by rw [HLe.out]; exact Hne.out
        have hres : bs ((ByteArray.mk #[32]).data.toList.intercalate L) = s := by
          rw [HLe.out]
          show bs ([(32 : UInt8)].intercalate (words s.data.toList)) = s
          rw [Hjoin.out, bs_self]
        have hjl : ((ByteArray.mk #[32]).data.toList.intercalate L).length ≤ 140737488355328 := by
          rw [HLe.out]
          show ([(32 : UInt8)].intercalate (words s.data.toList)).length ≤ _
          rw [Hjoin.out, size_len]; omega
        have Hcnt := Lib.hid hcnt
        clear hcnt hH
        go_wp2_with fail
        refine (Tryd.strings_Count_any s _ m _ (by omega) Hmr.out (by decide)).mono ?_
        rintro e w2 ⟨rfl, rfl⟩
        go_wp2_with fail
        refine (join_any _ L _ _ hHr hLne (by omega) hjl).mono ?_
        rintro e w3 ⟨rfl, hb3⟩
        have hb4 := bstep hbr hb3
        have Hm3 := Lib.hid (Hmr.out.below hb3)
        clear hb3 hbr hHr Hmr
        go_wp2_with (go_at_call 12; refine (awake21 m _ Hm3.out).mono ?_; rintro e w' ⟨rfl, hb1⟩)
        go_ret
        exact ⟨rfl, bstep hb4 (by assumption)⟩
end Go.Proofs.YtnfadmdndefanaaDoor
