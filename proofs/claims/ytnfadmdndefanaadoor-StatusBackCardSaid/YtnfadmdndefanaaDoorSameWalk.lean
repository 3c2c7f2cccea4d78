/- What the reference's Same returns of two slices of texts. -/
import Derived.Test.YtnfadmdndefanaaDoorStrs
import Derived.BigQuiet
import Derived.Outline
namespace Go.Proofs.YtnfadmdndefanaaDoor
open Go.RowKit

/-- the answer: are the two lists the same? -/
def SamePost (xs ys : List (List UInt8)) (w : World) (e : Ending) (w' : World) : Prop := e = .returned (.bool (decide (xs = ys))) ∧ Below w.heap.size w w'

set_option maxRecDepth 100000 in
set_option maxHeartbeats 2000000 in
theorem ref_same (va vb : Value) (xs ys : List (List UInt8)) (w : World) (hA : HoldsS w va xs) (hB : HoldsS w vb ys) (hx : xs.length < 2147483648) (hy : ys.length < 2147483648) :
    Calls Tryd.prog 19 #[va, vb] w (SamePost xs ys w) := by
  obtain ⟨a, c, rfl, hc, hcx⟩ := hA
  obtain ⟨b, d, rfl, hd, hcy⟩ := hB
  by_cases hl : xs.length = ys.length
  · have hlI : ((xs.length : Int) != (ys.length : Int)) = false := by rw [bne_eq_false_iff_eq]; omega
    go_enter Tryd.func19, Tryd.ntmps19
    have Hl := Lib.hid hl
    clear hl
    go_wp2_with fail
    go_loopw [5] (fun j wr => ∃ k : Nat, k ≤ xs.length ∧ j = .int .i64 k ∧ Below w.heap.size w wr ∧ Hid (∀ j, j < k → xs[j]? = ys[j]?)) (fun j _ => xs.length - (intOf j).toNat)
    case atStart => exact ⟨0, by omega, rfl, Below.refl _ _, Lib.hid (fun j hj => by omega)⟩
    case round =>
      obtain ⟨k, hk, rfl, hb, Hall⟩ := hrel
      by_cases hlt : k < xs.length
      · have hlt2 : k < ys.length := by rw [← Hl.out]; exact hlt
        obtain ⟨ba, oa, rfl, hba, hca⟩ := hcx (by intro h; rw [h] at hlt; simp at hlt)
        obtain ⟨bb, ob, rfl, hbb, hcb⟩ := hcy (by intro h; rw [h] at hlt2; simp at hlt2)
        have h1 := (hb.cell (p := ⟨ba, oa + k, none⟩) hba).trans (hca k hlt)
        have h2 := (hb.cell (p := ⟨bb, ob + k, none⟩) hbb).trans (hcb k hlt2)
        clear hca hcb hcx hcy
        have hcmp := bs_beq xs[k] ys[k]
        have hxk : xs[k]? = some xs[k] := List.getElem?_eq_getElem hlt
        have hyk : ys[k]? = some ys[k] := List.getElem?_eq_getElem hlt2
        by_cases he : xs[k] = ys[k]
        · rw [decide_eq_true he] at hcmp
          have Hn : Hid (∀ j, j < k + 1 → xs[j]? = ys[j]?) := Lib.hid (fun j hj => by
            by_cases e : j = k
            · subst e; rw [hxk, hyk, he]
            · exact Hall.out j (by omega))
          clear he hxk hyk
          generalize bs xs[k] = X at *
          generalize bs ys[k] = Y at *
          go_wp2_with fail
          go_quiet (fail)
          go_wp2_with fail
          go_roundw
          case rel => exact ⟨k + 1, by omega, by go_num, below_drewN hb _, Hn⟩
          case measure => simp [intOf]; omega
        · rw [decide_eq_false he] at hcmp
          have Hn : Hid (xs ≠ ys) := Lib.hid (fun e => he (by subst e; rfl))
          clear he hxk hyk
          generalize bs xs[k] = X at *
          generalize bs ys[k] = Y at *
          go_wp2_with fail
          go_quiet (fail)
          go_wp2_with fail
          go_ret
          exact ⟨congrArg (fun b => Ending.returned (.bool b)) (decide_eq_false Hn.out).symm, below_drewN hb _⟩
      · have Hn : Hid (xs = ys) := Lib.hid (List.ext_getElem? (fun j => by
          by_cases e : j < k
          · exact Hall.out j e
          · rw [List.getElem?_eq_none (by omega), List.getElem?_eq_none (by have := Hl.out; omega)]))
        go_wp2_with fail
        go_ret
        exact ⟨congrArg (fun b => Ending.returned (.bool b)) (decide_eq_true Hn.out).symm, hb⟩
  · have hlI : ((xs.length : Int) != (ys.length : Int)) = true := by rw [bne_iff_ne]; omega
    have Hn : Hid (xs ≠ ys) := Lib.hid (fun e => hl (by rw [e]))
    clear hl
    go_enter Tryd.func19, Tryd.ntmps19
    go_wp2_with fail
    go_ret
    exact ⟨congrArg (fun b => Ending.returned (.bool b)) (decide_eq_false Hn.out).symm, Below.refl _ _⟩
end Go.Proofs.YtnfadmdndefanaaDoor
