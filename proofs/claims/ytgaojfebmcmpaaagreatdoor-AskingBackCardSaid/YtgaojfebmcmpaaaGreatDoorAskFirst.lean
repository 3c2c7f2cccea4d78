/- What first of package asking returns. -/
import Derived.Test.YtgaojfebmcmpaaaGreatDoorAskRefPrint
import Derived.Test.YtgaojfebmcmpaaaGreatDoorLinesUp
import Derived.Deep.AppendLies
namespace Go.Proofs.YtgaojfebmcmpaaaGreatDoor
open Go.RowKit

/-- the block of a request that is being taken -/
def RdB (w : World) (R : Nat) (l f p h a b : Value) : Prop := w.heap[R]? = some (.cells #[l, f, p, h, a, b] 102 (0, 0))
theorem RdB.below {w w' : World} {R : Nat} {l f p h a b : Value} (k : RdB w R l f p h a b) (hb : Below w.heap.size w w') : RdB w' R l f p h a b :=
  (hb.block R (Array.getElem?_eq_some_iff.1 k).1).trans k
theorem RdB.lt {w : World} {R : Nat} {l f p h a b : Value} (k : RdB w R l f p h a b) : R < w.heap.size := (Array.getElem?_eq_some_iff.1 k).1
theorem RdB.cells {w : World} {R : Nat} {l f p h a b : Value} (k : RdB w R l f p h a b) :
    w.cell? ⟨R, 0, none⟩ = some l ∧ w.cell? ⟨R, 1, none⟩ = some f ∧ w.cell? ⟨R, 2, none⟩ = some p ∧ w.cell? ⟨R, 3, none⟩ = some h ∧ w.cell? ⟨R, 4, none⟩ = some a ∧ w.cell? ⟨R, 5, none⟩ = some b := by
  unfold RdB at k
  refine ⟨?_, ?_, ?_, ?_, ?_, ?_⟩ <;> (unfold World.cell?; rw [k]; rfl)
theorem RdB.free {w : World} {R : Nat} {l f p h a b : Value} (k : RdB w R l f p h a b) :
    w.frozen? ⟨R, 0, none⟩ = false ∧ w.frozen? ⟨R, 1, none⟩ = false ∧ w.frozen? ⟨R, 2, none⟩ = false ∧ w.frozen? ⟨R, 3, none⟩ = false ∧ w.frozen? ⟨R, 4, none⟩ = false ∧ w.frozen? ⟨R, 5, none⟩ = false := by
  unfold RdB at k
  refine ⟨?_, ?_, ?_, ?_, ?_, ?_⟩ <;> (unfold World.frozen?; rw [k]; rfl)
theorem RdB.set1 {w : World} {R : Nat} {l f p h a b : Value} (k : RdB w R l f p h a b) (v : Value) : RdB (w.setCell ⟨R, 1, none⟩ v) R l v p h a b := by
  unfold RdB at k ⊢; simp [World.setCell, Array.getElem?_modify, k]
theorem RdB.set2 {w : World} {R : Nat} {l f p h a b : Value} (k : RdB w R l f p h a b) (v : Value) : RdB (w.setCell ⟨R, 2, none⟩ v) R l f v h a b := by
  unfold RdB at k ⊢; simp [World.setCell, Array.getElem?_modify, k]
theorem RdB.set3 {w : World} {R : Nat} {l f p h a b : Value} (k : RdB w R l f p h a b) (v : Value) : RdB (w.setCell ⟨R, 3, none⟩ v) R l f p v a b := by
  unfold RdB at k ⊢; simp [World.setCell, Array.getElem?_modify, k]
theorem RdB.set45 {w : World} {R : Nat} {l f p h a b : Value} (k : RdB w R l f p h a b) (u v : Value) : RdB ((w.setCell ⟨R, 4, none⟩ u).setCell ⟨R, 5, none⟩ v) R l f p h u v := by
  unfold RdB at k ⊢; simp [World.setCell, Array.getElem?_modify, k]
theorem set_size (w : World) (a : Addr) (v : Value) : (w.setCell a v).heap.size = w.heap.size := by simp
theorem GR.refl (R : Nat) (w : World) : w.grownBy w (some R) := ⟨rfl, rfl, rfl, Nat.le_refl _, fun _ _ _ => rfl⟩
theorem _root_.Go.World.grownBy.below {w w1 w2 : World} {r : Option Nat} (h : w.grownBy w1 r) (hb : Below w1.heap.size w1 w2) : w.grownBy w2 r :=
  ⟨hb.os.trans h.os, hb.tape.trans h.tape, hb.output.trans h.output, Nat.le_trans h.size hb.size, fun k hk hne => (hb.block k (Nat.lt_of_lt_of_le hk h.size)).trans (h.block k hk hne)⟩
theorem _root_.Go.World.grownBy.set {w w1 : World} {R : Nat} (h : w.grownBy w1 (some R)) (j : Nat) (v : Value) : w.grownBy (w1.setCell ⟨R, j, none⟩ v) (some R) := by
  have hk : Below R w1 (w1.setCell ⟨R, j, none⟩ v) := (Below.refl R w1).setCell (p := ⟨R, j, none⟩) (Nat.le_refl _) v
  refine ⟨hk.os.trans h.os, hk.tape.trans h.tape, hk.output.trans h.output, by rw [set_size]; exact h.size, fun k hk hne => ?_⟩
  refine Eq.trans ?_ (h.block k hk hne)
  have hkR : R ≠ k := fun e => hne (by rw [e])
  simp [World.setCell, Array.getElem?_modify, hkR]
theorem _root_.Go.World.grownBy.toBelow {w w' : World} {R : Nat} (h : w.grownBy w' (some R)) (hR : R ≤ w.heap.size) : Below R w w' :=
  (Below.refl R w).grown h hR (fun k hk => by have := Option.some.inj hk; omega)
/-- what is wrong with the first line's words -/
def firstW (ws : List (List UInt8)) : Nat := if ws.length ≠ 3 then 4 else if ws.getD 0 [] ≠ [71, 69, 84] then 14 else if ws.getD 2 [] ≠ [72, 84, 84, 80, 47, 49, 46, 49] then 13 else if pathB (ws.getD 1 []) = false then 2 else 0
def firstL (ls : List (List UInt8)) : Nat := if ls = [] then 4 else firstW (words (ls.getD 0 []))
def wordL (ls : List (List UInt8)) : List UInt8 := (words (ls.getD 0 [])).getD 1 []
theorem bs_lit (x l : List UInt8) : ((bs x).toList == l) = decide (x = l) := by
  rw [ByteArray.toList_eq, bs_data]
  by_cases h : x = l
  · subst h; simp
  · simp [h]
theorem words_len (l : List UInt8) : ∀ x ∈ words l, x.length ≤ l.length := by
  induction l with
  | nil => intro x hx; simp [words] at hx; subst hx; exact Nat.le_refl _
  | cons c t ih =>
    intro x hx
    unfold words at hx
    split at hx
    · rcases List.mem_cons.1 hx with rfl | hx
      · exact Nat.zero_le _
      · have := ih x hx; simp; omega
    · cases hw : words t with
      | nil => rw [hw] at hx; simp at hx; subst hx; simp
      | cons y ys =>
        rw [hw] at hx ih
        rcases List.mem_cons.1 hx with rfl | hx
        · have := ih y (List.mem_cons_self ..); simp; omega
        · have := ih x (List.mem_cons_of_mem _ hx); simp; omega
def FirstPost (R : Nat) (w : World) (lv fv p h a b : Value) (ls : List (List UInt8)) (e : Ending) (w' : World) : Prop := e = .returned (.int .i64 (firstL ls : Nat)) ∧ RdB w' R lv fv (if firstL ls = 0 then .string (bs (wordL ls)) else p) h a b ∧ w.grownBy w' (some R)
set_option maxRecDepth 100000 in
set_option maxHeartbeats 4000000 in
theorem ask_first (R : Nat) (w : World) (lv fv p h a b : Value) (ls : List (List UInt8)) (hR : RdB w R lv fv p h a b) (hl : HoldsS w lv ls) (hx : ∀ x ∈ ls, x.length ≤ 1000000) (hE : EnvF w) :
    Calls Tryz.prog 59 #[.pointer (some ⟨R, 0, none⟩)] w (FirstPost R w lv fv p h a b ls) := by
  obtain ⟨k0, -, -, -, -, -⟩ := hR.cells
  obtain ⟨-, -, f2, -, -, -⟩ := hR.free
  have hRl := hR.lt
  by_cases hn : ls = []
  · subst hn
    obtain ⟨av, c, rfl, hc, hh⟩ := hl
    have HR := Lib.hid hR
    clear hR hh hx hE
    go_enter Tryz.func59, Tryz.ntmps59
    go_wp2_with fail
    go_ret
    exact ⟨rfl, HR.out, GR.refl _ _⟩
  · obtain ⟨av, c, rfl, hc, hh⟩ := hl
    obtain ⟨B, o, rfl, hBl, hcell⟩ := hh hn
    have hpos : 0 < ls.length := List.length_pos_iff.2 hn
    have c0 := hcell 0 hpos
    rw [Nat.add_zero] at c0
    obtain ⟨x0, hx0⟩ : ∃ x0, ls[0] = x0 := ⟨_, rfl⟩
    have hxl : x0.length ≤ 1000000 := hx x0 (hx0 ▸ List.getElem_mem hpos)
    have hg : ls.getD 0 [] = x0 := by rw [List.getD_eq_getElem?_getD, List.getElem?_eq_getElem hpos, hx0]; rfl
    rw [hx0] at c0
    have HF : Hid (firstL ls = firstW (words x0) ∧ wordL ls = (words x0).getD 1 []) := Lib.hid ⟨by unfold firstL; rw [if_neg hn, hg], by unfold wordL; rw [hg]⟩
    obtain ⟨m, hm⟩ := hE.m
    have HW := Lib.hid (lines_words (bs x0) m w (by rw [bs_size]; omega) hm)
    have tl : ((ls.length : Int) == 0) = false := by rw [beq_eq_false_iff_ne]; omega
    have HRR := Lib.hid hR
    have hwl := words_len x0
    obtain ⟨ws, hws⟩ : ∃ ws, words x0 = ws := ⟨_, rfl⟩
    rw [bs_data, hws] at HW
    rw [hws] at HF hwl
    clear hcell hh hx hR hg hx0 hm hE
    go_enter Tryz.func59, Tryz.ntmps59
    go_wp2_with fail
    refine HW.out.mono ?_
    rintro e w1 ⟨v, rfl, hown, hb1⟩
    have HB1 := Lib.hid hb1
    have hS := HoldsS.of_own hown
    obtain ⟨av, cv, hv, hcv, hhv⟩ := hS
    subst hv
    have HR1 := Lib.hid (HRR.out.below hb1)
    obtain ⟨-, -, g2, -, -, -⟩ := HR1.out.free
    clear hown c0 k0 f2 hb1
    by_cases h3 : ws.length = 3
    · obtain ⟨B', o', rfl, hBl', hcell'⟩ := hhv (by intro e; rw [e] at h3; simp at h3)
      have d0 := hcell' 0 (by omega)
      have d1 := hcell' 1 (by omega)
      have d2 := hcell' 2 (by omega)
      rw [Nat.add_zero] at d0
      obtain ⟨y0, y1, y2, rfl⟩ : ∃ y0 y1 y2, ws = [y0, y1, y2] := by
        match ws, h3 with
        | [y0, y1, y2], _ => exact ⟨y0, y1, y2, rfl⟩
      change w1.cell? ⟨B', o', none⟩ = some (.string (bs y0)) at d0
      change w1.cell? ⟨B', o' + 1, none⟩ = some (.string (bs y1)) at d1
      change w1.cell? ⟨B', o' + 2, none⟩ = some (.string (bs y2)) at d2
      have HP := Lib.hid (fun w => asking_path (bs y1) w)
      rw [bs_data] at HP
      have e0 := bs_lit y0 [71, 69, 84]
      have e2 := bs_lit y2 [72, 84, 84, 80, 47, 49, 46, 49]
      clear hcell' hhv h3 hwl
      by_cases q0 : y0 = [71, 69, 84]
      · rw [decide_eq_true q0] at e0
        by_cases q2 : y2 = [72, 84, 84, 80, 47, 49, 46, 49]
        · rw [decide_eq_true q2] at e2
          cases hp : pathB y1 with
          | false =>
            rw [hp] at HP
            have HFF : Hid (firstL ls = 2) := Lib.hid (by rw [HF.out.1]; unfold firstW; simp [q0, q2, hp])
            clear hp q0 q2
            go_wp2_with fail
            refine (HP.out _).mono ?_
            rintro e w2 ⟨rfl, hb2⟩
            go_wp2_with fail
            go_ret
            exact ⟨by rw [HFF.out]; rfl, by rw [HFF.out]; exact HR1.out.below hb2, ((GR.refl R w).below HB1.out).below hb2⟩
          | true =>
            rw [hp] at HP
            have HFF : Hid (firstL ls = 0 ∧ wordL ls = y1) := Lib.hid ⟨by rw [HF.out.1]; unfold firstW; simp [q0, q2, hp], HF.out.2⟩
            clear hp q0 q2
            go_wp2_with fail
            refine (HP.out _).mono ?_
            rintro e w2 ⟨rfl, hb2⟩
            obtain ⟨-, -, g2', -, -, -⟩ := (HR1.out.below hb2).free
            obtain ⟨-, -, k2', -, -, -⟩ := (HR1.out.below hb2).cells
            have d1' := (hb2.cell (p := ⟨B', o' + 1, none⟩) hBl').trans d1
            have HB2 := Lib.hid hb2
            clear hb2 d0 d2 d1 g2
            go_wp2_with fail
            go_ret
            refine ⟨by rw [HFF.out.1]; rfl, ?_, ?_⟩
            · rw [HFF.out.1, HFF.out.2]; exact (HR1.out.below HB2.out).set2 _
            · exact (((GR.refl R w).below HB1.out).below HB2.out).set 2 _
        · rw [decide_eq_false q2] at e2
          have HFF : Hid (firstL ls = 13) := Lib.hid (by rw [HF.out.1]; unfold firstW; simp [q0, q2])
          clear q0 q2
          go_wp2_with fail
          go_ret
          exact ⟨by rw [HFF.out]; rfl, by rw [HFF.out]; exact HR1.out, (GR.refl R w).below HB1.out⟩
      · rw [decide_eq_false q0] at e0
        have HFF : Hid (firstL ls = 14) := Lib.hid (by rw [HF.out.1]; unfold firstW; simp [q0])
        clear q0
        go_wp2_with fail
        go_ret
        exact ⟨by rw [HFF.out]; rfl, by rw [HFF.out]; exact HR1.out, (GR.refl R w).below HB1.out⟩
    · have HFF : Hid (firstL ls = 4) := Lib.hid (by rw [HF.out.1]; unfold firstW; rw [if_pos h3])
      have t3 : ((ws.length : Int) != 3) = true := by rw [bne_iff_ne]; omega
      clear hhv h3
      go_wp2_with fail
      go_ret
      exact ⟨by rw [HFF.out]; rfl, by rw [HFF.out]; exact HR1.out, (GR.refl R w).below HB1.out⟩
end Go.Proofs.YtgaojfebmcmpaaaGreatDoor
