/- A connection in memory; what New, Closed, Rest and Served of package serve return. A request has a least length; so there are few answers (no program in sight). What Put of package serve does. What Put of the reference of serve returns. over of the laws of layer 46. The small example of the laws of layer 46. The law ServeNobody. What the listed variables give. The law function ServeNobody, as the row's proof takes it. -/
import Derived.Test.YtfjdppngeillcaaGreatDoorPs10
import Derived.Deep.RegionHeld3
import Derived.Test.YtfjdppngeillcaaGreatDoorRows
import Derived.OpenShut
import Derived.MakeChecks
import Derived.Stop.LaidErr
import Derived.PinnedBridge
import Derived.Lib.LaidU8T
import Derived.Lib.SmallJoins
import Derived.ChangeSame
import Derived.ChangeArms
import Derived.WideShapes
set_option linter.unusedVariables false
namespace Go.Proofs.YtfjdppngeillcaaGreatDoor
open Go.RowKit
/-- a connection in memory: its origin, whether it is open, what is left, how many were served -/
structure CAt (w : World) (b : Nat) (h p f : ByteArray) (op : Bool) (l : List UInt8) (n : Nat) : Prop where
  blk : w.heap[b]? = some (.cells #[.string h, .string p, .string f, .bool op, .string (bs l), .int .i64 (n : Nat)] 51 (0, 0))
theorem CAt.lt {w : World} {b : Nat} {h p f : ByteArray} {op : Bool} {l : List UInt8} {n : Nat} (k : CAt w b h p f op l n) : b < w.heap.size := (Array.getElem?_eq_some_iff.1 k.blk).1
theorem CAt.below {w w' : World} {b : Nat} {h p f : ByteArray} {op : Bool} {l : List UInt8} {n : Nat} (k : CAt w b h p f op l n) (hb : Below w.heap.size w w') : CAt w' b h p f op l n := ⟨(hb.block b k.lt).trans k.blk⟩
theorem CAt.touch {w w' : World} {b : Nat} {h p f : ByteArray} {op : Bool} {l : List UInt8} {n : Nat} {S : Nat → Prop} (k : CAt w b h p f op l n) (ht : Touch S w w') (hn : ¬ S b) : CAt w' b h p f op l n := ⟨(ht.block b k.lt hn).trans k.blk⟩
theorem six_facts {w : World} {b : Nat} {x0 x1 x2 x3 x4 x5 : Value} {t : TypeId} (k : w.heap[b]? = some (.cells #[x0, x1, x2, x3, x4, x5] t (0, 0))) :
    (w.cell? ⟨b, 0, none⟩ = some x0 ∧ w.cell? ⟨b, 1, none⟩ = some x1 ∧ w.cell? ⟨b, 2, none⟩ = some x2 ∧ w.cell? ⟨b, 3, none⟩ = some x3 ∧ w.cell? ⟨b, 4, none⟩ = some x4 ∧ w.cell? ⟨b, 5, none⟩ = some x5) ∧ w.frozen? ⟨b, 3, none⟩ = false ∧ w.frozen? ⟨b, 4, none⟩ = false ∧ w.frozen? ⟨b, 5, none⟩ = false := by
  refine ⟨⟨?_, ?_, ?_, ?_, ?_, ?_⟩, ?_, ?_, ?_⟩ <;> first | (unfold World.cell?; rw [k]; rfl) | (unfold World.frozen?; rw [k]; rfl)
theorem six_set3 {w : World} {b : Nat} {x0 x1 x2 x3 x4 x5 : Value} {t : TypeId} (k : w.heap[b]? = some (.cells #[x0, x1, x2, x3, x4, x5] t (0, 0))) (y : Value) : (w.setCell ⟨b, 3, none⟩ y).heap[b]? = some (.cells #[x0, x1, x2, y, x4, x5] t (0, 0)) := by
  simp [World.setCell, Array.getElem?_modify, k]
theorem six_set4 {w : World} {b : Nat} {x0 x1 x2 x3 x4 x5 : Value} {t : TypeId} (k : w.heap[b]? = some (.cells #[x0, x1, x2, x3, x4, x5] t (0, 0))) (y : Value) : (w.setCell ⟨b, 4, none⟩ y).heap[b]? = some (.cells #[x0, x1, x2, x3, y, x5] t (0, 0)) := by
  simp [World.setCell, Array.getElem?_modify, k]
theorem six_set5 {w : World} {b : Nat} {x0 x1 x2 x3 x4 x5 : Value} {t : TypeId} (k : w.heap[b]? = some (.cells #[x0, x1, x2, x3, x4, x5] t (0, 0))) (y : Value) : (w.setCell ⟨b, 5, none⟩ y).heap[b]? = some (.cells #[x0, x1, x2, x3, x4, y] t (0, 0)) := by
  simp [World.setCell, Array.getElem?_modify, k]
theorem CAt.cells {w : World} {b : Nat} {h p f : ByteArray} {op : Bool} {l : List UInt8} {n : Nat} (k : CAt w b h p f op l n) :
    (w.cell? ⟨b, 0, none⟩ = some (.string h) ∧ w.cell? ⟨b, 1, none⟩ = some (.string p) ∧ w.cell? ⟨b, 2, none⟩ = some (.string f) ∧ w.cell? ⟨b, 3, none⟩ = some (.bool op) ∧ w.cell? ⟨b, 4, none⟩ = some (.string (bs l)) ∧ w.cell? ⟨b, 5, none⟩ = some (.int .i64 (n : Nat))) ∧ w.frozen? ⟨b, 3, none⟩ = false ∧ w.frozen? ⟨b, 4, none⟩ = false ∧ w.frozen? ⟨b, 5, none⟩ = false := six_facts k.blk
/-- a builder in block b holds the text l -/
abbrev BIs (b : Nat) (l : List UInt8) (w : World) : Prop := Lib.IsBuilderF 68 5 b b (Lib.byteCells l) w
theorem BIs.below {b : Nat} {l : List UInt8} {w w' : World} (h : BIs b l w) (hb : Below w.heap.size w w') : BIs b l w' := Lib.IsBuilderF.below h hb
theorem BIs.fresh (w : World) : BIs w.heap.size [] (w.alloc (.cells #[.pointer none, .slice none 0 0] 68 (0, 0))) := Lib.IsBuilderF.of (Lib.fresh_isBuilder _ _ w)
theorem bat_keep {T e : TypeId} {b : Nat} {p : Value} {xs : List Value} {w w' : World} (h : Lib.BuilderAtF T e b b p xs w) (hk : ∀ g, b ≤ g → g < w.heap.size → w'.heap[g]? = w.heap[g]?) : Lib.BuilderAtF T e b b p xs w' := by
  obtain ⟨hB, v, hv, hown, hne⟩ := h
  refine ⟨hB, v, (hk b (Nat.le_refl _) (Array.getElem?_eq_some_iff.1 hv).1).trans hv, ⟨hown.1, ?_⟩, hne⟩
  rcases hown.2 with h0 | ⟨g, cap, cur, fz, h1, h2, h3, h4⟩
  · exact .inl h0
  · exact .inr ⟨g, cap, cur, fz, h1, h2, (hk g h2 (Array.getElem?_eq_some_iff.1 h3).1).trans h3, h4⟩
/-- what is written below the builder does not touch it -/
theorem BIs.keep {b : Nat} {l : List UInt8} {w w' : World} (h : BIs b l w) (hk : ∀ g, b ≤ g → g < w.heap.size → w'.heap[g]? = w.heap[g]?) : BIs b l w' :=
  h.elim (fun x => .inl (bat_keep x hk)) (fun x => .inr (bat_keep x hk))
theorem c_wstr (b : Nat) (l : List UInt8) (s : ByteArray) (w : World) (h : BIs b l w) (hl : l.length + s.size ≤ 1000000000) (hb : b ≤ w.heap.size) :
    Calls Tryz.prog 30 #[.pointer (some ⟨b, 0, none⟩), .string s] w fun e w' => e = .returned (.tuple #[.int .i64 s.size, .nilIface]) ∧ BIs b (l ++ s.data.toList) w' ∧ Below b w w' := by
  refine (c_writeString b (Lib.byteCells l) s w h (by rw [Lib.byteCells_length]; omega) hb).mono ?_
  rintro e w' ⟨rfl, ⟨h1, h2, -⟩, -⟩
  refine ⟨rfl, Or.inr ?_, h2⟩
  rw [Lib.byteCells_append, ← Lib.strCells_eq]; exact h1
set_option maxRecDepth 100000 in
set_option maxHeartbeats 1000000 in
theorem srv_new_bad (h p f : ByteArray) (w : World) (he : orgE h.data.toList p.data.toList ≠ 0) :
    Calls Tryz.prog 10 #[.agg #[.string h, .string p, .string f]] w fun e w' => e = .returned (.tuple #[.pointer none, .int .i64 2]) ∧ Below w.heap.size w w' := by
  have h2 : orgE h.data.toList p.data.toList = 2 := by
    unfold orgE at he ⊢
    split
    · rfl
    · rename_i hh; rw [if_neg hh] at he; exact absurd rfl he
  have HC := Lib.hid (fun w => origin_check h p f w)
  rw [h2] at HC
  have HB0 := Lib.hid (below_o3 w (.string h) (.string p) (.string f))
  obtain ⟨o0, o1, o2, -, -, -⟩ := three_facts (heap_alloc_new w (.cells #[.string h, .string p, .string f] 32))
  clear he h2
  go_enter Tryz.func10, Tryz.ntmps10
  go_wp2_with fail
  refine (HC.out _).mono ?_
  rintro e w1 ⟨rfl, hb1⟩
  go_wp2_with fail
  go_ret2
  exact ⟨rfl, bstep HB0.out hb1⟩
set_option maxRecDepth 100000 in
set_option maxHeartbeats 1000000 in
theorem srv_new (h p f : ByteArray) (w : World) (he : orgE h.data.toList p.data.toList = 0) :
    Calls Tryz.prog 10 #[.agg #[.string h, .string p, .string f]] w fun e w' => ∃ b, e = .returned (.tuple #[.pointer (some ⟨b, 0, none⟩), .int .i64 0]) ∧ w.heap.size ≤ b ∧ CAt w' b h p f true [] 0 ∧ Below w.heap.size w w' := by
  have HC := Lib.hid (fun w => origin_check h p f w)
  rw [he] at HC
  have HB0 := Lib.hid (below_o3 w (.string h) (.string p) (.string f))
  have HP0 := Lib.hid (heap_alloc_new w (.cells #[.string h, .string p, .string f] 32))
  have HSZ : Hid ((w.alloc (.cells #[.string h, .string p, .string f] 32)).heap.size = w.heap.size + 1) := Lib.hid (by simp)
  obtain ⟨o0, o1, o2, -, -, -⟩ := three_facts HP0.out
  clear he
  go_enter Tryz.func10, Tryz.ntmps10
  go_wp2_with fail
  refine (HC.out _).mono ?_
  rintro e w1 ⟨rfl, hb1⟩
  have hp1 := (hb1.block w.heap.size (by have := HSZ.out; omega)).trans HP0.out
  have HB1 := Lib.hid (bstep HB0.out hb1)
  have hs1 : w.heap.size < w1.heap.size := (Array.getElem?_eq_some_iff.1 hp1).1
  clear hb1 o0 o1 o2
  obtain ⟨o0, o1, o2, -, -, -⟩ := three_facts hp1
  clear hp1
  go_wp2_with fail
  go_ret2
  exact ⟨_, rfl, Nat.le_of_lt hs1, ⟨heap_alloc_new w1 _⟩, HB1.out.alloc HB1.out.size _⟩
theorem srv_closed_nil (w : World) : Calls Tryz.prog 14 #[.pointer none] w fun e w' => e = .returned (.bool true) ∧ w' = w := by
  go_enter Tryz.func14, Tryz.ntmps14
  go_wp2_with fail
  go_ret
  exact ⟨rfl, rfl⟩
theorem srv_closed_at {w : World} {b : Nat} {x0 x1 x2 x4 x5 : Value} {op : Bool} (k : w.heap[b]? = some (.cells #[x0, x1, x2, .bool op, x4, x5] 51 (0, 0))) : Calls Tryz.prog 14 #[.pointer (some ⟨b, 0, none⟩)] w fun e w' => e = .returned (.bool (!op)) ∧ w' = w := by
  obtain ⟨⟨-, -, -, c3, -, -⟩, -⟩ := six_facts k
  clear k
  cases op
  all_goals
    go_enter Tryz.func14, Tryz.ntmps14
    go_wp2_with fail
    go_ret
    exact ⟨rfl, rfl⟩
theorem srv_rest_nil (w : World) : Calls Tryz.prog 15 #[.pointer none] w fun e w' => e = .returned (.int .i64 0) ∧ w' = w := by
  go_enter Tryz.func15, Tryz.ntmps15
  go_wp2_with fail
  go_ret
  exact ⟨rfl, rfl⟩
theorem srv_rest_at {w : World} {b : Nat} {x0 x1 x2 x3 x5 : Value} {s : ByteArray} (k : w.heap[b]? = some (.cells #[x0, x1, x2, x3, .string s, x5] 51 (0, 0))) : Calls Tryz.prog 15 #[.pointer (some ⟨b, 0, none⟩)] w fun e w' => e = .returned (.int .i64 (s.size : Nat)) ∧ w' = w := by
  obtain ⟨⟨-, -, -, -, c4, -⟩, -⟩ := six_facts k
  clear k
  go_enter Tryz.func15, Tryz.ntmps15
  go_wp2_with fail
  go_ret
  exact ⟨rfl, rfl⟩
theorem srv_served_nil (w : World) : Calls Tryz.prog 16 #[.pointer none] w fun e w' => e = .returned (.int .i64 0) ∧ w' = w := by
  go_enter Tryz.func16, Tryz.ntmps16
  go_wp2_with fail
  go_ret
  exact ⟨rfl, rfl⟩
theorem srv_served_at {w : World} {b : Nat} {x0 x1 x2 x3 x4 : Value} {n : Int} (k : w.heap[b]? = some (.cells #[x0, x1, x2, x3, x4, .int .i64 n] 51 (0, 0))) : Calls Tryz.prog 16 #[.pointer (some ⟨b, 0, none⟩)] w fun e w' => e = .returned (.int .i64 n) ∧ w' = w := by
  obtain ⟨⟨-, -, -, -, -, c5⟩, -⟩ := six_facts k
  clear k
  go_enter Tryz.func16, Tryz.ntmps16
  go_wp2_with fail
  go_ret
  exact ⟨rfl, rfl⟩
/-- take: the answer to the first n bytes -/
def TakePost (b : Nat) (h p f : ByteArray) (op : Bool) (l : List UInt8) (n : Nat) (k : Nat) (w : World) (e : Ending) (w' : World) : Prop :=
  e = .returned (.string (bs (orgS h.data.toList p.data.toList f.data.toList (bs (l.take k))))) ∧ CAt w' b h p f op (l.drop k) (n + 1) ∧ Touch (fun g => g = b) w w'
set_option maxRecDepth 100000 in
set_option maxHeartbeats 2000000 in
theorem srv_take {w : World} {b : Nat} {h p f : ByteArray} {op : Bool} {l : List UInt8} {n : Nat} (k : Nat) (hc : CAt w b h p f op l n) (hE : EnvF w) (hk : k ≤ l.length) (hl : l.length ≤ 1000000) (hf : f.size ≤ 1000000) (hn : n ≤ 1000000) :
    Calls Tryz.prog 31 #[.pointer (some ⟨b, 0, none⟩), .int .i64 (k : Nat)] w (TakePost b h p f op l n k w) := by
  have hex : (bs l).extract 0 k = bs (l.take k) := by rw [extract_bs, bs_data, List.drop_zero]
  have hex2 : (bs l).extract k (bs l).size = bs (l.drop k) := by rw [extract_bs, bs_data, bs_size, List.take_length]
  have hsz := bs_size l
  have HA := Lib.hid (fun W (hW : Below w.heap.size w W) => origin_answer h p f (bs (l.take k)) W (hE.below hW) (by rw [bs_size, List.length_take]; omega) hf)
  have HCW := Lib.hid (fun W (hW : Below w.heap.size w W) => hc.below hW)
  obtain ⟨S, hS⟩ : ∃ S, bs (orgS h.data.toList p.data.toList f.data.toList (bs (l.take k))) = S := ⟨_, rfl⟩
  unfold TakePost
  rw [hS] at HA ⊢
  obtain ⟨B, hB⟩ : ∃ B, bs l = B := ⟨_, rfl⟩
  have HX := Lib.hid (And.intro hex (And.intro hex2 hB))
  rw [hB] at hex hsz HX
  have HX := Lib.hid HX.out
  have hkS : k ≤ B.size := by omega
  have hkI : (k : Int) ≤ (B.size : Int) := by omega
  have hk0 : (0 : Int) ≤ (k : Int) := by omega
  have tw : IntKind.i64.wrap ((n : Int) + 1) = (n : Int) + 1 := by rw [IntKind.wrap_i64]; omega
  obtain ⟨⟨c0, c1, c2, c3, c4, c5⟩, f3, f4, f5⟩ := hc.cells
  rw [hB] at c4
  have HS : Hid (∀ W, Below w.heap.size w W → W.cell? ⟨b, 0, none⟩ = some (.string h) ∧ W.cell? ⟨b, 1, none⟩ = some (.string p) ∧ W.cell? ⟨b, 2, none⟩ = some (.string f) ∧ W.cell? ⟨b, 4, none⟩ = some (.string B)) := Lib.hid (fun W hW => by
    obtain ⟨⟨y0, y1, y2, -, y4, -⟩, -⟩ := (HCW.out W hW).cells
    rw [hB] at y4
    exact ⟨y0, y1, y2, y4⟩)
  have HDr : Hid (Below w.heap.size w w.drew) := Lib.hid (Below.refl _ _).drew
  clear hc hE hk hl hf hn hex2 hS hsz
  go_enter Tryz.func31, Tryz.ntmps31
  go_wp2_with fail
  go_region_held3 (fun w' => w'.cell? ⟨b, 0, none⟩ = some (.string h) ∧ w'.cell? ⟨b, 1, none⟩ = some (.string p) ∧ w'.cell? ⟨b, 2, none⟩ = some (.string f) ∧ w'.cell? ⟨b, 4, none⟩ = some (.string B)) (first | exact HS.out _ HDr.out | exact HS.out _ HA1.out)
    (first
      | (go_at_call 18; (try rw [hex]); refine (HA.out _ HDr.out).mono ?_; rintro e wa ⟨rfl, hba⟩; have HA1 : Hid (Below w.heap.size w wa) := Lib.hid (bstep HDr.out hba); clear hba))
  have hc2 := HCW.out _ HA1.out
  clear c0 c1 c2 c3 c4 c5 f3 f4 f5
  obtain ⟨⟨c0, c1, c2, c3, c4, c5⟩, f3, f4, f5⟩ := hc2.cells
  rw [hB] at c4
  have HC2 := Lib.hid hc2
  clear hc2
  go_wp2_with fail
  go_ret
  refine ⟨rfl, ⟨?_⟩, touch_set _ (touch_set _ (Touch.of_below HA1.out) (.inl rfl)) (.inl rfl)⟩
  rw [HX.out.2.1, show ((n + 1 : Nat) : Int) = (n : Int) + 1 from Int.natCast_add n 1]
  exact six_set5 (six_set4 HC2.out.blk _) _
end Go.Proofs.YtfjdppngeillcaaGreatDoor
namespace Go.Proofs.YtfjdppngeillcaaGreatDoor
open Go.RowKit
theorem words_sum (l : List UInt8) : ((words l).map (fun x => x.length + 1)).sum = l.length + 1 := by
  induction l with
  | nil => rfl
  | cons c r ih =>
    rw [words]
    split
    · rw [List.map_cons, List.sum_cons, ih]
      show 0 + 1 + (r.length + 1) = r.length + 1 + 1
      omega
    · cases h : words r with
      | nil => exact absurd h (words_ne r)
      | cons w ws =>
        rw [h] at ih
        simp only [List.map_cons, List.sum_cons, List.length_cons] at ih ⊢
        omega
theorem headR_pre (s : ByteArray) : ∀ (f : Nat) (a : Int) (xs : List (List UInt8)), (headR f s a xs).2.2 = 0 → ∃ t, (headR f s a xs).1 = xs ++ t := by
  intro f
  induction f with
  | zero => intro a xs h; exact absurd (show (21 : Nat) = 0 from h) (by decide)
  | succ f ih =>
    intro a xs h
    by_cases he : takeErr s a = 0
    · by_cases hm : (takeLine s a).toList.isEmpty = true
      · rw [headR_end f s a xs he hm]; exact ⟨[], by simp⟩
      · rw [Bool.not_eq_true] at hm
        by_cases h17 : xs.length = 17
        · rw [headR_many f s a xs he hm h17] at h; exact absurd h (by decide)
        · rw [headR_more f s a xs he hm h17] at h ⊢
          obtain ⟨t, ht⟩ := ih _ _ h
          exact ⟨(takeLine s a).data.toList :: t, by rw [ht]; simp⟩
    · rw [headR_err f s a xs he] at h; exact absurd h he
theorem first_len (ls : List (List UInt8)) (h : firstL ls = 0) : ls ≠ [] ∧ 13 ≤ (ls.getD 0 []).length := by
  unfold firstL at h
  split at h
  · exact absurd h (by decide)
  · rename_i hne
    refine ⟨hne, ?_⟩
    have hs := words_sum (ls.getD 0 [])
    generalize ls.getD 0 [] = x at h hs ⊢
    generalize words x = W at h hs
    unfold firstW at h
    split at h
    · exact absurd h (by decide)
    rename_i g1
    split at h
    · exact absurd h (by decide)
    rename_i g2
    split at h
    · exact absurd h (by decide)
    rename_i g3
    rw [Decidable.not_not] at g1
    match W, g1 with
    | [w0, w1, w2], _ =>
      simp only [List.map_cons, List.map_nil, List.sum_cons, List.sum_nil] at hs
      have e0 : w0.length = 3 := by
        have : w0 = [71, 69, 84] := by simpa using g2
        rw [this]; rfl
      have e2 : w2.length = 8 := by
        have : w2 = [72, 84, 84, 80, 47, 49, 46, 49] := by simpa using g3
        rw [this]; rfl
      omega
theorem ask_min (s : ByteArray) (h0 : askE s = 0) : 17 ≤ askN s := by
  have hh : (headOf s).2.2 = 0 := by
    by_cases h : (headOf s).2.2 = 0
    · exact h
    · unfold askE at h0; rw [if_pos h] at h0; exact h0
  have hl : lnE (headOf s).1 = 0 := by unfold askE at h0; rw [if_neg (by simp [hh])] at h0; exact h0
  have h1 : firstL (headOf s).1 = 0 := by
    by_cases h : firstL (headOf s).1 = 0
    · exact h
    · unfold lnE at hl; rw [if_pos h] at hl; exact hl
  obtain ⟨hne, h13⟩ := first_len _ h1
  have hN : askN s = (headOf s).2.1 := by unfold askN; rw [if_pos h0]
  rw [hN]
  clear hN hl h1 h0
  unfold headOf at hh hne h13 ⊢
  by_cases he : takeErr s 0 = 0
  · by_cases hm : (takeLine s 0).toList.isEmpty = true
    · rw [headR_end 17 s 0 [] he hm] at hne; exact absurd rfl hne
    · rw [Bool.not_eq_true] at hm
      rw [headR_more 17 s 0 [] he hm (by decide)] at hh hne h13 ⊢
      obtain ⟨t, ht⟩ := headR_pre s 17 _ _ hh
      rw [ht] at h13
      have hx : (([] ++ [(takeLine s 0).data.toList] ++ t).getD 0 []) = (takeLine s 0).data.toList := rfl
      rw [hx, size_len] at h13
      have hb := take_next_bd s 0 he (Int.le_refl _)
      obtain ⟨b1, -⟩ := headR_bd s 17 (takeNext s 0) ([] ++ [(takeLine s 0).data.toList]) (by omega) hh (by decide)
      have hn : takeNext s 0 = 0 + (scanAt s.data.toList 0 0).1 + 2 := by unfold takeNext; rw [if_pos he]; rfl
      have ht2 : (takeLine s 0).size ≤ (scanAt s.data.toList 0 0).1 := by
        unfold takeLine
        rw [if_pos he, ByteArray.size_extract]
        show min (0 + (scanAt s.data.toList 0 0).1) s.size - 0 ≤ _
        omega
      omega
  · rw [headR_err 17 s 0 [] he] at hh; exact absurd hh he
/-- few answers come -/
def SrvFew (h p f : List UInt8) (l : List UInt8) : Prop := 17 * (srvOf h p f l).2.2.1 ≤ l.length + 17
theorem srv_few (h p f : List UInt8) : ∀ l, SrvFew h p f l := by
  refine srv_ind (SrvFew h p f) ?_
  intro l ih
  unfold SrvFew at ih ⊢
  by_cases h0 : askE (bs l) = 0
  · have ih0 := ih h0
    obtain ⟨n1, n2, n3⟩ := ask_n l h0
    have hm := ask_min (bs l) h0
    rw [srv_more h p f l h0]
    rw [List.length_drop] at ih0
    show 17 * ((srvOf h p f (l.drop (askN (bs l)).toNat)).2.2.1 + 1) ≤ _
    omega
  · by_cases h3 : askE (bs l) = 3
    · rw [srv_short h p f l h3]; exact Nat.zero_le _
    · rw [srv_bad h p f l h0 h3]; show 17 * 1 ≤ _; omega
end Go.Proofs.YtfjdppngeillcaaGreatDoor
namespace Go.Proofs.YtfjdppngeillcaaGreatDoor
open Go.RowKit
/-- what Put hands over -/
def SPost (b : Nat) (h p f : ByteArray) (n : Nat) (R : List UInt8 × List UInt8 × Nat × Bool) (w : World) (e : Ending) (w' : World) : Prop :=
  e = .returned (.string (bs R.1)) ∧ CAt w' b h p f (!R.2.2.2) R.2.1 (n + R.2.2.1) ∧ Touch (fun g => g = b) w w'
theorem touch_from {S : Nat → Prop} {w w' w'' : World} {B : Nat} (h : Touch S w w') (hb : Below B w' w'') (hB : w.heap.size ≤ B) : Touch S w w'' :=
  h.trans (S' := fun g => B ≤ g) ⟨hb.os, hb.tape, hb.output, hb.size, fun k _ hn => hb.block k (Nat.lt_of_not_le hn)⟩ (fun g hg => .inr (Nat.le_trans hB hg))
/-- the state of Put's loop -/
structure SRel (w wr : World) (b B : Nat) (h p f : ByteArray) (n : Nat) (R : List UInt8 × List UInt8 × Nat × Bool) (l1 acc : List UInt8) (n1 : Nat) (op : Bool) : Prop where
  c : CAt wr b h p f op l1 n1
  bi : BIs B acc wr
  hB : w.heap.size ≤ B
  lt : b < B
  sz : B ≤ wr.heap.size
  t : Touch (fun g => g = b) w wr
  go : op = true → R.1 = acc ++ (srvOf h.data.toList p.data.toList f.data.toList l1).1 ∧ R.2.1 = (srvOf h.data.toList p.data.toList f.data.toList l1).2.1 ∧ n + R.2.2.1 = n1 + (srvOf h.data.toList p.data.toList f.data.toList l1).2.2.1 ∧ R.2.2.2 = (srvOf h.data.toList p.data.toList f.data.toList l1).2.2.2
  stop : op = false → R.1 = acc ∧ R.2.1 = l1 ∧ n + R.2.2.1 = n1 ∧ R.2.2.2 = true
  ll : l1.length ≤ 100000
  al : acc.length ≤ R.1.length
  nl : n1 ≤ n + R.2.2.1
theorem SRel.start {w w1 : World} {b : Nat} {h p f : ByteArray} {n : Nat} {L : List UInt8} (hc : CAt w1 b h p f true L n) (ht : Touch (fun g => g = b) w w1) (hl : L.length ≤ 100000) :
    SRel w (w1.alloc (.cells #[.pointer none, .slice none 0 0] 68 (0, 0))) b w1.heap.size h p f n (srvOf h.data.toList p.data.toList f.data.toList L) L [] n true :=
  ⟨hc.below ((Below.refl _ _).alloc (Nat.le_refl _) _), BIs.fresh w1, ht.size, hc.lt, by simp, ht.trans (S' := fun g => g = b) (Touch.of_below ((Below.refl _ _).alloc (Nat.le_refl _) _)) (fun g hg => .inl hg), fun _ => ⟨rfl, rfl, rfl, rfl⟩, fun h => absurd h (by decide), hl, Nat.zero_le _, Nat.le_add_right _ _⟩
/-- take and WriteString, as one step -/
theorem SRel.step {w wr w2 w3 : World} {b B : Nat} {h p f : ByteArray} {n : Nat} {R : List UInt8 × List UInt8 × Nat × Bool} {l1 acc S : List UInt8} {n1 k : Nat} {op op' : Bool} (hr : SRel w wr b B h p f n R l1 acc n1 op)
    (hc : CAt w2 b h p f op' (l1.drop k) (n1 + 1)) (ht : Touch (fun g => g = b) wr w2) (hb : Below B w2 w3) (hbi : BIs B (acc ++ S) w3)
    (hgo : op' = true → R.1 = (acc ++ S) ++ (srvOf h.data.toList p.data.toList f.data.toList (l1.drop k)).1 ∧ R.2.1 = (srvOf h.data.toList p.data.toList f.data.toList (l1.drop k)).2.1 ∧ n + R.2.2.1 = (n1 + 1) + (srvOf h.data.toList p.data.toList f.data.toList (l1.drop k)).2.2.1 ∧ R.2.2.2 = (srvOf h.data.toList p.data.toList f.data.toList (l1.drop k)).2.2.2)
    (hstop : op' = false → R.1 = acc ++ S ∧ R.2.1 = l1.drop k ∧ n + R.2.2.1 = n1 + 1 ∧ R.2.2.2 = true) : SRel w w3 b B h p f n R (l1.drop k) (acc ++ S) (n1 + 1) op' := by
  refine ⟨⟨(hb.block b hr.lt).trans hc.blk⟩, hbi, hr.hB, hr.lt, Nat.le_trans hr.sz (Nat.le_trans ht.size hb.size), touch_from (hr.t.trans ht (fun g hg => .inl hg)) hb hr.hB, hgo, hstop, ?_, ?_, ?_⟩
  · rw [List.length_drop]; have := hr.ll; omega
  · cases op' with
    | true => rw [(hgo rfl).1]; simp only [List.length_append]; omega
    | false => rw [(hstop rfl).1]; exact Nat.le_refl _
  · cases op' with
    | true => have := (hgo rfl).2.2.1; omega
    | false => have := (hstop rfl).2.2.1; omega
theorem BIs.take {b B : Nat} {l : List UInt8} {w w' : World} (h : BIs B l w) (ht : Touch (fun g => g = b) w w') (hlt : b < B) : BIs B l w' :=
  h.keep (fun g hg hs => ht.block g hs (fun e => by have : g = b := e; omega))
theorem CAt.shut {w : World} {b : Nat} {h p f : ByteArray} {op : Bool} {l : List UInt8} {n : Nat} (k : CAt w b h p f op l n) : CAt (w.setCell ⟨b, 3, none⟩ (.bool false)) b h p f false l n := ⟨six_set3 k.blk _⟩
set_option maxRecDepth 100000 in
set_option maxHeartbeats 1000000 in
theorem srv_put_closed {w : World} {b : Nat} {h p f : ByteArray} {l : List UInt8} {n : Nat} (s : ByteArray) (hc : CAt w b h p f false l n) :
    Calls Tryz.prog 13 #[.pointer (some ⟨b, 0, none⟩), .string s] w fun e w' => e = .returned (.string ⟨#[]⟩) ∧ w' = w := by
  have HC := Lib.hid (srv_closed_at hc.blk)
  clear hc
  go_enter Tryz.func13, Tryz.ntmps13
  go_wp2_with fail
  refine HC.out.mono ?_
  rintro e w' ⟨rfl, hww⟩
  obtain rfl := hww.symm
  go_wp2_with fail
  go_ret
  exact ⟨rfl, rfl⟩
def mOf (op : Bool) (l : List UInt8) : Nat := if op = true then l.length + 1 else 0
/-- the loop's end: closed, or too short -/
theorem SRel.done {w wr w9 : World} {b B : Nat} {h p f : ByteArray} {n : Nat} {R : List UInt8 × List UInt8 × Nat × Bool} {l1 acc : List UInt8} {n1 : Nat} (hr : SRel w wr b B h p f n R l1 acc n1 false) (hb : Below B wr w9) :
    SPost b h p f n R w (.returned (.string (bs acc))) w9 := by
  obtain ⟨s1, s2, s3, s4⟩ := hr.stop rfl
  refine ⟨by rw [s1], ?_, touch_from hr.t hb hr.hB⟩
  rw [s2, s3, s4]
  exact ⟨(hb.block b hr.lt).trans hr.c.blk⟩
theorem SRel.short {w wr w9 : World} {b B : Nat} {h p f : ByteArray} {n : Nat} {R : List UInt8 × List UInt8 × Nat × Bool} {l1 acc : List UInt8} {n1 : Nat} (hr : SRel w wr b B h p f n R l1 acc n1 true) (h3 : askE (bs l1) = 3) (hb : Below B wr w9) :
    SPost b h p f n R w (.returned (.string (bs acc))) w9 := by
  obtain ⟨s1, s2, s3, s4⟩ := hr.go rfl
  rw [srv_short _ _ _ l1 h3] at s1 s2 s3 s4
  refine ⟨by rw [s1]; simp, ?_, touch_from hr.t hb hr.hB⟩
  rw [s2, s3, s4]
  exact ⟨(hb.block b hr.lt).trans hr.c.blk⟩
theorem SRel.more {w wr w2 w3 : World} {b B : Nat} {h p f : ByteArray} {n : Nat} {R : List UInt8 × List UInt8 × Nat × Bool} {l1 acc : List UInt8} {n1 k : Nat} (hr : SRel w wr b B h p f n R l1 acc n1 true) (h0 : askE (bs l1) = 0) (hk : (askN (bs l1)).toNat = k)
    (hc : CAt w2 b h p f true (l1.drop k) (n1 + 1)) (ht : Touch (fun g => g = b) wr w2) (hb : Below B w2 w3) (hbi : BIs B (acc ++ orgS h.data.toList p.data.toList f.data.toList (bs (l1.take k))) w3) : SRel w w3 b B h p f n R (l1.drop k) (acc ++ orgS h.data.toList p.data.toList f.data.toList (bs (l1.take k))) (n1 + 1) true := by
  obtain ⟨s1, s2, s3, s4⟩ := hr.go rfl
  rw [srv_more _ _ _ l1 h0, hk] at s1 s2 s3 s4
  refine hr.step hc ht hb hbi (fun _ => ⟨by rw [s1, List.append_assoc], s2, ?_, s4⟩) (fun h => absurd h (by decide))
  simp only at s3
  omega
theorem SRel.bad {w wr w2 w3 : World} {b B : Nat} {h p f : ByteArray} {n : Nat} {R : List UInt8 × List UInt8 × Nat × Bool} {l1 acc : List UInt8} {n1 : Nat} (hr : SRel w wr b B h p f n R l1 acc n1 true) (h0 : askE (bs l1) ≠ 0) (h3 : askE (bs l1) ≠ 3)
    (hc : CAt w2 b h p f false (l1.drop l1.length) (n1 + 1)) (ht : Touch (fun g => g = b) wr w2) (hb : Below B w2 w3) (hbi : BIs B (acc ++ orgS h.data.toList p.data.toList f.data.toList (bs l1)) w3) : SRel w w3 b B h p f n R (l1.drop l1.length) (acc ++ orgS h.data.toList p.data.toList f.data.toList (bs l1)) (n1 + 1) false := by
  obtain ⟨s1, s2, s3, s4⟩ := hr.go rfl
  rw [srv_bad _ _ _ l1 h0 h3] at s1 s2 s3 s4
  refine hr.step hc ht hb hbi (fun h => absurd h (by decide)) (fun _ => ⟨s1, by rw [s2, List.drop_length], ?_, s4⟩)
  simp only at s3
  omega
set_option maxRecDepth 100000 in
set_option maxHeartbeats 8000000 in
theorem srv_put {w : World} {b : Nat} {h p f : ByteArray} {l : List UInt8} {n : Nat} (s : ByteArray) (hc : CAt w b h p f true l n) (hE : ∀ W, Touch (fun g => g = b) w W → EnvF W) (hl : l.length + s.size ≤ 100000) (hf : f.size ≤ 2000) (hn : n ≤ 100000) :
    Calls Tryz.prog 13 #[.pointer (some ⟨b, 0, none⟩), .string s] w (SPost b h p f n (srvOf h.data.toList p.data.toList f.data.toList (l ++ s.data.toList)) w) := by
  have HC := Lib.hid (srv_closed_at hc.blk)
  have HCt := Lib.hid hc
  obtain ⟨⟨c0, c1, c2, c3, c4, c5⟩, f3, f4, f5⟩ := hc.cells
  obtain ⟨L, hL⟩ : ∃ L, l ++ s.data.toList = L := ⟨_, rfl⟩
  have hLl : L.length ≤ 100000 := by rw [← hL, List.length_append, size_len]; exact hl
  have HLS : Hid (bs l ++ s = bs L) := Lib.hid (by rw [← hL]; conv => lhs; rhs; rw [← bs_self s]
                                                   rw [bs_cat])
  have padd := fun w => run_string_add_sum (P := Tryz.prog) w (bs l) s (by rw [bs_size]; omega)
  obtain ⟨R, hR⟩ : ∃ R, srvOf h.data.toList p.data.toList f.data.toList L = R := ⟨_, rfl⟩
  have hfl : f.data.toList.length ≤ 1000000 := by rw [size_len]; omega
  have hrest := srv_rest h.data.toList p.data.toList f.data.toList hfl L
  unfold SrvRest at hrest
  rw [hR, size_len] at hrest
  have HRl : Hid (R.1.length ≤ 900000000 ∧ n + R.2.2.1 ≤ 300000) := Lib.hid (by
    obtain ⟨-, -, -, r4, r5⟩ := hrest
    refine ⟨Nat.le_trans r5 (Nat.le_trans (Nat.mul_le_mul (show R.2.2.1 ≤ 100001 by omega) (show 4400 + f.size ≤ 6400 by omega)) (by decide)), by omega⟩)
  have HST : Hid (∀ w1, CAt w1 b h p f true L n → Touch (fun g => g = b) w w1 → SRel w (w1.alloc (.cells #[.pointer none, .slice none 0 0] 68 (0, 0))) b w1.heap.size h p f n R L [] n true) := Lib.hid (fun w1 h1 h2 => by rw [← hR]; exact SRel.start h1 h2 hLl)
  have HE := Lib.hid hE
  have HFL := Lib.hid hfl
  rw [hL, hR]
  have HSZ := Lib.hid hf
  clear hc hE hl hL hR hrest hfl hLl hf hn
  go_enter Tryz.func13, Tryz.ntmps13
  go_wp2_with fail
  refine HC.out.mono ?_
  rintro e w' ⟨rfl, hww⟩
  obtain rfl := hww.symm
  clear hww HC
  go_wp2_with fail
  rw [HLS.out]
  have HS0 := Lib.hid (HST.out (w.setCell ⟨b, 4, none⟩ (.string (bs L))) ⟨six_set4 HCt.out.blk _⟩ (touch_set _ (Touch.refl _ _) (.inl rfl)))
  have hsz : (w.setCell ⟨b, 4, none⟩ (.string (bs L))).heap.size = w.heap.size := by simp
  rw [hsz] at HS0
  clear hsz padd c0 c1 c2 c3 c4 c5 f3 f4 f5
  generalize ((w.setCell ⟨b, 4, none⟩ (.string (bs L))).alloc (.cells #[.pointer none, .slice none 0 0] 68)) = W0 at HS0 ⊢
  have HM0 : Hid (mOf true L < L.length + 2) := Lib.hid (by show L.length + 1 < _; omega)
  go_loopg [7] (L.length + 2) (fun gk s7 wr => ∃ (l1 acc : List UInt8) (n1 : Nat) (op : Bool), Hid (mOf op l1 < gk) ∧ Hid (SRel w wr b w.heap.size h p f n R l1 acc n1 op))
  case atStart => exact ⟨L, [], n, true, HM0, HS0⟩
  case round =>
    obtain ⟨l1, acc, n1, op, HM, HRr⟩ := hrel
    obtain ⟨g', rfl⟩ : ∃ g', gk = g' + 1 := ⟨gk - 1, by have := HM.out; omega⟩
    obtain ⟨⟨c0, c1, c2, c3, c4, c5⟩, f3, f4, f5⟩ := HRr.out.c.cells
    clear HS0 HM0
    cases op with
    | false =>
      have HS := Lib.hid (c_string w.heap.size acc wr HRr.out.bi HRr.out.sz)
      go_wp2_with fail
      refine HS.out.mono ?_
      rintro e w9 ⟨rfl, -, hb9⟩
      have HD := Lib.hid (HRr.out.done hb9)
      clear hb9 HS
      go_wp2_with fail
      go_ret
      exact HD.out
    | true =>
      have hl1 : l1.length ≤ 100000 := HRr.out.ll
      have HEr := Lib.hid (HE.out wr HRr.out.t)
      have HA := asking_parse (bs l1) wr (by rw [bs_size]; omega) HEr.out
      unfold askV at HA
      generalize bs (askPath (bs l1)) = P at HA
      generalize bs (askHost (bs l1)) = Q at HA
      generalize askA (bs l1) = a1 at HA
      generalize askB (bs l1) = b1 at HA
      obtain ⟨E, hE1⟩ : ∃ E, askE (bs l1) = E := ⟨_, rfl⟩
      by_cases h0 : E = 0
      · subst h0
        obtain ⟨n1', n2', n3'⟩ := ask_n l1 hE1
        obtain ⟨k, hk⟩ : ∃ k, (askN (bs l1)).toNat = k := ⟨_, rfl⟩
        rw [hk] at n1' n2' n3'
        rw [n3', hE1] at HA
        have HA := Lib.hid HA
        have HK := Lib.hid (And.intro n1' n2')
        have HX := Lib.hid (And.intro hE1 hk)
        clear n1' n2' n3' hk hE1
        go_wp2_with fail
        refine HA.out.mono ?_
        rintro e w1 ⟨rfl, hb0⟩
        have hb1 := bstep hb0 (below_agg4 w1 (.string P) (.string Q) (.int .i64 a1) (.int .i64 b1) 71)
        clear hb0
        have HC1 := Lib.hid (HRr.out.c.below hb1)
        have HBI1 := Lib.hid (HRr.out.bi.below hb1)
        have HT1 := Lib.hid (Touch.of_below (S := fun g => g = b) hb1)
        have HE1 := Lib.hid (HE.out _ (HRr.out.t.trans HT1.out (fun g hg => .inl hg)))
        clear c0 c1 c2 c3 c4 c5 f3 f4 f5 hb1
        have HTk := Lib.hid (srv_take k HC1.out HE1.out HK.out.2 (by omega) (by have := HSZ.out; omega) (by have := HRr.out.nl; have := HRl.out.2; omega))
        unfold TakePost at HTk
        go_wp2_with fail
        refine HTk.out.mono ?_
        rintro e w2 ⟨rfl, hc2, ht2⟩
        have HC2 := Lib.hid hc2
        have HT2 : Hid (Touch (fun g => g = b) wr w2) := Lib.hid (HT1.out.trans ht2 (fun g hg => .inl hg))
        have HBI2 := Lib.hid (HBI1.out.take ht2 HRr.out.lt)
        have HSZ2 : Hid (w.heap.size ≤ w2.heap.size) := Lib.hid (Nat.le_trans HRr.out.sz HT2.out.size)
        have HOl := orgS_len h.data.toList p.data.toList f.data.toList (bs (l1.take k)) HFL.out
        have HW := Lib.hid (c_wstr w.heap.size acc (bs (orgS h.data.toList p.data.toList f.data.toList (bs (l1.take k)))) w2 HBI2.out (by rw [bs_size]; have := HRr.out.al; have := HRl.out.1; have := HSZ.out; rw [size_len] at HOl; omega) HSZ2.out)
        rw [bs_data] at HW
        clear hc2 ht2 HOl HTk
        go_wp2_with fail
        refine HW.out.mono ?_
        rintro e w3 ⟨rfl, hbi3, hb3⟩
        have HN := Lib.hid (HRr.out.more HX.out.1 HX.out.2 HC2.out HT2.out hb3 hbi3)
        have HMn : Hid (mOf true (l1.drop k) < g') := Lib.hid (by
          have h1 := HM.out
          have h2 := HK.out
          have e1 : mOf true l1 = l1.length + 1 := rfl
          have e2 : mOf true (l1.drop k) = (l1.drop k).length + 1 := rfl
          rw [List.length_drop] at e2
          omega)
        clear hbi3 hb3 HW
        go_wp2_with fail
        go_roundg g'
        case measure => omega
        case rel => exact ⟨_, _, _, true, HMn, HN⟩
      · by_cases h3 : E = 3
        · subst h3
          rw [hE1] at HA
          generalize askN (bs l1) = N1 at HA
          have HA := Lib.hid HA
          have HX := Lib.hid hE1
          clear hE1 h0
          go_wp2_with fail
          refine HA.out.mono ?_
          rintro e w1 ⟨rfl, hb0⟩
          have hb1 := bstep hb0 (below_agg4 w1 (.string P) (.string Q) (.int .i64 a1) (.int .i64 b1) 71)
          clear hb0
          have HBI1 := Lib.hid (HRr.out.bi.below hb1)
          have HS := Lib.hid (c_string w.heap.size acc _ HBI1.out (Nat.le_trans HRr.out.sz hb1.size))
          have HB1 := Lib.hid hb1
          clear c0 c1 c2 c3 c4 c5 f3 f4 f5 hb1
          go_wp2_with fail
          refine HS.out.mono ?_
          rintro e w9 ⟨rfl, -, hb9⟩
          have HD := Lib.hid (HRr.out.short HX.out ((HB1.out.mono HRr.out.sz).trans hb9))
          clear hb9 HS
          go_wp2_with fail
          go_ret
          exact HD.out
        · have tz : ((E : Int) == 0) = false := by rw [beq_eq_false_iff_ne]; omega
          have tz3 : ((E : Int) == 3) = false := by rw [beq_eq_false_iff_ne]; omega
          rw [hE1] at HA
          generalize askN (bs l1) = N1 at HA
          have HA := Lib.hid HA
          have HX : Hid (askE (bs l1) ≠ 0 ∧ askE (bs l1) ≠ 3) := Lib.hid (by rw [hE1]; exact ⟨h0, h3⟩)
          have hbz := bs_size l1
          clear hE1 h0 h3
          go_wp2_with fail
          refine HA.out.mono ?_
          rintro e w1 ⟨rfl, hb0⟩
          have hb1 := bstep hb0 (below_agg4 w1 (.string P) (.string Q) (.int .i64 a1) (.int .i64 b1) 71)
          clear hb0
          have hc1 := HRr.out.c.below hb1
          have HBI1 := Lib.hid (HRr.out.bi.below hb1)
          have HT1 := Lib.hid (Touch.of_below (S := fun g => g = b) hb1)
          have HC1 := Lib.hid hc1.shut
          have HT1' : Hid (Touch (fun g => g = b) wr ((w1.alloc (.cells #[.string P, .string Q, .int .i64 a1, .int .i64 b1] 71)).setCell ⟨b, 3, none⟩ (.bool false))) := Lib.hid (touch_set _ HT1.out (.inl rfl))
          have HBI1' : Hid (BIs w.heap.size acc ((w1.alloc (.cells #[.string P, .string Q, .int .i64 a1, .int .i64 b1] 71)).setCell ⟨b, 3, none⟩ (.bool false))) := Lib.hid (HBI1.out.take (touch_set _ (Touch.refl (fun g => g = b) _) (.inl rfl)) HRr.out.lt)
          have HE1 := Lib.hid (HE.out _ (HRr.out.t.trans HT1'.out (fun g hg => .inl hg)))
          clear c0 c1 c2 c3 c4 c5 f3 f4 f5 hb1
          obtain ⟨⟨c0, c1, c2, c3, c4, c5⟩, f3, f4, f5⟩ := hc1.cells
          clear hc1
          have HTk := Lib.hid (srv_take l1.length HC1.out HE1.out (Nat.le_refl _) (by omega) (by have := HSZ.out; omega) (by have := HRr.out.nl; have := HRl.out.2; omega))
          unfold TakePost at HTk
          rw [List.take_length, ← hbz] at HTk
          go_wp2_with fail
          refine HTk.out.mono ?_
          rw [hbz]
          rintro e w2 ⟨rfl, hc2, ht2⟩
          have HC2 := Lib.hid hc2
          have HT2 : Hid (Touch (fun g => g = b) wr w2) := Lib.hid (HT1'.out.trans ht2 (fun g hg => .inl hg))
          have HBI2 := Lib.hid (HBI1'.out.take ht2 HRr.out.lt)
          have HSZ2 : Hid (w.heap.size ≤ w2.heap.size) := Lib.hid (Nat.le_trans HRr.out.sz HT2.out.size)
          have HOl := orgS_len h.data.toList p.data.toList f.data.toList (bs l1) HFL.out
          have HW := Lib.hid (c_wstr w.heap.size acc (bs (orgS h.data.toList p.data.toList f.data.toList (bs l1))) w2 HBI2.out (by rw [bs_size]; have := HRr.out.al; have := HRl.out.1; have := HSZ.out; rw [size_len] at HOl; omega) HSZ2.out)
          rw [bs_data] at HW
          clear hc2 ht2 HOl HTk c0 c1 c2 c3 c4 c5 f3 f4 f5 hbz
          go_wp2_with fail
          refine HW.out.mono ?_
          rintro e w3 ⟨rfl, hbi3, hb3⟩
          have HN := Lib.hid (HRr.out.bad HX.out.1 HX.out.2 HC2.out HT2.out hb3 hbi3)
          have HMn : Hid (mOf false (l1.drop l1.length) < g') := Lib.hid (by
            have h1 := HM.out
            have e1 : mOf true l1 = l1.length + 1 := rfl
            have e2 : mOf false (l1.drop l1.length) = 0 := rfl
            omega)
          clear hbi3 hb3 HW
          go_wp2_with fail
          go_roundg g'
          case measure => omega
          case rel => exact ⟨_, _, _, false, HMn, HN⟩
end Go.Proofs.YtfjdppngeillcaaGreatDoor
namespace Go.Proofs.YtfjdppngeillcaaGreatDoor
open Go.RowKit
theorem below_c6 (w : World) (a b c d e f : Value) : Below w.heap.size w (w.alloc (.cells #[a, b, c, d, e, f] 35)) := (Below.refl _ _).alloc (Nat.le_refl _) _
theorem load_rconn (w : World) (b : Nat) (t : TypeId) (x0 x1 x2 x3 x4 x5 : Value) (h : w.heap[b]? = some (.cells #[x0, x1, x2, x3, x4, x5] t (0, 0))) : (loadVar 35 ⟨b, 0, none⟩).run Tryz.prog w = .ok (.agg #[x0, x1, x2, x3, x4, x5]) w :=
  run_loadVar_row w b t 35 #[x0, x1, x2, x3, x4, x5] (0, 0) _ h Tryz.underlying35 rfl (by kernel_rfl)
/-- what a put comes to, closed or not -/
def srvP (h p f : List UInt8) (cl : Bool) (l s : List UInt8) : List UInt8 × List UInt8 × Nat × Bool := if cl = true then ([], l, 0, true) else srvOf h p f (l ++ s)
def RSPost (h p f : ByteArray) (n : Nat) (R : List UInt8 × List UInt8 × Nat × Bool) (w : World) (e : Ending) (w' : World) : Prop :=
  e = .returned (.tuple #[.agg #[.string h, .string p, .string f, .string (bs R.2.1), .bool R.2.2.2, .int .i64 ((n + R.2.2.1 : Nat) : Int)], .string (bs R.1)]) ∧ Below w.heap.size w w'
theorem six_all {w : World} {b : Nat} {x0 x1 x2 x3 x4 x5 : Value} {t : TypeId} (k : w.heap[b]? = some (.cells #[x0, x1, x2, x3, x4, x5] t (0, 0))) (y0 y1 y2 y3 y4 y5 : Value) :
    ((((((w.setCell ⟨b, 0, none⟩ y0).setCell ⟨b, 1, none⟩ y1).setCell ⟨b, 2, none⟩ y2).setCell ⟨b, 3, none⟩ y3).setCell ⟨b, 4, none⟩ y4).setCell ⟨b, 5, none⟩ y5).heap[b]? = some (.cells #[y0, y1, y2, y3, y4, y5] t (0, 0)) := by
  simp [World.setCell, Array.getElem?_modify, k]
theorem six_below {B : Nat} {w0 w : World} (h : Below B w0 w) (b : Nat) (hB : B ≤ b) (y0 y1 y2 y3 y4 y5 : Value) : Below B w0 ((((((w.setCell ⟨b, 0, none⟩ y0).setCell ⟨b, 1, none⟩ y1).setCell ⟨b, 2, none⟩ y2).setCell ⟨b, 3, none⟩ y3).setCell ⟨b, 4, none⟩ y4).setCell ⟨b, 5, none⟩ y5) :=
  (((((h.setCell (p := ⟨b, 0, none⟩) hB _).setCell (p := ⟨b, 1, none⟩) hB _).setCell (p := ⟨b, 2, none⟩) hB _).setCell (p := ⟨b, 3, none⟩) hB _).setCell (p := ⟨b, 4, none⟩) hB _).setCell (p := ⟨b, 5, none⟩) hB _
theorem six_free {w : World} {b : Nat} {x0 x1 x2 x3 x4 x5 : Value} {t : TypeId} (k : w.heap[b]? = some (.cells #[x0, x1, x2, x3, x4, x5] t (0, 0))) :
    w.frozen? ⟨b, 0, none⟩ = false ∧ w.frozen? ⟨b, 1, none⟩ = false ∧ w.frozen? ⟨b, 2, none⟩ = false ∧ w.frozen? ⟨b, 3, none⟩ = false ∧ w.frozen? ⟨b, 4, none⟩ = false ∧ w.frozen? ⟨b, 5, none⟩ = false := by
  refine ⟨?_, ?_, ?_, ?_, ?_, ?_⟩ <;> (unfold World.frozen?; rw [k]; rfl)
/-- a connection of the reference in block w.heap.size, an empty one behind -/
structure RBlk (w wr : World) (h p f : ByteArray) (l1 : List UInt8) (cl : Bool) (n1 : Nat) : Prop where
  c : wr.heap[w.heap.size]? = some (.cells #[.string h, .string p, .string f, .string (bs l1), .bool cl, .int .i64 (n1 : Nat)] 35 (0, 0))
  z : wr.heap[w.heap.size + 1]? = some (.cells #[.string ⟨#[]⟩, .string ⟨#[]⟩, .string ⟨#[]⟩, .string ⟨#[]⟩, .bool false, .int .i64 0] 35 (0, 0))
  b : Below w.heap.size w wr
theorem set_far6 {w : World} {b c o : Nat} {y : Value} (h : b ≠ c) : (w.setCell ⟨c, o, none⟩ y).heap[b]? = w.heap[b]? := Below.heap_setCell _ _ _ _ h
theorem RBlk.below {w wr w' : World} {h p f : ByteArray} {l1 : List UInt8} {cl : Bool} {n1 : Nat} (k : RBlk w wr h p f l1 cl n1) (hb : Below wr.heap.size wr w') : RBlk w w' h p f l1 cl n1 :=
  ⟨(hb.block _ (Array.getElem?_eq_some_iff.1 k.c).1).trans k.c, (hb.block _ (Array.getElem?_eq_some_iff.1 k.z).1).trans k.z, bstep k.b hb⟩
theorem RBlk.new (w : World) (h p f : ByteArray) (l1 : List UInt8) (cl : Bool) (n1 : Nat) : RBlk w ((w.alloc (.cells #[.string h, .string p, .string f, .string (bs l1), .bool cl, .int .i64 (n1 : Nat)] 35)).alloc (.cells #[.string ⟨#[]⟩, .string ⟨#[]⟩, .string ⟨#[]⟩, .string ⟨#[]⟩, .bool false, .int .i64 0] 35)) h p f l1 cl n1 :=
  ⟨((below_c6 (w.alloc (.cells #[.string h, .string p, .string f, .string (bs l1), .bool cl, .int .i64 (n1 : Nat)] 35)) _ _ _ _ _ _).block w.heap.size (by simp)).trans (heap_alloc_new w _), heap_alloc2_new w _ _, bstep (below_c6 w _ _ _ _ _ _) (below_c6 _ _ _ _ _ _ _)⟩
theorem RBlk.shut {w wr : World} {h p f : ByteArray} {l1 : List UInt8} {cl : Bool} {n1 : Nat} (k : RBlk w wr h p f l1 cl n1) : RBlk w (wr.setCell ⟨w.heap.size, 4, none⟩ (.bool true)) h p f l1 true n1 :=
  ⟨six_set4 k.c _, (set_far6 (show w.heap.size + 1 ≠ w.heap.size by omega)).trans k.z, k.b.setCell (p := ⟨w.heap.size, 4, none⟩) (Nat.le_refl _) _⟩
theorem RBlk.next {w wr : World} {h p f : ByteArray} {l1 : List UInt8} {cl : Bool} {n1 : Nat} (k : RBlk w wr h p f l1 cl n1) (l2 : List UInt8) : RBlk w ((wr.setCell ⟨w.heap.size, 3, none⟩ (.string (bs l2))).setCell ⟨w.heap.size, 5, none⟩ (.int .i64 ((n1 : Int) + 1))) h p f l2 cl (n1 + 1) :=
  ⟨six_set5 (six_set3 k.c _) _, (set_far6 (show w.heap.size + 1 ≠ w.heap.size by omega)).trans ((set_far6 (show w.heap.size + 1 ≠ w.heap.size by omega)).trans k.z), (k.b.setCell (p := ⟨w.heap.size, 3, none⟩) (Nat.le_refl _) _).setCell (p := ⟨w.heap.size, 5, none⟩) (Nat.le_refl _) _⟩
/-- what is still to come, in the reference's loop -/
structure RGo (h p f : ByteArray) (n : Nat) (R : List UInt8 × List UInt8 × Nat × Bool) (l1 acc : List UInt8) (n1 : Nat) : Prop where
  go : R.1 = acc ++ (srvOf h.data.toList p.data.toList f.data.toList l1).1 ∧ R.2.1 = (srvOf h.data.toList p.data.toList f.data.toList l1).2.1 ∧ n + R.2.2.1 = n1 + (srvOf h.data.toList p.data.toList f.data.toList l1).2.2.1 ∧ R.2.2.2 = (srvOf h.data.toList p.data.toList f.data.toList l1).2.2.2
  ll : l1.length ≤ 100000
  al : acc.length ≤ R.1.length
  nl : n1 ≤ n + R.2.2.1
theorem RGo.more {h p f : ByteArray} {n : Nat} {R : List UInt8 × List UInt8 × Nat × Bool} {l1 acc : List UInt8} {n1 k : Nat} (g : RGo h p f n R l1 acc n1) (h0 : askE (bs l1) = 0) (hk : (askN (bs l1)).toNat = k) : RGo h p f n R (l1.drop k) (acc ++ orgS h.data.toList p.data.toList f.data.toList (bs (l1.take k))) (n1 + 1) := by
  obtain ⟨s1, s2, s3, s4⟩ := g.go
  rw [srv_more _ _ _ l1 h0, hk] at s1 s2 s3 s4
  simp only at s1 s2 s3 s4
  refine ⟨⟨by rw [s1, List.append_assoc], s2, by omega, s4⟩, ?_, ?_, by omega⟩
  · rw [List.length_drop]; have := g.ll; omega
  · rw [s1]; simp only [List.length_append]; omega
theorem RGo.short {w w9 : World} {h p f : ByteArray} {n : Nat} {R : List UInt8 × List UInt8 × Nat × Bool} {l1 acc : List UInt8} {n1 : Nat} (g : RGo h p f n R l1 acc n1) (h3 : askE (bs l1) = 3) (hb : Below w.heap.size w w9) :
    RSPost h p f n R w (.returned (.tuple #[.agg #[.string h, .string p, .string f, .string (bs l1), .bool false, .int .i64 (n1 : Nat)], .string (bs acc)])) w9 := by
  obtain ⟨s1, s2, s3, s4⟩ := g.go
  rw [srv_short _ _ _ l1 h3] at s1 s2 s3 s4
  simp only [List.append_nil, Nat.add_zero] at s1 s2 s3 s4
  exact ⟨by rw [s1, s2, s3, s4], hb⟩
theorem RGo.bad {w w9 : World} {h p f : ByteArray} {n : Nat} {R : List UInt8 × List UInt8 × Nat × Bool} {l1 acc : List UInt8} {n1 : Nat} (g : RGo h p f n R l1 acc n1) (h0 : askE (bs l1) ≠ 0) (h3 : askE (bs l1) ≠ 3) (hb : Below w.heap.size w w9) :
    RSPost h p f n R w (.returned (.tuple #[.agg #[.string h, .string p, .string f, .string (bs []), .bool true, .int .i64 ((n1 : Int) + 1)], .string (bs (acc ++ orgS h.data.toList p.data.toList f.data.toList (bs l1)))])) w9 := by
  obtain ⟨s1, s2, s3, s4⟩ := g.go
  rw [srv_bad _ _ _ l1 h0 h3] at s1 s2 s3 s4
  simp only at s1 s2 s3 s4
  exact ⟨by rw [s1, s2, s3, s4, Int.natCast_add]; rfl, hb⟩
set_option maxRecDepth 100000 in
set_option maxHeartbeats 4000000 in
theorem ref_sput_closed (h p f : ByteArray) (l : List UInt8) (n : Nat) (s : ByteArray) (w : World) :
    Calls Tryz.prog 12 #[.agg #[.string h, .string p, .string f, .string (bs l), .bool true, .int .i64 (n : Nat)], .string s] w (RSPost h p f n ([], l, 0, true) w) := by
  go_enter Tryz.func12, Tryz.ntmps12
  go_wp2_with fail
  refine ret_cell2 (A := ⟨w.heap.size + 1, 0, none⟩) rfl (load_rconn _ _ _ _ _ _ _ _ _ (heap_alloc2_new w _ _)) rfl rfl rfl ?_
  exact ⟨rfl, bstep (below_c6 w _ _ _ _ _ _) (below_c6 _ _ _ _ _ _ _)⟩
set_option maxRecDepth 100000 in
set_option maxHeartbeats 8000000 in
theorem ref_sput (h p f : ByteArray) (l : List UInt8) (n : Nat) (s : ByteArray) (w : World) (hl : l.length + s.size ≤ 100000) (hh : h.size ≤ 100000) (hp : p.size ≤ 100000) (hf : f.size ≤ 2000) (hn : n ≤ 100000) :
    Calls Tryz.prog 12 #[.agg #[.string h, .string p, .string f, .string (bs l), .bool false, .int .i64 (n : Nat)], .string s] w (RSPost h p f n (srvOf h.data.toList p.data.toList f.data.toList (l ++ s.data.toList)) w) := by
  obtain ⟨L, hL⟩ : ∃ L, l ++ s.data.toList = L := ⟨_, rfl⟩
  have hLl : L.length ≤ 100000 := by rw [← hL, List.length_append, size_len]; exact hl
  have HLS : Hid (bs l ++ s = bs L) := Lib.hid (by rw [← hL]; conv => lhs; rhs; rw [← bs_self s]
                                                   rw [bs_cat])
  have padd := fun w => run_string_add_sum (P := Tryz.prog) w (bs l) s (by rw [bs_size]; omega)
  obtain ⟨R, hR⟩ : ∃ R, srvOf h.data.toList p.data.toList f.data.toList L = R := ⟨_, rfl⟩
  have hfl : f.data.toList.length ≤ 1000000 := by rw [size_len]; omega
  have hrest := srv_rest h.data.toList p.data.toList f.data.toList hfl L
  unfold SrvRest at hrest
  rw [hR, size_len] at hrest
  have HRl : Hid (R.1.length ≤ 900000000 ∧ n + R.2.2.1 ≤ 300000) := Lib.hid (by
    obtain ⟨-, -, -, r4, r5⟩ := hrest
    refine ⟨Nat.le_trans r5 (Nat.le_trans (Nat.mul_le_mul (show R.2.2.1 ≤ 100001 by omega) (show 4400 + f.size ≤ 6400 by omega)) (by decide)), by omega⟩)
  have HG0 : Hid (RGo h p f n R L [] n) := Lib.hid ⟨by rw [hR]; exact ⟨rfl, rfl, rfl, rfl⟩, hLl, Nat.zero_le _, Nat.le_add_right _ _⟩
  have HN := Lib.hid (RBlk.new w h p f L false n)
  have HFL := Lib.hid hfl
  have HA := Lib.hid (fun t W (ht : t.size ≤ 100000) => ref_oAnswer h p f t W (by omega) (by omega) (by omega) (by omega))
  rw [hL, hR]
  clear hL hR hrest hfl hl hh hp hf hn
  go_enter Tryz.func12, Tryz.ntmps12
  go_wp2_with fail
  rw [HLS.out]
  generalize (w.alloc (.cells #[.string h, .string p, .string f, .string (bs L), .bool false, .int .i64 (n : Nat)] 35)).alloc (.cells #[.string ⟨#[]⟩, .string ⟨#[]⟩, .string ⟨#[]⟩, .string ⟨#[]⟩, .bool false, .int .i64 0] 35) = W0 at HN ⊢
  clear padd HLS
  go_loopg [6] (L.length + 2) (fun gk s6 wr => ∃ (l1 acc : List UInt8) (n1 : Nat), s6 = .string (bs acc) ∧ l1.length < gk ∧ Hid (RBlk w wr h p f l1 false n1) ∧ Hid (RGo h p f n R l1 acc n1))
  case atStart => exact ⟨L, [], n, rfl, by omega, HN, HG0⟩
  case round =>
    obtain ⟨l1, acc, n1, rfl, hlen, HB, HG⟩ := hrel
    obtain ⟨g', rfl⟩ : ∃ g', gk = g' + 1 := ⟨gk - 1, by omega⟩
    have hl1 := HG.out.ll
    obtain ⟨⟨x0, x1, x2, x3, x4, x5⟩, -⟩ := six_facts HB.out.c
    clear HN HG0 hLl
    have HP := ref_aparse (bs l1) wr (by rw [bs_size]; omega)
    unfold askV at HP
    generalize bs (askPath (bs l1)) = P at HP
    generalize bs (askHost (bs l1)) = Q at HP
    generalize askA (bs l1) = a1 at HP
    generalize askB (bs l1) = b1 at HP
    obtain ⟨E, hE1⟩ : ∃ E, askE (bs l1) = E := ⟨_, rfl⟩
    by_cases h0 : E = 0
    · subst h0
      obtain ⟨n1', n2', n3'⟩ := ask_n l1 hE1
      obtain ⟨k, hk⟩ : ∃ k, (askN (bs l1)).toNat = k := ⟨_, rfl⟩
      rw [hk] at n1' n2' n3'
      rw [n3', hE1] at HP
      have HP := Lib.hid HP
      have HK := Lib.hid (And.intro n1' n2')
      have HGn := Lib.hid (HG.out.more hE1 hk)
      have HAk := Lib.hid (fun W => HA.out (bs (l1.take k)) W (by rw [bs_size, List.length_take]; omega))
      have HOl := orgS_len h.data.toList p.data.toList f.data.toList (bs (l1.take k)) HFL.out
      have hsum : acc.length + (orgS h.data.toList p.data.toList f.data.toList (bs (l1.take k))).length ≤ 9223372036854775807 := by
        have h1 := HGn.out.al
        have h2 := HRl.out.1
        rw [List.length_append] at h1
        omega
      obtain ⟨S, hS⟩ : ∃ S, orgS h.data.toList p.data.toList f.data.toList (bs (l1.take k)) = S := ⟨_, rfl⟩
      rw [hS] at HGn HAk hsum
      have hex : (bs l1).extract 0 k = bs (l1.take k) := by rw [extract_bs, bs_data, List.drop_zero]
      have hex2 : (bs l1).extract k l1.length = bs (l1.drop k) := by rw [extract_bs, bs_data, List.take_length]
      have padd := fun w => run_string_add_sum (P := Tryz.prog) w (bs acc) (bs S) (by rw [bs_size, bs_size]; omega)
      rw [bs_cat] at padd
      have hsz := bs_size l1
      obtain ⟨B, hB⟩ : ∃ B, bs l1 = B := ⟨_, rfl⟩
      rw [hB] at x3 hex hex2 hsz HP
      have hkS : k ≤ B.size := by omega
      have hkI : (k : Int) ≤ (B.size : Int) := by omega
      have hkL : k ≤ l1.length := by omega
      have hkJ : (k : Int) ≤ (l1.length : Int) := by omega
      have hk0 : (0 : Int) ≤ (k : Int) := by omega
      have tw : IntKind.i64.wrap ((n1 : Int) + 1) = (n1 : Int) + 1 := by rw [IntKind.wrap_i64]; have := HG.out.nl; have := HRl.out.2; omega
      have HX := Lib.hid (And.intro hex hex2)
      clear hex2 hE1 hk n1' n2' n3' hl1 hsum HOl hS
      go_wp2_with fail
      refine HP.out.mono ?_
      rintro e w1 ⟨rfl, hb0⟩
      have hb1 := bstep hb0 (below_agg4 w1 (.string P) (.string Q) (.int .i64 a1) (.int .i64 b1) 48)
      have HB1 := Lib.hid (HB.out.below hb1)
      clear hb0 hb1 x0 x1 x2 x3 x4 x5
      obtain ⟨⟨x0, x1, x2, x3, x4, x5⟩, -⟩ := six_facts HB1.out.c
      rw [hB] at x3
      go_wp2_with fail
      generalize (w1.alloc (.cells #[.string P, .string Q, .int .i64 a1, .int .i64 b1] 48)) = W1 at HB1 ⊢
      have HS : Hid (∀ W, Below W1.heap.size W1 W → W.cell? ⟨w.heap.size, 0, none⟩ = some (.string h) ∧ W.cell? ⟨w.heap.size, 1, none⟩ = some (.string p) ∧ W.cell? ⟨w.heap.size, 2, none⟩ = some (.string f) ∧ W.cell? ⟨w.heap.size, 3, none⟩ = some (.string B)) := Lib.hid (fun W hW => by
        obtain ⟨⟨y0, y1, y2, y3, -, -⟩, -⟩ := six_facts (HB1.out.below hW).c
        rw [hB] at y3
        exact ⟨y0, y1, y2, y3⟩)
      have HDr : Hid (Below W1.heap.size W1 W1.drew) := Lib.hid (Below.refl _ _).drew
      go_region_held3 (fun w' => w'.cell? ⟨w.heap.size, 0, none⟩ = some (.string h) ∧ w'.cell? ⟨w.heap.size, 1, none⟩ = some (.string p) ∧ w'.cell? ⟨w.heap.size, 2, none⟩ = some (.string f) ∧ w'.cell? ⟨w.heap.size, 3, none⟩ = some (.string B)) (first | exact HS.out _ HDr.out | exact HS.out _ HA1.out)
        (first
          | (go_at_call 27; (try rw [hex]); refine (HAk.out _).mono ?_; rintro e wa ⟨rfl, hba⟩; have HA1 : Hid (Below W1.heap.size W1 wa) := Lib.hid (bstep HDr.out hba); clear hba))
      have HB2 := Lib.hid (HB1.out.below HA1.out)
      clear HB1 HA1 HS HDr
      obtain ⟨⟨x0, x1, x2, x3, x4, x5⟩, -, f4, f5⟩ := six_facts HB2.out.c
      obtain ⟨g0, g1, g2, g3, g4, g5⟩ := six_free HB2.out.c
      rw [hB] at x3
      go_wp2_with fail
      have HB3 := Lib.hid (HB2.out.next (l1.drop k))
      rw [← HX.out.2] at HB3
      go_roundg g'
      case measure => omega
      case rel => exact ⟨_, _, _, rfl, by rw [List.length_drop]; have := HK.out; omega, HB3, HGn⟩
    · by_cases h3 : E = 3
      · subst h3
        rw [hE1] at HP
        generalize askN (bs l1) = N1 at HP
        have HP := Lib.hid HP
        have HX := Lib.hid hE1
        clear hE1 h0
        go_wp2_with fail
        refine HP.out.mono ?_
        rintro e w1 ⟨rfl, hb0⟩
        have hb1 := bstep hb0 (below_agg4 w1 (.string P) (.string Q) (.int .i64 a1) (.int .i64 b1) 48)
        have HB1 := Lib.hid (HB.out.below hb1)
        clear hb0 hb1 x0 x1 x2 x3 x4 x5
        obtain ⟨⟨x0, x1, x2, x3, x4, x5⟩, -⟩ := six_facts HB1.out.c
        obtain ⟨d0, d1, d2, d3, d4, d5⟩ := six_free HB1.out.z
        obtain ⟨⟨z0, z1, z2, z3, z4, z5⟩, -⟩ := six_facts HB1.out.z
        go_wp2_with fail
        refine ret_cell2 (A := ⟨w.heap.size + 1, 0, none⟩) rfl (load_rconn _ _ _ _ _ _ _ _ _ (six_all HB1.out.z _ _ _ _ _ _)) rfl rfl rfl ?_
        exact HG.out.short HX.out (six_below HB1.out.b _ (by omega) _ _ _ _ _ _)
      · have tz : ((E : Int) != 0) = true := by rw [bne_iff_ne]; omega
        have tz3 : ((E : Int) == 3) = false := by rw [beq_eq_false_iff_ne]; omega
        rw [hE1] at HP
        generalize askN (bs l1) = N1 at HP
        have HP := Lib.hid HP
        have HBd := Lib.hid (fun W (hW : Below w.heap.size w W) => HG.out.bad (by rw [hE1]; exact h0) (by rw [hE1]; exact h3) hW)
        have HAk := Lib.hid (fun W => HA.out (bs l1) W (by rw [bs_size]; omega))
        have HOl := orgS_len h.data.toList p.data.toList f.data.toList (bs l1) HFL.out
        have hsum : acc.length + (orgS h.data.toList p.data.toList f.data.toList (bs l1)).length ≤ 9223372036854775807 := by
          have h1 := HG.out.al
          have h2 := HRl.out.1
          have h4 : f.data.toList.length ≤ 1000000 := HFL.out
          omega
        obtain ⟨S, hS⟩ : ∃ S, orgS h.data.toList p.data.toList f.data.toList (bs l1) = S := ⟨_, rfl⟩
        rw [hS] at HAk hsum
        have hex : (bs l1).extract 0 l1.length = bs l1 := by rw [extract_bs, bs_data, List.drop_zero, List.take_length]
        have hex2 : (bs l1).extract l1.length (bs l1).size = bs [] := by rw [extract_bs, bs_data, bs_size, List.take_length, List.drop_length]
        have padd := fun w => run_string_add_sum (P := Tryz.prog) w (bs acc) (bs S) (by rw [bs_size, bs_size]; omega)
        rw [bs_cat] at padd
        have hsz := bs_size l1
        obtain ⟨B, hB⟩ : ∃ B, bs l1 = B := ⟨_, rfl⟩
        have HBB := Lib.hid hB
        rw [hB] at x3 hex hex2 hsz HP HAk
        rw [← hsz] at hex hex2
        have tw : IntKind.i64.wrap ((n1 : Int) + 1) = (n1 : Int) + 1 := by rw [IntKind.wrap_i64]; have := HG.out.nl; have := HRl.out.2; omega
        have HX := Lib.hid (And.intro hex (And.intro hex2 hS))
        clear hex2 hE1 hl1 hsum HOl hS hsz h0 h3
        go_wp2_with fail
        refine HP.out.mono ?_
        rintro e w1 ⟨rfl, hb0⟩
        have hb1 := bstep hb0 (below_agg4 w1 (.string P) (.string Q) (.int .i64 a1) (.int .i64 b1) 48)
        have HB1 := Lib.hid (HB.out.below hb1)
        clear hb0 hb1 x0 x1 x2 x3 x4 x5
        obtain ⟨⟨x0, x1, x2, x3, x4, x5⟩, -⟩ := six_facts HB1.out.c
        obtain ⟨g0, g1, g2, g3, g4, g5⟩ := six_free HB1.out.c
        have HBs := Lib.hid HB1.out.shut
        rw [hB] at x3
        go_wp2_with fail
        generalize ((w1.alloc (.cells #[.string P, .string Q, .int .i64 a1, .int .i64 b1] 48)).setCell ⟨w.heap.size, 4, none⟩ (.bool true)) = W1 at HBs ⊢
        have HS : Hid (∀ W, Below W1.heap.size W1 W → W.cell? ⟨w.heap.size, 0, none⟩ = some (.string h) ∧ W.cell? ⟨w.heap.size, 1, none⟩ = some (.string p) ∧ W.cell? ⟨w.heap.size, 2, none⟩ = some (.string f) ∧ W.cell? ⟨w.heap.size, 3, none⟩ = some (.string B)) := Lib.hid (fun W hW => by
          obtain ⟨⟨y0, y1, y2, y3, -, -⟩, -⟩ := six_facts (HBs.out.below hW).c
          rw [hB] at y3
          exact ⟨y0, y1, y2, y3⟩)
        have HDr : Hid (Below W1.heap.size W1 W1.drew) := Lib.hid (Below.refl _ _).drew
        clear HB1 x0 x1 x2 x3 x4 x5 g0 g1 g2 g3 g4 g5
        go_region_held3 (fun w' => w'.cell? ⟨w.heap.size, 0, none⟩ = some (.string h) ∧ w'.cell? ⟨w.heap.size, 1, none⟩ = some (.string p) ∧ w'.cell? ⟨w.heap.size, 2, none⟩ = some (.string f) ∧ w'.cell? ⟨w.heap.size, 3, none⟩ = some (.string B)) (first | exact HS.out _ HDr.out | exact HS.out _ HA1.out)
          (first
            | (go_at_call 27; (try rw [hex]); refine (HAk.out _).mono ?_; rintro e wa ⟨rfl, hba⟩; have HA1 : Hid (Below W1.heap.size W1 wa) := Lib.hid (bstep HDr.out hba); clear hba))
        have HB2 := Lib.hid (HBs.out.below HA1.out)
        have HB3 := Lib.hid (HB2.out.next [])
        clear HBs HA1 HS HDr
        obtain ⟨⟨x0, x1, x2, x3, x4, x5⟩, -⟩ := six_facts HB2.out.c
        obtain ⟨g0, g1, g2, g3, g4, g5⟩ := six_free HB2.out.c
        obtain ⟨d0, d1, d2, d3, d4, d5⟩ := six_free HB2.out.z
        obtain ⟨⟨z0, z1, z2, z3, z4, z5⟩, -⟩ := six_facts HB2.out.z
        rw [hB] at x3
        rw [show bs [] = ByteArray.empty from rfl] at HB3
        go_wp2_with fail
        refine ret_cell2 (A := ⟨w.heap.size + 1, 0, none⟩) rfl (load_rconn _ _ _ _ _ _ _ _ _ (six_all HB3.out.z _ _ _ _ _ _)) rfl rfl rfl ?_
        rw [← show bs [] = ByteArray.empty from rfl, ← HX.out.2.2]
        exact HBd.out _ (six_below HB3.out.b _ (by omega) _ _ _ _ _ _)
end Go.Proofs.YtfjdppngeillcaaGreatDoor
namespace Go.Proofs.YtfjdppngeillcaaGreatDoor
open Go.RowKit Go.Shelf Go.Lib
/-- how many bytes stand in the first k pieces -/
def offF (l : List (List UInt8)) (k : Nat) : Nat := (l.take k).flatten.length
theorem offF_zero (l : List (List UInt8)) : offF l 0 = 0 := rfl
theorem offF_succ (l : List (List UInt8)) (k : Nat) (h : k < l.length) : offF l (k + 1) = offF l k + l[k].length := by
  unfold offF
  rw [List.take_succ_eq_append_getElem h, List.flatten_append, List.length_append]
  simp
theorem offF_all (l : List (List UInt8)) : offF l l.length = l.flatten.length := by unfold offF; rw [List.take_length]
theorem offF_le (l : List (List UInt8)) (k : Nat) : offF l k ≤ l.flatten.length := by
  unfold offF
  conv => rhs; rw [← List.take_append_drop k l, List.flatten_append, List.length_append]
  omega
def overB (l : List (List UInt8)) (most bytes : Nat) : Bool := decide (bytes < l.flatten.length) || decide (most < l.length)
set_option maxRecDepth 100000 in
set_option maxHeartbeats 1000000 in
theorem over46 (v : Value) (l : List (List UInt8)) (N M : Nat) (w : World) (hM : M ≤ 100000) (hN : N ≤ 100000) (hv : StrArg w v l) :
    Calls Tryz.prog 8 #[v, .int .i64 (N : Nat), .int .i64 (M : Nat)] w fun e w' => e = .returned (.bool (overB l N M)) ∧ w' = w := by
  obtain ⟨⟨a, c, rfl, hc, hx⟩, hsz, hll⟩ := hv
  unfold maxLen at hll
  have HX := Lib.hid hx
  have HZ := Lib.hid hsz
  have HT : Hid (∀ k (hk : k < l.length), M < offF l (k + 1) → overB l N M = true) := Lib.hid (fun k hk h => by unfold overB; rw [decide_eq_true (Nat.lt_of_lt_of_le h (offF_le l _))]; rfl)
  have HE : Hid (offF l l.length ≤ M → overB l N M = decide (N < l.length)) := Lib.hid (fun h => by
    rw [offF_all] at h
    unfold overB; rw [decide_eq_false (by omega), Bool.false_or])
  clear hx hsz
  generalize overB l N M = B at HT HE ⊢
  go_enter Tryz.func8, Tryz.ntmps8
  go_wp2_with fail
  go_loop [2, 7] (fun t i => ∃ k : Nat, k ≤ l.length ∧ i = .int .i64 k ∧ offF l k ≤ M ∧ t = .int .i64 ((M : Int) - (offF l k : Nat))) (fun _ i => l.length - (intOf i).toNat)
  case atStart => exact ⟨0, by omega, rfl, by rw [offF_zero]; omega, by rw [offF_zero]; simp⟩
  case round =>
    obtain ⟨k, hk, rfl, hle, rfl⟩ := hrel
    by_cases hlt : k < l.length
    · obtain ⟨b, o, rfl, hbl, hcell⟩ := HX.out (fun e => by rw [e] at hlt; exact absurd hlt (Nat.not_lt_zero _))
      have c0 := hcell k hlt
      have hs := offF_succ l k hlt
      have hz := HZ.out l[k] (List.getElem_mem hlt)
      unfold maxLen at hz
      have hbz := bs_size l[k]
      have hT := Lib.hid (HT.out k hlt)
      clear hcell HX HZ HT
      generalize bs l[k] = X at c0 hbz
      obtain ⟨n, hn⟩ : ∃ n, n = l[k].length := ⟨_, rfl⟩
      rw [← hn] at hs hz hbz
      clear hn
      obtain ⟨q, hq⟩ : ∃ q, q = offF l k := ⟨_, rfl⟩
      rw [← hq] at hs hle ⊢
      have Hs := Lib.hid hs
      clear hs hq
      by_cases hbig : M < q + n
      · have t1 : decide ((M : Int) - (q : Int) - (n : Int) < 0) = true := decide_eq_true (by omega)
        have HB := Lib.hid (hT.out (by rw [Hs.out]; exact hbig))
        clear hT
        go_wp2_with fail
        go_ret
        exact ⟨by rw [HB.out]; rfl, rfl⟩
      · have t1 : decide ((M : Int) - (q : Int) - (n : Int) < 0) = false := decide_eq_false (by omega)
        clear hT
        go_wp2_with fail
        go_round
        case rel => exact ⟨k + 1, by omega, by go_num, by rw [Hs.out]; omega, by rw [Hs.out]; congr 1; omega⟩
        case measure => simp [intOf]; omega
    · obtain rfl : k = l.length := by omega
      have HB := Lib.hid (HE.out hle)
      clear HE HT HX HZ
      go_wp2_with fail
      go_ret
      exact ⟨by rw [HB.out]; rfl, rfl⟩
theorem small46 (l : List (List UInt8)) (h : overB l 20 2000 = false) : l.length ≤ 20 ∧ l.flatten.length ≤ 2000 := by
  unfold overB at h
  rw [Bool.or_eq_false_iff, decide_eq_false_iff_not, decide_eq_false_iff_not] at h
  omega
end Go.Proofs.YtfjdppngeillcaaGreatDoor
namespace Go.Proofs.YtfjdppngeillcaaGreatDoor
open Go.RowKit
def s46 : List UInt8 := [71, 69, 84, 32, 47, 102, 32, 72, 84, 84, 80, 47, 49, 46, 49, 13, 10, 72, 111, 115, 116, 58, 32, 104, 13, 10, 82, 97, 110, 103, 101, 58, 32, 98, 121, 116, 101, 115, 61, 49, 45, 49, 13, 10, 13, 10]
def x46 : List UInt8 := [120, 32, 121, 13, 10, 13, 10]
def g46 : List UInt8 := [71, 69, 84, 32, 47]
set_option maxRecDepth 100000 in
theorem aw46_a : askE (bs s46) = 0 ∧ askN (bs s46) = 46 := by decide +kernel
set_option maxRecDepth 100000 in
theorem aw46_b : askE (bs g46) = 3 := by decide +kernel
set_option maxRecDepth 100000 in
theorem aw46_c : askE (bs (g46 ++ x46)) ≠ 0 ∧ askE (bs (g46 ++ x46)) ≠ 3 := by decide +kernel
theorem aw46_e : orgE [104] [47, 102] = 0 := by decide
def A46 : List UInt8 := orgS [104] [47, 102] [97, 98, 99] (bs s46)
def B46 : List UInt8 := orgS [104] [47, 102] [97, 98, 99] (bs (g46 ++ x46))
theorem aw46_len : s46.length = 46 := by decide
theorem aw46_t (T : List UInt8) : srvOf [104] [47, 102] [97, 98, 99] (s46 ++ T) = (A46 ++ (srvOf [104] [47, 102] [97, 98, 99] T).1, (srvOf [104] [47, 102] [97, 98, 99] T).2.1, (srvOf [104] [47, 102] [97, 98, 99] T).2.2.1 + 1, (srvOf [104] [47, 102] [97, 98, 99] T).2.2.2) := by
  obtain ⟨k1, k2⟩ := ask_behind s46 T (by rw [aw46_a.1]; decide)
  rw [srv_more _ _ _ _ (k1.trans aw46_a.1), k2, aw46_a.2, show ((46 : Int)).toNat = s46.length from by rw [aw46_len]; rfl, List.drop_left, List.take_left]
  rfl
theorem aw46_1 : srvOf [104] [47, 102] [97, 98, 99] (s46 ++ s46 ++ g46) = (A46 ++ A46, g46, 2, false) := by
  rw [List.append_assoc, aw46_t, aw46_t, srv_short _ _ _ g46 aw46_b]
  simp
theorem aw46_2 : srvOf [104] [47, 102] [97, 98, 99] (g46 ++ x46) = (B46, [], 1, true) := srv_bad _ _ _ _ aw46_c.1 aw46_c.2
theorem st400 : (printOf 400).data.toList = [72, 84, 84, 80, 47, 49, 46, 49, 32, 52, 48, 48, 32, 66, 97, 100, 32, 82, 101, 113, 117, 101, 115, 116] := by
  rw [printOf_line 400 (by decide) (by decide)]
  exact (statusLine_data 400 (by decide) (by decide)).trans (by decide +kernel)
theorem aw46_p : Lib.hasPrefix (bs B46).data.toList [72, 84, 84, 80, 47, 49, 46, 49, 32, 52, 48, 48, 32] = true := by
  have hc : orgC [104] [47, 102] [97, 98, 99] (bs (g46 ++ x46)) = 400 := by unfold orgC; rw [if_pos (.inl aw46_c.1)]
  obtain ⟨h1, h2⟩ := orgF_other [104] [47, 102] [97, 98, 99] (bs (g46 ++ x46)) (by rw [hc]; decide)
  rw [bs_data]
  unfold B46
  rw [orgS_eq _ _ _ _ (by decide) aw46_e, hc, h1, h2]
  unfold repL repLines
  rw [st400, show (([] : List UInt8).length : Int) = ((0 : Nat) : Int) from rfl, digL_one 0 (by decide)]
  decide +kernel
theorem A46_len : A46.length ≤ 5000 := by
  have := orgS_len [104] [47, 102] [97, 98, 99] (bs s46) (by decide)
  unfold A46
  have h3 : ([97, 98, 99] : List UInt8).length = 3 := rfl
  omega
theorem env_touch {w w1 : World} {b : Nat} (hE : EnvF w) (hb : Below w.heap.size w w1) (hlt : w.heap.size ≤ b) : ∀ W, Touch (fun g => g = b) w1 W → EnvF W := fun W ht =>
  hE.below (hb.trans (ht.below (fun g hg => by rw [show g = b from hg]; exact hlt) hb.size))
theorem below_touch {w w1 w2 : World} {b : Nat} (hb : Below w.heap.size w w1) (ht : Touch (fun g => g = b) w1 w2) (hlt : w.heap.size ≤ b) : Below w.heap.size w w2 :=
  hb.trans (ht.below (fun g hg => by rw [show g = b from hg]; exact hlt) hb.size)
theorem aw46_put1 {w : World} {b : Nat} (X : ByteArray) (hX : X = bs (s46 ++ s46 ++ g46)) (hc : CAt w b ⟨#[104]⟩ ⟨#[47, 102]⟩ ⟨#[97, 98, 99]⟩ true [] 0) (hE : ∀ W, Touch (fun g => g = b) w W → EnvF W) :
    Calls Tryz.prog 13 #[.pointer (some ⟨b, 0, none⟩), .string X] w fun e w' => e = .returned (.string (bs (A46 ++ A46))) ∧ CAt w' b ⟨#[104]⟩ ⟨#[47, 102]⟩ ⟨#[97, 98, 99]⟩ true g46 2 ∧ Touch (fun g => g = b) w w' := by
  subst hX
  refine (srv_put (bs (s46 ++ s46 ++ g46)) hc hE (by decide) (by decide) (by decide)).mono ?_
  rintro e w' ⟨rfl, h2, h3⟩
  rw [bs_data, List.nil_append] at h2 ⊢
  rw [show srvOf (ByteArray.mk #[104]).data.toList (ByteArray.mk #[47, 102]).data.toList (ByteArray.mk #[97, 98, 99]).data.toList (s46 ++ s46 ++ g46) = (A46 ++ A46, g46, 2, false) from aw46_1] at h2 ⊢
  exact ⟨rfl, h2, h3⟩
theorem aw46_put2 {w : World} {b : Nat} (X : ByteArray) (hX : X = bs x46) (hc : CAt w b ⟨#[104]⟩ ⟨#[47, 102]⟩ ⟨#[97, 98, 99]⟩ true g46 2) (hE : ∀ W, Touch (fun g => g = b) w W → EnvF W) :
    Calls Tryz.prog 13 #[.pointer (some ⟨b, 0, none⟩), .string X] w fun e w' => e = .returned (.string (bs B46)) ∧ CAt w' b ⟨#[104]⟩ ⟨#[47, 102]⟩ ⟨#[97, 98, 99]⟩ false [] 3 ∧ Touch (fun g => g = b) w w' := by
  subst hX
  refine (srv_put (bs x46) hc hE (by decide) (by decide) (by decide)).mono ?_
  rintro e w' ⟨rfl, h2, h3⟩
  rw [bs_data] at h2 ⊢
  rw [show srvOf (ByteArray.mk #[104]).data.toList (ByteArray.mk #[47, 102]).data.toList (ByteArray.mk #[97, 98, 99]).data.toList (g46 ++ x46) = (B46, [], 1, true) from aw46_2] at h2 ⊢
  exact ⟨rfl, h2, h3⟩
theorem aw46_ans (X : ByteArray) (hX : X = bs s46) (w : World) (hE : EnvF w) : Calls Tryz.prog 18 #[.agg #[.string ⟨#[104]⟩, .string ⟨#[47, 102]⟩, .string ⟨#[97, 98, 99]⟩], .string X] w fun e w' => e = .returned (.string (bs A46)) ∧ Below w.heap.size w w' := by
  subst hX
  exact origin_answer ⟨#[104]⟩ ⟨#[47, 102]⟩ ⟨#[97, 98, 99]⟩ (bs s46) w hE (by decide) (by decide)
set_option maxRecDepth 100000 in
set_option maxHeartbeats 4000000 in
theorem awake46 (w : World) (hE : EnvF w) : Calls Tryz.prog 9 #[] w fun e w' => e = .returned (.bool true) ∧ Below w.heap.size w w' := by
  have HE := Lib.hid hE
  have HN := Lib.hid (fun w => srv_new ⟨#[104]⟩ ⟨#[47, 102]⟩ ⟨#[97, 98, 99]⟩ w (show orgE [104] [47, 102] = 0 from aw46_e))
  have HZ := Lib.hid (fun w => srv_new_bad ⟨#[]⟩ ⟨#[]⟩ ⟨#[]⟩ w (show orgE [] [] ≠ 0 by decide))
  have HB0 := Lib.hid (below_o3 w (.string ⟨#[104]⟩) (.string ⟨#[47, 102]⟩) (.string ⟨#[97, 98, 99]⟩))
  have HP0 := Lib.hid (heap_alloc_new w (.cells #[.string ⟨#[104]⟩, .string ⟨#[47, 102]⟩, .string ⟨#[97, 98, 99]⟩] 32))
  have HSZ : Hid ((w.alloc (.cells #[.string ⟨#[104]⟩, .string ⟨#[47, 102]⟩, .string ⟨#[97, 98, 99]⟩] 32)).heap.size = w.heap.size + 1) := Lib.hid (by simp)
  have padd := fun w => run_string_add_sum (P := Tryz.prog) w (bs A46) (bs A46) (by rw [bs_size]; have := A46_len; omega)
  rw [bs_cat] at padd
  clear hE
  go_enter Tryz.func9, Tryz.ntmps9
  go_wp2_with fail
  refine (HN.out _).mono ?_
  rintro e w1 ⟨b, rfl, hb, hc1, hb1⟩
  have hlt : w.heap.size < b := by have := HSZ.out; omega
  have HLT := Lib.hid hlt
  have hp1 := (hb1.block w.heap.size (by have := HSZ.out; omega)).trans HP0.out
  have HC1 := Lib.hid hc1
  have HB1 := Lib.hid (bstep HB0.out hb1)
  clear hb hc1 hb1 hlt HN HB0 HP0 HSZ
  have HP1 := Lib.hid hp1
  clear hp1
  go_wp2_with fail
  refine (HZ.out _).mono ?_
  rintro e w2 ⟨rfl, hb2⟩
  have HC2 := Lib.hid (HC1.out.below hb2)
  have HB2 := Lib.hid (bstep HB1.out hb2)
  have HP2 := Lib.hid ((hb2.block w.heap.size (Array.getElem?_eq_some_iff.1 HP1.out).1).trans HP1.out)
  clear hb2 HC1 HB1 HP1 HZ
  go_wp2_with fail
  refine (aw46_put1 _ (by rfl) HC2.out (env_touch HE.out HB2.out (Nat.le_of_lt HLT.out))).mono ?_
  rintro e w3 ⟨rfl, hc3, ht3⟩
  have HC3 := Lib.hid hc3
  have HB3 := Lib.hid (below_touch HB2.out ht3 (Nat.le_of_lt HLT.out))
  have HP3 := Lib.hid ((ht3.block w.heap.size (Array.getElem?_eq_some_iff.1 HP2.out).1 (by have := HLT.out; show ¬ (w.heap.size = b); omega)).trans HP2.out)
  have HR3 := Lib.hid (srv_rest_at hc3.blk)
  have HV3 := Lib.hid (srv_served_at hc3.blk)
  rw [show (bs g46).size = 5 from by decide] at HR3
  clear hc3 ht3 HC2 HB2 HP2
  go_wp2_with fail
  refine HR3.out.mono ?_
  rintro e w' ⟨rfl, hww⟩
  obtain rfl := hww.symm
  go_wp2_with fail
  refine HV3.out.mono ?_
  rintro e w' ⟨rfl, hww⟩
  obtain rfl := hww.symm
  clear hww HR3 HV3
  go_wp2_with fail
  refine (aw46_put2 _ (by rfl) HC3.out (env_touch HE.out HB3.out (Nat.le_of_lt HLT.out))).mono ?_
  rintro e w4 ⟨rfl, hc4, ht4⟩
  have HB4 := Lib.hid (below_touch HB3.out ht4 (Nat.le_of_lt HLT.out))
  have hp4 := (ht4.block w.heap.size (Array.getElem?_eq_some_iff.1 HP3.out).1 (by have := HLT.out; show ¬ (w.heap.size = b); omega)).trans HP3.out
  have HCW := Lib.hid (fun W (hW : Below w4.heap.size w4 W) => hc4.below hW)
  have HS : Hid (∀ W, Below w4.heap.size w4 W → W.cell? ⟨w.heap.size, 0, none⟩ = some (.string ⟨#[104]⟩) ∧ W.cell? ⟨w.heap.size, 1, none⟩ = some (.string ⟨#[47, 102]⟩) ∧ W.cell? ⟨w.heap.size, 2, none⟩ = some (.string ⟨#[97, 98, 99]⟩)) := Lib.hid (fun W hW => by
    obtain ⟨x0, x1, x2, -, -, -⟩ := three_facts ((hW.block w.heap.size (Array.getElem?_eq_some_iff.1 hp4).1).trans hp4)
    exact ⟨x0, x1, x2⟩)
  have HEE : Hid (∀ W, Below w4.heap.size w4 W → EnvF W) := Lib.hid (fun W hW => HE.out.below (bstep HB4.out hW))
  have HDr : Hid (Below w4.heap.size w4 w4.drew) := Lib.hid (Below.refl _ _).drew
  have HPf := Lib.hid (fun w => Tryz.strings_HasPrefix (bs B46) ⟨#[72, 84, 84, 80, 47, 49, 46, 49, 32, 52, 48, 48, 32]⟩ w)
  rw [show Lib.hasPrefix (bs B46).data.toList (ByteArray.mk #[72, 84, 84, 80, 47, 49, 46, 49, 32, 52, 48, 48, 32]).data.toList = true from aw46_p] at HPf
  have HPt := Lib.hid (fun W (hW : Below w4.heap.size w4 W) (X : ByteArray) => srv_put_closed X (hc4.below hW))
  clear hc4 ht4 HC3 HB3 HP3 hp4
  generalize bs (A46 ++ A46) = S2 at padd ⊢
  generalize bs B46 = S3 at HPf ⊢
  go_wp2_with fail
  go_region_held3 (fun w' => w'.cell? ⟨w.heap.size, 0, none⟩ = some (.string ⟨#[104]⟩) ∧ w'.cell? ⟨w.heap.size, 1, none⟩ = some (.string ⟨#[47, 102]⟩) ∧ w'.cell? ⟨w.heap.size, 2, none⟩ = some (.string ⟨#[97, 98, 99]⟩)) (first | exact HS.out _ HDr.out | exact HS.out _ HA1.out | exact HS.out _ HA2.out)
    (first
      | (go_at_call 18; refine (aw46_ans _ (by rfl) _ (HEE.out _ HDr.out)).mono ?_; rintro e wa ⟨rfl, hba⟩; have HA1 : Hid (Below w4.heap.size w4 wa) := Lib.hid (bstep HDr.out hba); clear hba)
      | (go_at_call 18; refine (aw46_ans _ (by rfl) _ (HEE.out _ HA1.out)).mono ?_; rintro e wb ⟨rfl, hbb⟩; have HA2 : Hid (Below w4.heap.size w4 wb) := Lib.hid (bstep HA1.out hbb); clear hbb)
      | (go_at_call 22; refine (HPf.out _).mono ?_; rintro e w' ⟨rfl, hww⟩; obtain rfl := hww.symm; clear hww)
      | (go_at_call 14; refine (srv_closed_at (HCW.out _ HA2.out).blk).mono ?_; rintro e w' ⟨rfl, hww⟩; obtain rfl := hww.symm; clear hww)
      | (go_at_call 13; refine (HPt.out _ HA2.out _).mono ?_; rintro e w' ⟨rfl, hww⟩; obtain rfl := hww.symm; clear hww)
      | (go_at_call 16; refine (srv_served_at (HCW.out _ HA2.out).blk).mono ?_; rintro e w' ⟨rfl, hww⟩; obtain rfl := hww.symm; clear hww)
      | (go_at_call 15; refine (srv_rest_at (HCW.out _ HA2.out).blk).mono ?_; rintro e w' ⟨rfl, hww⟩; obtain rfl := hww.symm; clear hww))
  go_wp2_with fail
  go_ret
  exact ⟨rfl, bstep HB4.out HA2.out⟩
end Go.Proofs.YtfjdppngeillcaaGreatDoor
namespace Go.Proofs.YtfjdppngeillcaaGreatDoor
open Go.RowKit
theorem srv_put_nil (s : ByteArray) (w : World) :
    Calls Tryz.prog 13 #[.pointer none, .string s] w fun e w' => e = .returned (.string ⟨#[]⟩) ∧ w' = w := by
  have HC := Lib.hid (srv_closed_nil w)
  go_enter Tryz.func13, Tryz.ntmps13
  go_wp2_with fail
  refine HC.out.mono ?_
  rintro e w' ⟨rfl, hww⟩
  obtain rfl := hww.symm
  go_wp2_with fail
  go_ret
  exact ⟨rfl, rfl⟩
set_option maxRecDepth 100000 in
set_option maxHeartbeats 4000000 in
theorem serveNobody_walk (s : ByteArray) (w : World) (hE : EnvF w) :
    Calls Tryz.prog 5 #[.string s] w fun e w' => e = .returned (.bool true) ∧ Below w.heap.size w w' := by
  have HE := Lib.hid hE
  by_cases hs : (300 : Int) < (s.size : Int)
  · have t0 : decide ((s.size : Int) > 300) = true := decide_eq_true hs
    clear hE hs
    go_enter Tryz.func5, Tryz.ntmps5
    go_wp2_with fail
    refine (awake46 _ HE.out).mono ?_
    rintro e w2 ⟨rfl, hb2⟩
    go_wp2_with fail
    go_ret
    exact ⟨rfl, hb2⟩
  have t0 : decide ((s.size : Int) > 300) = false := decide_eq_false hs
  have HB := Lib.hid ((Below.refl _ _ : Below w.heap.size w w).alloc (Nat.le_refl _) (.cells #[.string ⟨#[]⟩, .string ⟨#[]⟩, .string ⟨#[]⟩, .bool false, .string ⟨#[]⟩, .int .i64 0] 51))
  have HC : Hid (CAt (w.alloc (.cells #[.string ⟨#[]⟩, .string ⟨#[]⟩, .string ⟨#[]⟩, .bool false, .string ⟨#[]⟩, .int .i64 0] 51)) w.heap.size ⟨#[]⟩ ⟨#[]⟩ ⟨#[]⟩ false [] 0) := Lib.hid ⟨heap_alloc_new w _⟩
  have HR := Lib.hid (srv_rest_at HC.out.blk)
  rw [show (bs []).size = 0 from rfl] at HR
  clear hE hs
  go_enter Tryz.func5, Tryz.ntmps5
  go_wp2_with fail
  generalize (w.alloc (.cells #[.string ⟨#[]⟩, .string ⟨#[]⟩, .string ⟨#[]⟩, .bool false, .string ⟨#[]⟩, .int .i64 0] 51)) = W at HB HC HR ⊢
  refine (srv_put_nil s W).mono ?_
  rintro e w' ⟨rfl, hww⟩
  obtain rfl := hww.symm
  clear hww
  go_wp2_with fail
  refine (srv_put_closed s HC.out).mono ?_
  rintro e w' ⟨rfl, hww⟩
  obtain rfl := hww.symm
  clear hww
  go_wp2_with fail
  refine (srv_closed_nil W).mono ?_
  rintro e w' ⟨rfl, hww⟩
  obtain rfl := hww.symm
  clear hww
  go_wp2_with fail
  refine (srv_closed_at HC.out.blk).mono ?_
  rintro e w' ⟨rfl, hww⟩
  obtain rfl := hww.symm
  clear hww
  go_wp2_with fail
  refine (srv_rest_nil W).mono ?_
  rintro e w' ⟨rfl, hww⟩
  obtain rfl := hww.symm
  clear hww
  go_wp2_with fail
  refine (srv_served_nil W).mono ?_
  rintro e w' ⟨rfl, hww⟩
  obtain rfl := hww.symm
  clear hww
  go_wp2_with fail
  refine HR.out.mono ?_
  rintro e w' ⟨rfl, hww⟩
  obtain rfl := hww.symm
  clear hww
  go_wp2_with fail
  refine (srv_served_at HC.out.blk).mono ?_
  rintro e w' ⟨rfl, hww⟩
  obtain rfl := hww.symm
  clear hww
  go_wp2_with fail
  refine (awake46 _ (HE.out.below HB.out)).mono ?_
  rintro e w2 ⟨rfl, hb2⟩
  go_wp2_with fail
  go_ret
  exact ⟨rfl, bstep HB.out hb2⟩
end Go.Proofs.YtfjdppngeillcaaGreatDoor
namespace Go.Proofs.YtfjdppngeillcaaGreatDoor
open Go.RowKit

def renU : Go.Shelf.Ren := ⟨fun n => n, fun | 5 => 5 | 119 => 238 | 138 => 240 | 139 => 241 | n => n, fun | 3 => 1 | 4 => 2 | n => n⟩
theorem u8t : U8Types Tryz.prog renU := ⟨Tryz.underlying5, Tryz.underlying238, Tryz.underlying240, Tryz.underlying241⟩
theorem u8x : U8Extra Tryz.prog renU := ⟨by kernel_rfl, by kernel_rfl, by kernel_rfl, by kernel_rfl, by kernel_rfl, by kernel_rfl, by kernel_rfl⟩
theorem accept_data : (Rows.laid_unicode_utf8_acceptRanges : DataW Unit) = Go.Lib.acceptData := by kernel_rfl
theorem pow10_data : (Rows.laid_internal_strconv_uint64pow10 : DataW Unit) = Go.Lib.tabData .u64 Go.Lib.pow10Tab := rfl
theorem maxLen_cell {W : World} (h : W.ShapedOpen Tryz.prog) : ∃ m, W.cell? ⟨0, 0, none⟩ = some (.int .i64 m) := Tryz.laysM145.s1_3 W h
theorem lt_of_cell {W : World} {g : Nat} {v : Value} (h : W.cell? ⟨g, 0, none⟩ = some v) : g < W.heap.size := World.block_lt_of_cell? _ _ h
theorem err_star : "*" ++ "errors.errorString" = "*errors.errorString" := by decide
theorem err_row (u : TypeId) (h : Tryz.prog.typeName? 3 u = some "*errors.errorString") : u = 257 :=
  typeName_ptr_named (nm := "errors.errorString") (by rw [err_star]; kernel_rfl) (by kernel_rfl) (by decide) u (by rw [err_star]; exact h)
theorem env_of {W : World} {rest : List (String × DataW Unit)} (h : laidMet Tryz.prog (("math/bits.deBruijn32tab", Rows.laid_math_bits_deBruijn32tab) :: ("math/bits.deBruijn64tab", Rows.laid_math_bits_deBruijn64tab) :: ("internal/strconv.uint64pow10", Rows.laid_internal_strconv_uint64pow10) :: ("unicode/utf8.acceptRanges", Rows.laid_unicode_utf8_acceptRanges) :: ("strconv.ErrRange", Rows.laid_strconv_ErrRange) :: rest) W)
    (hf : ("unicode/utf8.first", Rows.laid_unicode_utf8_first) ∈ rest) (hsh : W.ShapedOpen Tryz.prog) : EnvF W := by
  have ht : Go.Lib.TabIs Tryz.prog W "internal/strconv.uint64pow10" .u64 Go.Lib.pow10Tab :=
    Go.Lib.tabIs_of_head (n := 20) (t := 245) (e := 223) g_pow10 (by kernel_rfl) (by kernel_rfl) (by kernel_rfl) (by kernel_rfl) (by kernel_rfl) h.tail.tail
  have h3 : Go.Lib.VarReads Tryz.prog W "unicode/utf8.first" Go.Lib.firstData := by
    have := Go.Lib.laidMet.reads h (n := "unicode/utf8.first") (d := Rows.laid_unicode_utf8_first) (by simp [hf])
    rwa [show (Rows.laid_unicode_utf8_first : DataW Unit) = Go.Lib.firstData from Pinned.utf8First_eq] at this
  have h4 : Go.Lib.VarReads Tryz.prog W "unicode/utf8.acceptRanges" Go.Lib.acceptData := by
    have := Go.Lib.laidMet.reads h (n := "unicode/utf8.acceptRanges") (d := Rows.laid_unicode_utf8_acceptRanges) (by simp)
    rwa [accept_data] at this
  obtain ⟨a0, s0, hv0, _, _, _⟩ := laid_sentinel h.tail.tail.tail.tail (g := 5) (ti := 76) (tp := 257) (te := 259) (ts := 9) (by kernel_rfl) (by kernel_rfl) Tryz.underlying76 err_row Tryz.underlying257 Tryz.underlying259 rfl rfl Tryz.underlying9 (by kernel_rfl) (by kernel_rfl)
  obtain ⟨m, hm⟩ := maxLen_cell hsh
  have hr : W.cell? ⟨5, 0, none⟩ = some (.iface 257 (.pointer (some a0))) := World.var?_cell (show Tryz.prog.globalNamed "strconv.ErrRange" = some 5 by kernel_rfl) hv0 0
  refine ⟨⟨m, hm⟩, lt_of_cell hm, utf8Tabs_of_readsT u8t u8x h3 h4, ht, ?_, ⟨_, _, hr⟩, lt_of_cell hr⟩
  rcases Nat.lt_or_ge 3 W.heap.size with hlt | hge
  · exact hlt
  · unfold Go.Lib.TabIs World.var? at ht
    rw [g_pow10] at ht
    simp [Array.getElem?_eq_none hge] at ht
end Go.Proofs.YtfjdppngeillcaaGreatDoor
namespace Go.Proofs.YtfjdppngeillcaaGreatDoor
open Go.RowKit
theorem serveNobody_go (s : ByteArray) (_ : s.size ≤ maxLen) (W : World) (hL : laidMetH Tryz.prog Rows.serveNobodyRow.laid W) (hsh : W.ShapedOpen Tryz.prog) :
    Calls Tryz.prog 5 #[.string s] W fun e W' => e = .returned (.bool true) ∧ Below W.heap.size W W' := by
  rw [MakeChecks.laidMetH_plain _ _ _ (by kernel_rfl)] at hL
  exact serveNobody_walk s W (env_of hL (by simp) hsh)
end Go.Proofs.YtfjdppngeillcaaGreatDoor
