/- The field that tells a body's length: reply.named; slices.IndexFunc and slices.DeleteFunc by it. What head of package reply returns. errors.Is at the errors that the reader of a reply's head tells. (The numbers of package variables and of types + 100 are filled in by fill.py.) Whether two replies are the same: the program's and the document's. What Parse of package reply returns. Plain words on feeds: what is taken off bytes, whatever the pieces (no program in sight). Plain words on feeds: printed replies that come byte by byte (no program in sight). A feed in memory; rows of replies. What none, New, Rest, Bad, End and cut of package feed do. slices.Insert of one field ahead of all the others. slices.Insert of one field ahead of all the others: no room, no element; all roads told as one. -/
import Derived.Test.YtdihhbkajcngeaaGreatDoorPa5
import Derived.Shelf.SlicesQ.IndexFunc
import Derived.Ground.SlgfProg
import Derived.Test.YtdihhbkajcngeaaGreatDoorChecked
import Derived.WalkKit
import Derived.LaidEql
import Derived.Stop.Asserts
import Derived.RowKitTokens
import Derived.Elder7
import Derived.BigQuiet
import Derived.Lib.Walk
import Derived.Lib.Hide
import Derived.Lib.Overlaps
import Derived.Lib.AppendZerosOnto
import Derived.Laws.NewBlocks
import Derived.Deep.AppendLies
import Derived.Shelf.RegionOpenPlain
set_option linter.unusedVariables false
namespace Go.Proofs.YtdihhbkajcngeaaGreatDoor
open Go.RowKit Go.Shelf Go.Lib
set_option maxHeartbeats 1000000 in
theorem reply_named (p q : List UInt8) (w : World) : Calls Tryz.prog 54 #[.agg #[.string (bs p), .string (bs q)]] w fun e w' => e = .returned (.bool (decide (p = clen))) ∧ Below w.heap.size w w' := by
  obtain ⟨r, hr⟩ : ∃ r, decide (p = clen) = r := ⟨_, rfl⟩
  have e0 : ((bs p).toList == [99, 111, 110, 116, 101, 110, 116, 45, 108, 101, 110, 103, 116, 104]) = r := by rw [← hr]; exact bs_lit p clen
  rw [hr]
  clear hr
  go_enter Tryz.func54, Tryz.ntmps54
  go_wp2_with fail
  go_ret
  exact ⟨rfl, (Below.refl _ _).alloc (Nat.le_refl _) _⟩
theorem named_gives (w : World) : PredBelow Tryz.prog 54 #[] (fun x => .agg (encF x).toArray) (fun x => decide (x.1 = clen)) w := fun W x hb => by
  show Calls Tryz.prog 54 #[.agg #[.string (bs x.1), .string (bs x.2)]] W _
  refine (reply_named x.1 x.2 W).mono ?_
  rintro e w' ⟨rfl, h⟩
  exact ⟨rfl, bstep hb h⟩
theorem idx_hit (a b : List (List UInt8 × List UInt8)) (h : List UInt8 × List UInt8) (hh : h.1 = clen) (ha : ∀ x ∈ a, x.1 ≠ clen) : Lib.idxBy (fun _ y => decide (y.1 = clen)) (a ++ h :: b) (default : List UInt8 × List UInt8) = (a.length : Int) := by
  unfold Lib.idxBy
  rw [Lib.idxByFrom_hit _ _ _ a.length 0 (by simp)]
  · simp
  · rw [getElem!_pos _ _ (by simp)]; simp [hh]
  · intro j hj
    rw [getElem!_pos _ _ (by simp; omega), List.getElem_append_left hj]
    exact decide_eq_false (ha _ (List.getElem_mem hj))
theorem index_named (g n cap : Nat) (fs : List (List UInt8 × List UInt8)) (w : World) (hn : n = fs.length) (hl : fs.length ≤ 1000000) (hg : g < w.heap.size)
    (hc : ∀ j (hj : j < fs.length), w.cell? ⟨g, 0 + j * 2, none⟩ = some (.string (bs fs[j].1)) ∧ w.cell? ⟨g, 0 + j * 2 + 1, none⟩ = some (.string (bs fs[j].2))) :
    Calls Tryz.prog 74 #[.slice (some ⟨g, 0, none⟩) n cap, .func (.func 54) #[] #[]] w fun e w' => e = .returned (.int .i64 (Lib.idxBy (fun _ y => decide (y.1 = clen)) fs default)) ∧ Below w.heap.size w w' := by
  subst hn
  have eg : ∀ args w, (callFunc 54 args).run Tryz.prog w = .ok (.enter 54 args) w := enters_of Tryz.func54 (by kernel_rfl) rfl
  have := AnyQ.slices_IndexFunc layIndexF 2 Tryz.isAgg73 Tryz.sizeOf73 encF (fun _ => rfl) (fun x => decide (x.1 = clen)) 54 #[] eg g 0 fs.length cap fs w (named_gives w) (Nat.le_refl _) (by omega) hg (fcell hc)
  rw [List.take_length] at this
  exact this
theorem run_clear_row_wide {P : Program} (w : World) (t e ty : TypeId) (z : Value) (ht : P.underlying t = some (.slice e)) (hv : ∀ w, (zeroValue e).run P w = .ok z w) (g o c : Nat) (cur : Array Value) (te : TypeId) (hg : w.heap[g]? = some (.cells cur te (0, 0)))
    (hfit : o + z.cells.toList.length ≤ cur.size) (h1 : ∀ v ∈ z.cells.toList, v.oneCell' = true) :
    (Builtin.clear_ #[t] ty #[.slice (some ⟨g, o, none⟩) 1 c]).run P w = .ok (.tuple #[]) (w.setRow g (splice cur.toList o z.cells.toList).toArray) := by
  have hzc : (Builtin.zeroCells z.cells 1).toList = z.cells.toList := by
    apply List.ext_getElem
    · simp [Builtin.zeroCells]
    · intro i h1 h2
      have hi : i < z.cells.size := by simpa using h2
      simp [Builtin.zeroCells, Nat.mod_eq_of_lt hi, getElem!_pos z.cells i hi]
  have hst := run_storeCells_at P g o te z.cells.toList 0 cur w hg (by simpa using hfit) h1
  simp only [Nat.add_zero] at hst
  rw [List.append_assoc] at hst
  simp [Builtin.clear_, run_underlying ht, hv, hzc, hst, splice]
theorem fcells_set (L : List (List UInt8 × List UInt8)) (i : Nat) (f : List UInt8 × List UInt8) : fcells (L.set i f) = ((fcells L).set (i * 2) (.string (bs f.1))).set (i * 2 + 1) (.string (bs f.2)) := by
  induction L generalizing i with
  | nil => rfl
  | cons x t ih =>
    cases i with
    | zero => rfl
    | succ i =>
      show _ :: _ :: fcells (t.set i f) = _
      rw [ih, show (i + 1) * 2 = i * 2 + 1 + 1 by omega]
      rfl
theorem row_set2 {w : World} {g : Nat} {cur : Array Value} {t : TypeId} (h : w.heap[g]? = some (.cells cur t (0, 0))) (i j : Nat) (p q : Value) :
    ((w.setCell ⟨g, i, none⟩ p).setCell ⟨g, j, none⟩ q).heap[g]? = some (.cells ((cur.setIfInBounds i p).setIfInBounds j q) t (0, 0)) := by
  simp [World.setCell, Array.getElem?_modify, h]
theorem mid_set (a b : List (List UInt8 × List UInt8)) (x y : List UInt8 × List UInt8) (k i : Nat) (hk : k < b.length) (hy : b[k] = y) (hi : a.length + k = i) : (a ++ (b.take k ++ x :: b.drop k)).set i y = a ++ (b.take (k + 1) ++ y :: b.drop (k + 1)) := by
  subst hi hy
  rw [List.set_append_right _ _ (by omega), Nat.add_sub_cancel_left, List.set_append_right _ _ (by rw [List.length_take]; omega), List.length_take, Nat.min_eq_left (by omega), Nat.sub_self, List.set_cons_zero, List.take_succ_eq_append_getElem hk, List.append_assoc, List.drop_eq_getElem_cons hk]
  rfl
theorem mid_get (a b : List (List UInt8 × List UInt8)) (x : List UInt8 × List UInt8) (k : Nat) (hk : k < b.length) (h : a.length + 1 + k < (a ++ (b.take k ++ x :: b.drop k)).length) : (a ++ (b.take k ++ x :: b.drop k))[a.length + 1 + k] = b[k] := by
  apply Option.some.inj
  rw [← List.getElem?_eq_getElem h, List.getElem?_append_right (by omega), List.getElem?_append_right (by rw [List.length_take]; omega), List.length_take, Nat.min_eq_left (by omega), show a.length + 1 + k - a.length - k = 1 by omega, List.drop_eq_getElem_cons hk]
  rfl
/-- what a row of fields holds while one is being taken out -/
structure MidRow (wr : World) (g cap N : Nat) (L : List (List UInt8 × List UInt8)) : Prop where
  ex : ∃ cur, wr.heap[g]? = some (.cells cur 73 (0, 0)) ∧ cur.size = cap * 2 ∧ cur.toList.take (N * 2) = fcells L ∧ L.length = N ∧ N ≤ cap ∧ cap ≤ maxLen
theorem MidRow.below {w w' : World} {g cap N : Nat} {L : List (List UInt8 × List UInt8)} (h : MidRow w g cap N L) (hb : Below w.heap.size w w') : MidRow w' g cap N L := by
  obtain ⟨cur, h1, h2⟩ := h.ex
  exact ⟨cur, (hb.block g (Array.getElem?_eq_some_iff.1 h1).1).trans h1, h2⟩
theorem MidRow.lt {w : World} {g cap N : Nat} {L : List (List UInt8 × List UInt8)} (h : MidRow w g cap N L) : g < w.heap.size := by
  obtain ⟨cur, h1, h2⟩ := h.ex
  exact (Array.getElem?_eq_some_iff.1 h1).1
theorem MidRow.cells {w : World} {g cap N : Nat} {L : List (List UInt8 × List UInt8)} (h : MidRow w g cap N L) (j : Nat) (hj : j < N) (y : List UInt8 × List UInt8) (hy : L[j]? = some y) :
    w.cell? ⟨g, j * 2, none⟩ = some (.string (bs y.1)) ∧ w.cell? ⟨g, j * 2 + 1, none⟩ = some (.string (bs y.2)) ∧ w.frozen? ⟨g, j * 2, none⟩ = false ∧ w.frozen? ⟨g, j * 2 + 1, none⟩ = false := by
  obtain ⟨cur, h1, h2, h3, h4, h5, h6⟩ := h.ex
  have hjl : j < L.length := by omega
  obtain ⟨g1, g2⟩ := fcells_get L j hjl
  rw [List.getElem?_eq_getElem hjl] at hy
  obtain rfl := Option.some.inj hy
  have key : ∀ k u, k < N * 2 → (fcells L)[k]? = some u → w.cell? ⟨g, k, none⟩ = some u := by
    intro k u hk hu
    rw [cell_of_row w g k cur _ (0, 0) h1, ← Array.getElem?_toList]
    rw [← h3, List.getElem?_take, if_pos hk] at hu
    exact hu
  refine ⟨key _ _ (by omega) g1, key _ _ (by omega) g2, ?_, ?_⟩
  · unfold World.frozen?; rw [h1]; rfl
  · unfold World.frozen?; rw [h1]; rfl
theorem MidRow.set {w : World} {g cap N : Nat} {L : List (List UInt8 × List UInt8)} (h : MidRow w g cap N L) (i : Nat) (y : List UInt8 × List UInt8) :
    MidRow ((w.setCell ⟨g, i * 2, none⟩ (.string (bs y.1))).setCell ⟨g, i * 2 + 1, none⟩ (.string (bs y.2))) g cap N (L.set i y) := by
  obtain ⟨cur, h1, h2, h3, h4, h5, h6⟩ := h.ex
  refine ⟨_, row_set2 h1 _ _ _ _, by simp [h2], ?_, by rw [List.length_set, h4], h5, h6⟩
  rw [Array.toList_setIfInBounds, Array.toList_setIfInBounds, List.take_set, List.take_set, h3, fcells_set]
theorem MidRow.clear {w : World} {g cap i : Nat} {L : List (List UInt8 × List UInt8)} (h : MidRow w g cap (i + 1) L) (base : Nat) (hb : base ≤ g) :
    ∃ w', (∀ ty dc, (Builtin.clear_ #[50] ty #[.slice (some ⟨g, i * 2, none⟩) 1 dc]).run Tryz.prog w = .ok (.tuple #[]) w') ∧ w'.ownsRow base 73 2 (.slice (some ⟨g, 0, none⟩) i cap) i (fcells (L.take i)) ∧ w.grownBy w' (some g) := by
  obtain ⟨cur, h1, h2, h3, h4, h5, h6⟩ := h.ex
  have hz := Tryz.zeroValue73
  refine ⟨_, fun ty dc => run_clear_row_wide w 50 73 ty _ Tryz.underlying50 hz g (i * 2) dc cur 73 h1 (by show i * 2 + 2 ≤ _; omega) (by simp [Value.cells, Value.oneCell']), ?_, ?_⟩
  · refine ⟨by rw [fcells_length, List.length_take]; omega, .inr ⟨g, cap, _, rfl, hb, setRow_heap w g cur _ _ _ h1, by omega, ?_, ?_, ?_⟩⟩
    · exact h6
    · rw [List.size_toArray, length_splice _ _ _ (by show i * 2 + 2 ≤ _; rw [Array.length_toList]; omega), Array.length_toList, h2]
    · have e1 : fcells L = fcells (L.take i) ++ fcells (L.drop i) := by rw [← fcells_append, List.take_append_drop]
      have e2 : (fcells (L.take i)).length = i * 2 := by rw [fcells_length, List.length_take]; omega
      unfold splice
      rw [List.toList_toArray, List.take_left' (by rw [List.length_take, Array.length_toList]; omega)]
      have : cur.toList.take (i * 2) = (cur.toList.take ((i + 1) * 2)).take (i * 2) := by rw [List.take_take]; congr 1; omega
      rw [this, h3, e1, List.take_left' e2]
  · exact ⟨rfl, rfl, rfl, by simp [World.setRow], fun k hk hn => setRow_other w g k _ (fun e => hn (by rw [e]))⟩

theorem grown_trans {w w1 w2 : World} {r : Option Nat} (h : w.grownBy w1 r) (k : w1.grownBy w2 r) : w.grownBy w2 r :=
  ⟨k.os.trans h.os, k.tape.trans h.tape, k.output.trans h.output, Nat.le_trans h.size k.size, fun b hb hn => (k.block b (Nat.lt_of_lt_of_le hb h.size) hn).trans (h.block b hb hn)⟩
def DelPost (g base cap : Nat) (fs : List (List UInt8 × List UInt8)) (w : World) (e : Ending) (w' : World) : Prop :=
  e = .returned (.slice (some ⟨g, 0, none⟩) fs.length cap) ∧ w'.ownsRow base 73 2 (.slice (some ⟨g, 0, none⟩) fs.length cap) fs.length (fcells fs) ∧ w.grownBy w' (some g)
set_option maxRecDepth 100000 in
set_option maxHeartbeats 4000000 in
theorem delete_named (g base cap n : Nat) (a b : List (List UInt8 × List UInt8)) (h : List UInt8 × List UInt8) (w : World) (hn : n = (a ++ h :: b).length) (hh : h.1 = clen) (ha : ∀ x ∈ a, x.1 ≠ clen) (hb : ∀ x ∈ b, x.1 ≠ clen) (hl : n ≤ 1000000)
    (hown : w.ownsRow base 73 2 (.slice (some ⟨g, 0, none⟩) n cap) n (fcells (a ++ h :: b))) :
    Calls Tryz.prog 53 #[.slice (some ⟨g, 0, none⟩) n cap, .func (.func 54) #[] #[]] w (DelPost g base cap (a ++ b) w) := by
  obtain ⟨hM, hbase⟩ : MidRow w g cap n (a ++ h :: b) ∧ base ≤ g := by
    rcases hown.2 with ⟨h0, -⟩ | ⟨g', cap', cur, e1, h1, h2, h3, h4, h5, h6⟩
    · cases h0
    · cases e1
      exact ⟨⟨cur, h2, h5, h6, hn.symm, h3, h4⟩, h1⟩
  have hMg := hM.lt
  have HI := Lib.hid (index_named g n cap (a ++ h :: b) w hn (by omega) hMg (fun j hj => by
    obtain ⟨h1, h2, -, -⟩ := hM.cells j (by omega) _ (List.getElem?_eq_getElem hj)
    rw [Nat.zero_add]; exact ⟨h1, h2⟩))
  rw [idx_hit a b h hh ha] at HI
  obtain ⟨i, hi⟩ : ∃ i, a.length + b.length = i := ⟨_, rfl⟩
  have hni : n = i + 1 := by rw [hn]; simp; omega
  subst hni
  have hcap : i + 1 ≤ cap := by obtain ⟨cur, h1, h2, h3, h4, h5, h6⟩ := hM.ex; exact h5
  have hcap2 : cap ≤ 9223372036854775807 := by obtain ⟨cur, h1, h2, h3, h4, h5, h6⟩ := hM.ex; unfold maxLen at h6; exact h6
  have HM := Lib.hid hM
  have HB := Lib.hid hb
  have hal : a.length ≤ i := by omega
  have t1 : ((a.length : Int) == -1) = false := by rw [beq_eq_false_iff_ne]; omega
  obtain ⟨al, hAL⟩ : ∃ al, a.length = al := ⟨_, rfl⟩
  obtain ⟨bl, hBL⟩ : ∃ bl, b.length = bl := ⟨_, rfl⟩
  rw [hAL] at HI t1 hal
  have HAB := Lib.hid (And.intro hAL hBL)
  rw [hAL, hBL] at hi
  clear hown hM hn hb ha hAL hBL
  go_enter Tryz.func53, Tryz.ntmps53
  go_wp2_with fail
  refine HI.out.mono ?_
  rintro e w1 ⟨rfl, hb1⟩
  have HM1 := Lib.hid (HM.out.below hb1)
  have HG1 := Lib.hid ((GR.refl g w).below hb1)
  clear hb1 HI
  go_wp2_with fail
  go_loopg [5, 6, 7] bl (fun gk s5 s6 _ wr => ∃ (k : Nat) (x : List UInt8 × List UInt8), s5 = .int .i64 ((al + k : Nat) : Int) ∧ s6 = .int .i64 ((al + 1 + k : Nat) : Int) ∧ k + gk = bl ∧ Hid (MidRow wr g cap (i + 1) (a ++ (b.take k ++ x :: b.drop k))) ∧ Hid (w.grownBy wr (some g)))
  case atStart => exact ⟨0, h, by simp, by simp, by omega, HM1, HG1⟩
  case round =>
    obtain ⟨k, x, rfl, rfl, hgk, HR, HG⟩ := hrel
    obtain ⟨p, hp⟩ : ∃ p, al + k = p := ⟨_, rfl⟩
    obtain ⟨q, hq⟩ : ∃ q, al + 1 + k = q := ⟨_, rfl⟩
    have HQP : Hid (q = p + 1) := Lib.hid (by omega)
    have hrg := HR.out.lt
    rw [hp, hq]
    by_cases hk : k < bl
    · obtain ⟨g', rfl⟩ : ∃ g', gk = g' + 1 := ⟨gk - 1, by omega⟩
      have tk : decide ((q : Int) < (i : Int) + 1) = true := decide_eq_true (by have := HQP.out; omega)
      have hk2 : k < b.length := by rw [HAB.out.2]; exact hk
      obtain ⟨y, hy⟩ : ∃ y, b[k] = y := ⟨_, rfl⟩
      have HY : Hid ((a ++ (b.take k ++ x :: b.drop k))[q]? = some y) := Lib.hid (by
        have hlen : a.length + 1 + k < (a ++ (b.take k ++ x :: b.drop k)).length := by
          simp only [List.length_append, List.length_cons, List.length_take, List.length_drop]; omega
        have := mid_get a b x k hk2 hlen
        rw [← hq, ← HAB.out.1, List.getElem?_eq_getElem hlen, this, hy])
      have HS : Hid ((a ++ (b.take k ++ x :: b.drop k)).set p y = a ++ (b.take (k + 1) ++ y :: b.drop (k + 1))) := Lib.hid (mid_set a b x y k p hk2 hy (by rw [HAB.out.1]; exact hp))
      have hyc : decide (y.1 = clen) = false := decide_eq_false (by rw [← hy]; exact HB.out _ (List.getElem_mem hk2))
      obtain ⟨c0, c1, -, -⟩ := HR.out.cells q (by omega) y HY.out
      have HN := Lib.hid (fun w => reply_named y.1 y.2 w)
      rw [hyc] at HN
      clear hyc hy HY hk2
      go_wp2_with fail
      refine (HN.out _).mono ?_
      rintro e w2 ⟨rfl, hb2⟩
      have HR2 := Lib.hid ((HR.out.below ((Below.refl _ _).alloc (Nat.le_refl _) (.cells #[.string (bs y.1), .string (bs y.2)] 73))).below hb2)
      have HG2 := Lib.hid ((HG.out.below ((Below.refl _ _).alloc (Nat.le_refl _) (.cells #[.string (bs y.1), .string (bs y.2)] 73))).below hb2)
      obtain ⟨z, hz⟩ : ∃ z, (a ++ (b.take k ++ x :: b.drop k))[p]? = some z := ⟨_, List.getElem?_eq_getElem (by
        have := HAB.out
        simp only [List.length_append, List.length_cons, List.length_take, List.length_drop]; omega)⟩
      obtain ⟨d0, d1, f0, f1⟩ := HR2.out.cells p (by omega) z hz
      have hk0 : w2.heap[wr.heap.size]? = some (.cells #[.string (bs y.1), .string (bs y.2)] 73 (0, 0)) := (hb2.block wr.heap.size (by simp)).trans (heap_alloc_new wr _)
      have k0 : w2.cell? ⟨wr.heap.size, 0, none⟩ = some (.string (bs y.1)) := by unfold World.cell?; rw [hk0]; rfl
      have k1 : w2.cell? ⟨wr.heap.size, 1, none⟩ = some (.string (bs y.2)) := by unfold World.cell?; rw [hk0]; rfl
      clear hb2 c0 c1 hk0 hz
      go_wp2_with fail
      go_roundg g'
      case measure => omega
      case rel => exact ⟨k + 1, y, by go_num, by go_num, by omega, Lib.hid (by rw [← HS.out]; exact HR2.out.set p y), Lib.hid ((HG2.out.set _ _).set _ _)⟩
    · obtain rfl : k = bl := by omega
      have hpi : p = i := by omega
      subst hpi
      have tk : decide ((q : Int) < (p : Int) + 1) = false := decide_eq_false (by have := HQP.out; omega)
      obtain ⟨w2, hcl, hown, hg⟩ := HR.out.clear base hbase
      have HO := Lib.hid hown
      have HGG := Lib.hid hg
      have HT : Hid ((a ++ (b.take k ++ x :: b.drop k)).take p = a ++ b ∧ (a ++ b).length = p) := Lib.hid (by
        have := HAB.out
        have e1 : b.take k = b := List.take_of_length_le (by omega)
        rw [e1, ← List.append_assoc]
        exact ⟨List.take_left' (by rw [List.length_append]; omega), by rw [List.length_append]; omega⟩)
      clear hown hg
      go_wp2_with fail
      go_ret
      unfold DelPost
      rw [HT.out.2]
      have := HO.out
      rw [HT.out.1] at this
      exact ⟨rfl, this, grown_trans HG.out HGG.out⟩
end Go.Proofs.YtdihhbkajcngeaaGreatDoor
namespace Go.Proofs.YtdihhbkajcngeaaGreatDoor
open Go.RowKit

/-- the block of a reply that is being taken -/
def RpB (w : World) (R : Nat) (c f b : Value) : Prop := w.heap[R]? = some (.cells #[c, f, b] 52 (0, 0))
theorem RpB.below {w w' : World} {R : Nat} {c f b : Value} (k : RpB w R c f b) (hb : Below w.heap.size w w') : RpB w' R c f b :=
  (hb.block R (Array.getElem?_eq_some_iff.1 k).1).trans k
theorem RpB.lt {w : World} {R : Nat} {c f b : Value} (k : RpB w R c f b) : R < w.heap.size := (Array.getElem?_eq_some_iff.1 k).1
theorem RpB.cells {w : World} {R : Nat} {c f b : Value} (k : RpB w R c f b) :
    w.cell? ⟨R, 0, none⟩ = some c ∧ w.cell? ⟨R, 1, none⟩ = some f ∧ w.cell? ⟨R, 2, none⟩ = some b := by
  unfold RpB at k
  refine ⟨?_, ?_, ?_⟩ <;> (unfold World.cell?; rw [k]; rfl)
theorem RpB.free {w : World} {R : Nat} {c f b : Value} (k : RpB w R c f b) :
    w.frozen? ⟨R, 0, none⟩ = false ∧ w.frozen? ⟨R, 1, none⟩ = false ∧ w.frozen? ⟨R, 2, none⟩ = false := by
  unfold RpB at k
  refine ⟨?_, ?_, ?_⟩ <;> (unfold World.frozen?; rw [k]; rfl)
theorem RpB.set0 {w : World} {R : Nat} {c f b : Value} (k : RpB w R c f b) (v : Value) : RpB (w.setCell ⟨R, 0, none⟩ v) R v f b := by
  unfold RpB at k ⊢; simp [World.setCell, Array.getElem?_modify, k]
theorem RpB.set1 {w : World} {R : Nat} {c f b : Value} (k : RpB w R c f b) (v : Value) : RpB (w.setCell ⟨R, 1, none⟩ v) R c v b := by
  unfold RpB at k ⊢; simp [World.setCell, Array.getElem?_modify, k]
/-- behind the append: the block as it was, all below it, too -/
def AfterAppP (R : Nat) (W w' : World) (c v b : Value) : Prop := RpB w' R c v b ∧ W.grownBy w' (some R)
theorem step_appP {ops : Array Oper} {o : Oper} {a : Act} {K : Act → World → Prop} {Q : Exit → Act → World → Prop} {E : Prop} {R base : Nat} (w0 : World) (hw0 : w0.heap.size = base) (hR0 : R < base) {c v b : Value} {W2 : World} {fs : List (List UInt8 × List UInt8)} (W : World) (hgd : o.guard = none) (s z : Operand)
    (ho : o.op = .call { callee := .builtin .append, args := #[s, z], argTypes := #[50, 50] })
    (hR2 : RpB W2 R c v b) (hown : W2.ownsRow base 73 2 v fs.length (fcells fs)) (hg0 : w0.grownBy W2 (some R)) (hs : a.eval s = v) (hn : fs.length < 2147483648) (hbW : Below W2.heap.size W2 W)
    (B : Nat) (f : List UInt8 × List UInt8) (hB : W.heap[B]? = some (.cells #[.string (bs f.1), .string (bs f.2)] 73 (0, 0))) (hx : a.eval z = .slice (some ⟨B, 0, none⟩) 1 1)
    (hK : ∀ g cap w', w'.ownsRow base 73 2 (.slice (some ⟨g, 0, none⟩) (fs.length + 1) cap) (fs ++ [f]).length (fcells (fs ++ [f])) → w'.cell? ⟨R, 1, none⟩ = some v → w'.frozen? ⟨R, 1, none⟩ = false → AfterAppP R w0 w' c v b → K (a.put o.dst (.slice (some ⟨g, 0, none⟩) (fs.length + 1) cap)) w') :
    if Region.wanted o (yielded ops a.tmps) = true then Oper.wp Tryz.prog o a W K Q else E := by
  have hoW := own_keep hown hbW
  have hlt := hR2.lt
  have hsz := hbW.size
  have hs0 := hg0.size
  refine step_appF W hgd s z ho base v fs hs hoW B f hB hx hn (by omega) (fun g cap w' h1 h2 => ?_)
  have hR3 : RpB w' R c v b := (grow_block h2 hoW hR0 (by omega)).trans (hR2.below hbW)
  have hg1 := hg0.below hbW
  have hb3 : w0.grownBy w' (some R) := ⟨h2.os.trans hg1.os, h2.tape.trans hg1.tape, h2.output.trans hg1.output, Nat.le_trans hg1.size h2.size, fun k hk hne =>
    (h2.block k (Nat.lt_of_lt_of_le hk hg1.size) (fun h => by have := (hoW.lt k h.symm).1; omega)).trans (hg1.block k hk hne)⟩
  exact hK g cap w' h1 hR3.cells.2.1 hR3.free.2.1 ⟨hR3, hb3⟩
/-- what a head leaves: the length and the mark that it is whole, or an error -/
def HdPost (R : Nat) (w : World) (b : Value) (ls : List (List UInt8)) (e : Ending) (w' : World) : Prop :=
  (hdE ls ≠ 0 ∧ e = .returned (.tuple #[.int .i64 0, .iface 26 (.int .i64 (hdE ls : Nat))]) ∧ (∃ c f, RpB w' R c f b) ∧ w.grownBy w' (some R)) ∨
  (hdE ls = 0 ∧ e = .returned (.tuple #[.int .i64 (hdN ls : Nat), .iface 82 (.string ⟨#[116, 97, 107, 101, 110]⟩)]) ∧ (∃ f, RpB w' R (.int .i64 (hdC ls)) f b ∧ w'.ownsRow w.heap.size 73 2 f (restF (fldL ls.tail)).length (fcells (restF (fldL ls.tail)))) ∧ w.grownBy w' (some R))
theorem get_clen (v : Value) (fs : List (List UInt8 × List UInt8)) (w : World) (hv : HoldsF w v fs) (hlen : fs.length ≤ 1000000) :
    Calls Tryz.prog 51 #[v, .string ⟨#[99, 111, 110, 116, 101, 110, 116, 45, 108, 101, 110, 103, 116, 104]⟩] w fun e w' => e = .returned (.tuple #[.string (bs (getS fs clen)), .int .i64 (getE fs clen : Nat)]) ∧ Below w.heap.size w w' :=
  fields_get v fs ⟨#[99, 111, 110, 116, 101, 110, 116, 45, 108, 101, 110, 103, 116, 104]⟩ w hv hlen
theorem get_none (w : World) : Calls Tryz.prog 51 #[.slice none 0 0, .string ⟨#[99, 111, 110, 116, 101, 110, 116, 45, 108, 101, 110, 103, 116, 104]⟩] w fun e w' => e = .returned (.tuple #[.string ⟨#[]⟩, .int .i64 6]) ∧ Below w.heap.size w w' :=
  get_clen (.slice none 0 0) [] w (HoldsF.nil _ _ _) (by decide)
set_option maxRecDepth 100000 in
set_option maxHeartbeats 4000000 in
theorem reply_head (R : Nat) (w : World) (lv b : Value) (ls : List (List UInt8)) (hR : RpB w R (.int .i64 0) (.slice none 0 0) b) (hl : HoldsS w lv ls) (hlen : ls.length ≤ 17) (hx : ∀ x ∈ ls, x.length ≤ 256) (hA : Anchor R w) (hbk : lv.ownBlock ≠ some R) :
    Calls Tryz.prog 34 #[.pointer (some ⟨R, 0, none⟩), lv] w (HdPost R w b ls) := by
  have hRl := hR.lt
  by_cases hne : ls = []
  · subst hne
    obtain ⟨av, c, rfl, hc, hh⟩ := hl
    have HR := Lib.hid hR
    clear hR hh hx hA hbk
    go_enter Tryz.func34, Tryz.ntmps34
    go_wp2_with fail
    go_ret2
    exact .inl ⟨by decide, rfl, ⟨_, _, HR.out⟩, GR.refl _ _⟩
  obtain ⟨x0, ts, rfl⟩ : ∃ x ts, ls = x :: ts := by cases ls with
    | nil => exact absurd rfl hne
    | cons x ts => exact ⟨x, ts, rfl⟩
  obtain ⟨av, c, rfl, hc, hh⟩ := hl
  obtain ⟨B, o, rfl, hBl, hcell⟩ := hh (by simp)
  have c0 := hcell 0 (by simp)
  rw [Nat.add_zero] at c0
  change w.cell? ⟨B, o, none⟩ = some (.string (bs x0)) at c0
  have HC : Hid (∀ j (hj : j < ts.length), w.cell? ⟨B, o + 1 + j, none⟩ = some (.string (bs ts[j]))) := Lib.hid (fun j hj => by
    have := hcell (j + 1) (by simp; omega)
    rw [show o + 1 + j = o + (j + 1) by omega]; exact this)
  have HX : Hid (∀ x ∈ ts, x.length ≤ 256) := Lib.hid (fun x hxx => hx x (List.mem_cons_of_mem _ hxx))
  have hx0 := hx x0 (List.mem_cons_self ..)
  have HA := Lib.hid hA
  have HR := Lib.hid hR
  have hBR : Hid (B < w.heap.size ∧ B ≠ R) := Lib.hid ⟨hBl, fun e => hbk (by rw [e]; rfl)⟩
  clear hbk
  obtain ⟨X0, hX0⟩ : ∃ X, bs x0 = X := ⟨_, rfl⟩
  have hXd : X0.data.toList = x0 := by rw [← hX0, bs_data]
  have HS := Lib.hid (fun w => status_parse X0 w (by rw [← hX0, bs_size]; omega))
  rw [hXd] at HS
  rw [hX0] at c0
  have hn1 : (x0 :: ts).length = ts.length + 1 := rfl
  rw [hn1] at hc hlen ⊢
  have tl : (((ts.length : Int) + 1) == 0) = false := by rw [beq_eq_false_iff_ne]; omega
  have HG : Hid ((x0 :: ts).getD 0 [] = x0 ∧ (x0 :: ts).tail = ts ∧ (x0 :: ts) ≠ []) := Lib.hid ⟨rfl, rfl, by simp⟩
  generalize (x0 :: ts) = LS at HG ⊢
  clear hcell hh hx hA hR hne hX0 hXd hn1
  have hts : ts.length ≤ 16 := by omega
  obtain ⟨⟨C, e0⟩, hst⟩ : ∃ T, statusOf x0 = T := ⟨_, rfl⟩
  rw [hst] at HS
  by_cases he : e0 = 0
  case neg =>
    have HF : Hid (hdE LS = e0 ∧ e0 ≠ 0) := Lib.hid ⟨by unfold hdE; rw [if_neg HG.out.2.2, HG.out.1, hst, if_pos he], he⟩
    have tz : ((e0 : Int) != 0) = true := by rw [bne_iff_ne]; omega
    clear he hst
    go_enter Tryz.func34, Tryz.ntmps34
    go_wp2_with fail
    refine (HS.out _).mono ?_
    rintro e w1 ⟨rfl, hb1⟩
    have HR1 := Lib.hid (HR.out.below hb1)
    have HG1 := Lib.hid ((GR.refl R w).below hb1)
    clear hb1 c0
    go_wp2_with fail
    go_ret2
    exact .inl ⟨by rw [HF.out.1]; exact HF.out.2, by rw [HF.out.1]; rfl, ⟨_, _, HR1.out⟩, HG1.out⟩
  subst he
  have HST : Hid ((statusOf (LS.getD 0 [])).2 = 0 ∧ hdC LS = C) := Lib.hid ⟨by rw [HG.out.1, hst], by unfold hdC; rw [HG.out.1, hst]⟩
  clear hst
  have HAft : Hid (fldE ts ≠ 0 → hdE LS = fldE ts) := Lib.hid (fun h => by unfold hdE; rw [if_neg HG.out.2.2, if_neg (by rw [HST.out.1]; simp), HG.out.2.1, if_pos h])
  have HAf2 : Hid (fldE ts = 0 → hdE LS = if getE (fldL ts) clen ≠ 0 then getE (fldL ts) clen else numE (getS (fldL ts) clen)) := Lib.hid (fun h => by unfold hdE; rw [if_neg HG.out.2.2, if_neg (by rw [HST.out.1]; simp), HG.out.2.1, if_neg (by rw [h]; simp)])
  have HAf3 : Hid (hdN LS = numV (getS (fldL ts) clen) ∧ restF (fldL LS.tail) = restF (fldL ts)) := Lib.hid ⟨by unfold hdN; rw [HG.out.2.1], by rw [HG.out.2.1]⟩
  clear HG
  by_cases h1 : c = 1
  · have ht0 : ts = [] := List.length_eq_zero_iff.1 (by omega)
    subst ht0
    subst h1
    have HP : Hid (hdE LS = 6) := Lib.hid (by rw [HAf2.out rfl]; rfl)
    have HGet := Lib.hid (fun w => get_none w)
    clear HC HX HAft HAf2 HAf3
    go_enter Tryz.func34, Tryz.ntmps34
    go_wp2_with fail
    refine (HS.out _).mono ?_
    rintro e w1 ⟨rfl, hb1⟩
    have HR1 := Lib.hid (HR.out.below hb1)
    have HG1 := Lib.hid ((GR.refl R w).below hb1)
    obtain ⟨k0, k1, -⟩ := HR1.out.cells
    obtain ⟨f0, f1, -⟩ := HR1.out.free
    clear hb1 c0
    go_wp2_with fail
    refine wp_loop_rounds 1 ?_
    rw [rounds_succ]
    go_wp2_with fail
    refine (HGet.out _).mono ?_
    rintro e w2 ⟨rfl, hb2⟩
    have HR2 := Lib.hid ((HR1.out.set0 (.int .i64 C)).below hb2)
    have HG2 := Lib.hid ((HG1.out.set 0 (.int .i64 C)).below hb2)
    clear hb2 k0 k1 f0 f1
    go_wp2_with fail
    go_ret2
    exact .inl ⟨by rw [HP.out]; decide, by rw [HP.out]; rfl, ⟨_, _, HR2.out⟩, HG2.out⟩
  · have hc1 : 1 < c := by omega
    go_enter Tryz.func34, Tryz.ntmps34
    go_wp2_with fail
    refine (HS.out _).mono ?_
    rintro e w1 ⟨rfl, hb1⟩
    have HR1 := Lib.hid (HR.out.below hb1)
    have HG1 := Lib.hid ((GR.refl R w).below hb1)
    obtain ⟨k0, k1, -⟩ := HR1.out.cells
    obtain ⟨f0, f1, -⟩ := HR1.out.free
    clear hb1 c0
    go_wp2_with fail
    have hR2 := HR1.out.set0 (.int .i64 C)
    have hG2 := HG1.out.set 0 (.int .i64 C)
    generalize w1.setCell ⟨R, 0, none⟩ (.int .i64 C) = W1 at hR2 hG2 ⊢
    have HR2 := Lib.hid hR2
    have HG2 := Lib.hid hG2
    clear hR2 hG2 k0 k1 f0 f1 HR1 HG1
    go_loopg [36] ts.length (fun gk s36 wr => ∃ (k : Nat) (fv : Value), s36 = .int .i64 (k : Int) ∧ k + gk = ts.length ∧ RpB wr R (.int .i64 C) fv b ∧ wr.ownsRow w.heap.size 73 2 fv (fldL (ts.take k)).length (fcells (fldL (ts.take k))) ∧ w.grownBy wr (some R) ∧ Hid (∀ j (hj : j < ts.length), j < k → parseE ts[j] = 0))
    case atStart => exact ⟨0, _, by simp, by omega, HR2.out, by rw [List.take_zero]; exact World.ownsRow_nil _ _ _ _, HG2.out, Lib.hid (fun j hj h => absurd h (Nat.not_lt_zero _))⟩
    case round =>
      obtain ⟨k, fv, rfl, hgk, hRr, hown, hgr, HK⟩ := hrel
      have HGR := Lib.hid hgr
      have hbr := hgr.toBelow (Nat.le_of_lt hRl)
      have hAB := (HA.out.step hbr)
      have HE := Lib.hid hAB.env
      have HANC := Lib.hid hAB
      clear hgr
      have HO := Lib.hid hown
      have HRr := Lib.hid hRr
      clear hown hRr hAB
      by_cases hk : k < ts.length
      · obtain ⟨g', rfl⟩ : ∃ g', gk = g' + 1 := ⟨gk - 1, by omega⟩
        have tk : decide ((k : Int) < (ts.length : Int)) = true := decide_eq_true (by omega)
        have c0 : wr.cell? ⟨B, o + 1 + k, none⟩ = some (.string (bs ts[k])) := by
          have hx1 := HGR.out.block B hBR.out.1 (fun e => hBR.out.2 (Option.some.inj e))
          have := HC.out k hk
          unfold World.cell? at this ⊢
          rw [hx1]; exact this
        obtain ⟨S, hS⟩ : ∃ S, bs ts[k] = S := ⟨_, rfl⟩
        have hSd : S.data.toList = ts[k] := by rw [← hS, bs_data]
        have hSs : S.size ≤ 1000000 := by rw [← hS, bs_size]; have := HX.out _ (List.getElem_mem hk); omega
        rw [hS] at c0
        have HP := Lib.hid (fun w hE => fields_parse S w hSs hE)
        rw [hSd] at HP
        have hkl : Hid ((fldL (ts.take k)).length < 2147483648) := Lib.hid (by unfold fldL; rw [List.length_map, List.length_take]; omega)
        clear hS hSd
        by_cases hz : parseE ts[k] = 0
        · rw [hz] at HP
          have HK2 : Hid (∀ j (hj : j < ts.length), j < k + 1 → parseE ts[j] = 0) := Lib.hid (fun j hj h => by
            by_cases e : j = k
            · subst e; exact hz
            · exact HK.out j hj (by omega))
          have hstep : Hid (fldL (ts.take (k + 1)) = fldL (ts.take k) ++ [(parseN ts[k], parseV ts[k])]) := Lib.hid (fldL_snoc ts k hk)
          clear hz HK
          go_wp2_with fail
          refine (HP.out _ HE.out).mono ?_
          rintro e w1 ⟨rfl, hb1⟩
          have HR1 := Lib.hid (HRr.out.below hb1)
          have HO1 := Lib.hid (own_keep HO.out hb1)
          have HG1 := Lib.hid (HGR.out.below hb1)
          have hR1l := HR1.out.lt
          clear hb1 hbr c0
          go_wp2_with fail
          have hR2 : RpB (w1.alloc (.cells #[.string (bs (parseN ts[k])), .string (bs (parseV ts[k]))] 73)) R (.int .i64 C) fv b := HR1.out.below ((Below.refl _ _).alloc (Nat.le_refl _) _)
          have hO2 := own_keep HO1.out ((Below.refl w1.heap.size w1).alloc (Nat.le_refl _) (.cells #[.string (bs (parseN ts[k])), .string (bs (parseV ts[k]))] 73))
          have hg2 := HG1.out.below ((Below.refl w1.heap.size w1).alloc (Nat.le_refl _) (.cells #[.string (bs (parseN ts[k])), .string (bs (parseV ts[k]))] 73))
          obtain ⟨j0, j1⟩ := box2 w1 (.string (bs (parseN ts[k]))) (.string (bs (parseV ts[k]))) 73
          have hj : w1.heap.size < (w1.alloc (.cells #[.string (bs (parseN ts[k])), .string (bs (parseV ts[k]))] 73)).heap.size := by simp
          generalize w1.alloc (.cells #[.string (bs (parseN ts[k])), .string (bs (parseV ts[k]))] 73) = W2 at hR2 hO2 hg2 j0 j1 hj ⊢
          have HR2 := Lib.hid hR2
          have HO2 := Lib.hid hO2
          have HG2 := Lib.hid hg2
          obtain ⟨-, k1, -⟩ := hR2.cells
          obtain ⟨-, f1, -⟩ := hR2.free
          have hRl2 := hR2.lt
          clear hR2 hO2 hg2 HR1 HO1 HG1
          go_region_law (refine step_appP w rfl hRl _ rfl _ _ rfl HR2.out HO2.out HG2.out rfl hkl.out ?_ W2.heap.size (parseN ts[k], parseV ts[k]) ?_ rfl ?_; exact ((Below.refl _ _).alloc (Nat.le_refl _) _).drew; exact heap_alloc_new W2 _; intro g cap w3 hown3 hc3 hf3 haf)
          all_goals
            go_wp2_with fail
            go_roundg g'
            case measure => omega
            case rel =>
              refine ⟨k + 1, _, by simp, by omega, haf.1.set1 _, ?_, haf.2.set 1 _, HK2⟩
              rw [hstep.out]; exact ownsRow_setCell_below hown3 (a := ⟨R, 1, none⟩) hRl _
        · have HF : Hid (hdE LS = parseE ts[k] ∧ hdE LS ≠ 0) := Lib.hid (by
            have hfe := fldE_at ts k hk HK.out hz
            have := HAft.out (by rw [hfe]; exact hz)
            rw [this, hfe]; exact ⟨rfl, hz⟩)
          have tz : ((parseE ts[k] : Int) != 0) = true := by rw [bne_iff_ne]; omega
          clear hz HK
          go_wp2_with fail
          refine (HP.out _ HE.out).mono ?_
          rintro e w1 ⟨rfl, hb1⟩
          have HR1 := Lib.hid (HRr.out.below hb1)
          have HG1 := Lib.hid (HGR.out.below hb1)
          have hR1l := HR1.out.lt
          clear hb1 hbr c0
          go_wp2_with fail
          go_ret2
          exact .inl ⟨HF.out.2, by rw [HF.out.1]; rfl, ⟨_, _, HR1.out.below ((Below.refl _ _).alloc (Nat.le_refl _) _)⟩, HG1.out.below ((Below.refl _ _).alloc (Nat.le_refl _) _)⟩
      · obtain rfl : k = ts.length := by omega
        have tk : decide ((ts.length : Int) < (ts.length : Int)) = false := decide_eq_false (by omega)
        have hz : fldE ts = 0 := fldE_all ts (fun j hj => HK.out j hj hj)
        rw [List.take_length] at HO
        obtain ⟨fs, hfs⟩ : ∃ fs, fldL ts = fs := ⟨_, rfl⟩
        have hfl : fs.length ≤ 16 := by rw [← hfs]; unfold fldL; rw [List.length_map]; omega
        have hgl : (getS fs clen).length ≤ 256 := by rw [← hfs]; exact getS_len ts clen HX.out
        have HE2 := Lib.hid (HAf2.out hz)
        rw [hfs] at HO HE2 HAf3
        have HGet := Lib.hid (fun w h => get_clen fv fs w h (by omega))
        have HNum := Lib.hid (fun w hE => fields_number (bs (getS fs clen)) w (by rw [bs_size]; omega) hE)
        rw [bs_data] at HNum
        obtain ⟨-, k1, -⟩ := HRr.out.cells
        clear hz HK hfs hbr
        by_cases hz : getE fs clen = 0
        case neg =>
          have HF : Hid (hdE LS = getE fs clen ∧ hdE LS ≠ 0) := Lib.hid (by rw [HE2.out, if_pos hz]; exact ⟨rfl, hz⟩)
          have tz : ((getE fs clen : Int) != 0) = true := by rw [bne_iff_ne]; omega
          clear hz
          go_wp2_with fail
          refine (HGet.out _ (HoldsF.of_own HO.out)).mono ?_
          rintro e w2 ⟨rfl, hb2⟩
          have HR2 := Lib.hid (HRr.out.below hb2)
          have HG2 := Lib.hid (HGR.out.below hb2)
          clear hb2 k1
          go_wp2_with fail
          go_ret2
          exact .inl ⟨HF.out.2, by rw [HF.out.1]; rfl, ⟨_, _, HR2.out⟩, HG2.out⟩
        rw [hz] at HGet
        have hz' : Hid (getE fs clen = 0) := Lib.hid hz
        rw [hz, if_neg (by simp)] at HE2
        clear hz
        by_cases hn : numE (getS fs clen) = 0
        case neg =>
          have HF : Hid (hdE LS = numE (getS fs clen) ∧ hdE LS ≠ 0) := Lib.hid (by rw [HE2.out]; exact ⟨rfl, hn⟩)
          have tz : ((numE (getS fs clen) : Int) != 0) = true := by rw [bne_iff_ne]; omega
          clear hn
          go_wp2_with fail
          refine (HGet.out _ (HoldsF.of_own HO.out)).mono ?_
          rintro e w2 ⟨rfl, hb2⟩
          have HR2 := Lib.hid (HRr.out.below hb2)
          have HG2 := Lib.hid (HGR.out.below hb2)
          have HE3 := Lib.hid (HE.out.below hb2)
          clear hb2 k1
          go_wp2_with fail
          refine (HNum.out _ HE3.out).mono ?_
          rintro e w3 ⟨rfl, hb3⟩
          have HR3 := Lib.hid (HR2.out.below hb3)
          have HG3 := Lib.hid (HG2.out.below hb3)
          clear hb3
          go_wp2_with fail
          go_ret2
          exact .inl ⟨HF.out.2, by rw [HF.out.1]; rfl, ⟨_, _, HR3.out⟩, HG3.out⟩
        have HF : Hid (hdE LS = 0) := Lib.hid (by rw [HE2.out]; exact hn)
        rw [hn] at HNum
        obtain ⟨N, hN⟩ : ∃ N, numV (getS fs clen) = N := ⟨_, rfl⟩
        rw [hN] at HNum HAf3
        obtain ⟨A, x, Bf, e1, e2, e3, e4, e5⟩ := split_one fs hz'.out
        have HSp := Lib.hid (And.intro e1 (And.intro e2 (And.intro e3 (And.intro e4 e5))))
        have hpos : 0 < fs.length := by rw [e1, List.length_append, List.length_cons]; omega
        obtain ⟨g, cap, hfv, hgb⟩ : ∃ g cap, fv = .slice (some ⟨g, 0, none⟩) fs.length cap ∧ w.heap.size ≤ g := by
          rcases HO.out.2 with ⟨-, h0⟩ | ⟨g, cap, cur, hv, hb, -⟩
          · omega
          · exact ⟨g, cap, hv, hb⟩
        subst hfv
        obtain ⟨nn, hnn⟩ : ∃ nn, fs.length = nn := ⟨_, rfl⟩
        rw [hnn] at HO k1 HRr HGet
        have HD := Lib.hid (fun W (h : W.ownsRow w.heap.size 73 2 (.slice (some ⟨g, 0, none⟩) nn cap) nn (fcells fs)) => delete_named g w.heap.size cap nn A Bf x W (by rw [← hnn, HSp.out.1]) HSp.out.2.1 HSp.out.2.2.1 HSp.out.2.2.2.1 (by omega) (by rw [HSp.out.1] at h; exact h))
        obtain ⟨rs, hrs⟩ : ∃ rs, A ++ Bf = rs := ⟨_, rfl⟩
        rw [hrs] at HD
        have HRS : Hid (restF fs = rs) := Lib.hid (e5.trans hrs)
        clear hn e1 e2 e3 e4 e5 hN hnn hpos hrs
        go_wp2_with fail
        refine (HGet.out _ (by have := HoldsF.of_own HO.out; exact this)).mono ?_
        rintro e w2 ⟨rfl, hb2⟩
        have HR2 := Lib.hid (HRr.out.below hb2)
        have HG2 := Lib.hid (HGR.out.below hb2)
        have HE3 := Lib.hid (HE.out.below hb2)
        have HO2 := Lib.hid (own_keep HO.out hb2)
        clear hb2 k1
        go_wp2_with fail
        refine (HNum.out _ HE3.out).mono ?_
        rintro e w3 ⟨rfl, hb3⟩
        have HR3 := Lib.hid (HR2.out.below hb3)
        have HG3 := Lib.hid (HG2.out.below hb3)
        have HO3 := Lib.hid (own_keep HO2.out hb3)
        obtain ⟨-, k1, -⟩ := HR3.out.cells
        have hs3 := HG3.out.size
        clear hb3
        go_wp2_with fail
        refine (HD.out _ HO3.out).mono ?_
        rintro e w4 ⟨rfl, hown4, hg4⟩
        have HR4 : Hid (RpB w4 R (.int .i64 C) (.slice (some ⟨g, 0, none⟩) nn cap) b) := Lib.hid ((hg4.block R HR3.out.lt (fun e => by have := Option.some.inj e; omega)).trans HR3.out)
        have HG4 : Hid (w.grownBy w4 (some R)) := Lib.hid ⟨hg4.os.trans HG3.out.os, hg4.tape.trans HG3.out.tape, hg4.output.trans HG3.out.output, Nat.le_trans hs3 hg4.size, fun k hk hne => (hg4.block k (Nat.lt_of_lt_of_le hk hs3) (fun e => by have := Option.some.inj e; omega)).trans (HG3.out.block k hk hne)⟩
        have HO4 := Lib.hid hown4
        obtain ⟨-, k1, -⟩ := HR4.out.cells
        obtain ⟨-, f1, -⟩ := HR4.out.free
        clear hown4 hg4
        go_wp2_with fail
        go_ret2
        refine .inr ⟨HF.out, by rw [HAf3.out.1]; rfl, ⟨.slice (some ⟨g, 0, none⟩) rs.length cap, ?_, ?_⟩, HG4.out.set 1 _⟩
        · rw [HST.out.2]; exact HR4.out.set1 _
        · rw [HAf3.out.2, HRS.out]; exact ownsRow_setCell_below HO4.out (a := ⟨R, 1, none⟩) hRl _
end Go.Proofs.YtdihhbkajcngeaaGreatDoor
namespace Go.Proofs.YtdihhbkajcngeaaGreatDoor
open Go.RowKit Go.Extern.Stop Go.Stop Go.Extern Go.Extern.Rtype
theorem ri_typeOf (v : Value) (w : World) : (Extern.ReflectliteType.typeOf #[.iface 82 v]).run Tryz.prog w = .ok (.iface 129 (.agg #[.pointer (some ⟨8, 82, none⟩)])) w := by kernel_rfl
theorem ri_comparable (w : World) : ((Extern.ReflectliteType.method fun t => do noPackHeld "Comparable" t; Functor.map (fun a => Value.bool a.comparable) (typeInfo t)) #[.agg #[.pointer (some ⟨8, 82, none⟩)]]).run Tryz.prog w = .ok (.bool true) w := by kernel_rfl
theorem ri_method (v : Value) (w : World) : (Go.method 336 129 v "Comparable").run Tryz.prog w = .ok (166, v) w := by kernel_rfl
theorem ri_same (w : World) : (binOp .eql 78 (.iface 82 (.string ⟨#[116, 97, 107, 101, 110]⟩)) (.iface 82 (.string ⟨#[116, 97, 107, 101, 110]⟩))).run Tryz.prog w = .ok (.bool true) w := by kernel_rfl
theorem ri_other (e : Int) (w : World) : (binOp .eql 78 (.iface 26 (.int .i64 e)) (.iface 82 (.string ⟨#[116, 97, 107, 101, 110]⟩))).run Tryz.prog w = .ok (.bool false) w := by kernel_rfl
theorem ri_noIs (v : Value) (xT : TypeId) (w : World) : (Instr.typeAssert (.iface 26 v) xT 131 true).run Tryz.prog w = .ok (.tuple #[.nilIface, .bool false]) w := run_typeAssert_lacksB Tryz.underlying131 (by kernel_rfl) (by kernel_rfl) v xT w
theorem ri_noUnwrap (v : Value) (xT : TypeId) (w : World) : (Instr.typeAssert (.iface 26 v) xT 134 true).run Tryz.prog w = .ok (.tuple #[.nilIface, .bool false]) w := run_typeAssert_lacksB Tryz.underlying134 (by kernel_rfl) (by kernel_rfl) v xT w
theorem ri_noUnwraps (v : Value) (xT : TypeId) (w : World) : (Instr.typeAssert (.iface 26 v) xT 136 true).run Tryz.prog w = .ok (.tuple #[.nilIface, .bool false]) w := run_typeAssert_lacksB Tryz.underlying136 (by kernel_rfl) (by kernel_rfl) v xT w
set_option maxRecDepth 1000000 in
set_option maxHeartbeats 2000000 in
/-- errors.Is(taken, taken) -/
theorem is_taken (w : World) : Calls Tryz.prog 35 #[.iface 82 (.string ⟨#[116, 97, 107, 101, 110]⟩), .iface 82 (.string ⟨#[116, 97, 107, 101, 110]⟩)] w fun e w' => e = .returned (.bool true) ∧ w' = w := by
  have h8 := @run_callFunc_extern Tryz.prog 55 _ Extern.ReflectliteType.typeOf Tryz.func55 (by kernel_rfl) (by kernel_rfl) (by kernel_rfl) (by kernel_rfl)
  have h32 := @run_callFunc_extern Tryz.prog 166 _ (Extern.ReflectliteType.method fun t => do noPackHeld "Comparable" t; pure (.bool (← typeInfo t).comparable)) Tryz.func166 (by kernel_rfl) (by kernel_rfl) (by kernel_rfl) (by kernel_rfl)
  have tT := ri_typeOf
  have cT := ri_comparable
  have mR := ri_method
  have heq := ri_same
  go_enter Tryz.func35, Tryz.ntmps35
  go_wp2
  refine wp_loop_rounds 1 ?_
  rw [rounds_succ]
  go_wp2
  go_ret
  exact ⟨rfl, rfl⟩
set_option maxRecDepth 1000000 in
set_option maxHeartbeats 2000000 in
/-- errors.Is(e, taken), e a number of the program's errors -/
theorem is_errno (n : Int) (w : World) : Calls Tryz.prog 35 #[.iface 26 (.int .i64 n), .iface 82 (.string ⟨#[116, 97, 107, 101, 110]⟩)] w fun e w' => e = .returned (.bool false) ∧ w' = w := by
  have h8 := @run_callFunc_extern Tryz.prog 55 _ Extern.ReflectliteType.typeOf Tryz.func55 (by kernel_rfl) (by kernel_rfl) (by kernel_rfl) (by kernel_rfl)
  have h32 := @run_callFunc_extern Tryz.prog 166 _ (Extern.ReflectliteType.method fun t => do noPackHeld "Comparable" t; pure (.bool (← typeInfo t).comparable)) Tryz.func166 (by kernel_rfl) (by kernel_rfl) (by kernel_rfl) (by kernel_rfl)
  have tT := ri_typeOf
  have cT := ri_comparable
  have mR := ri_method
  have heq := ri_other n
  have nE := ri_noIs
  have uE := ri_noUnwrap
  have vE := ri_noUnwraps
  go_enter Tryz.func35, Tryz.ntmps35
  go_wp2
  refine wp_loop_rounds 1 ?_
  rw [rounds_succ]
  go_wp2
  go_ret
  exact ⟨rfl, rfl⟩
end Go.Proofs.YtdihhbkajcngeaaGreatDoor
namespace Go.Proofs.YtdihhbkajcngeaaGreatDoor
open Go.RowKit
theorem below_agg3 (w : World) (x y z : Value) (t : TypeId) : Below w.heap.size w (w.alloc (.cells #[x, y, z] t)) := (Below.refl _ _).alloc (Nat.le_refl _) _
/-- a block of three cells -/
def Three (w : World) (b : Nat) (x y z : Value) : Prop := b < w.heap.size ∧ w.cell? ⟨b, 0, none⟩ = some x ∧ w.cell? ⟨b, 1, none⟩ = some y ∧ w.cell? ⟨b, 2, none⟩ = some z
theorem Three.below {w w' : World} {b : Nat} {x y z : Value} (h : Three w b x y z) (hb : Below w.heap.size w w') : Three w' b x y z :=
  ⟨Nat.lt_of_lt_of_le h.1 hb.size, (hb.cell (p := ⟨b, 0, none⟩) h.1).trans h.2.1, (hb.cell (p := ⟨b, 1, none⟩) h.1).trans h.2.2.1, (hb.cell (p := ⟨b, 2, none⟩) h.1).trans h.2.2.2⟩
theorem Three.alloc {w : World} {b : Nat} {x y z : Value} (h : Three w b x y z) (o : Obj) : Three (w.alloc o) b x y z := h.below ((Below.refl _ _).alloc (Nat.le_refl _) o)
theorem Three.new (w : World) (x y z : Value) (t : TypeId) : Three (w.alloc (.cells #[x, y, z] t)) w.heap.size x y z := by
  have hh := heap_alloc_new w (.cells #[x, y, z] t)
  refine ⟨by simp, ?_, ?_, ?_⟩ <;> (unfold World.cell?; rw [hh]; rfl)
/-- whether two replies are the same -/
def sameR (c d : Int) (x y : List UInt8) (fs gs : List (List UInt8 × List UInt8)) : Bool := decide (c = d) && decide (x = y) && decide (fs = gs)
set_option maxRecDepth 100000 in
set_option maxHeartbeats 1000000 in
theorem reply_same (c d : Int) (x y : ByteArray) (va vb : Value) (fs gs : List (List UInt8 × List UInt8)) (w : World) (ha : HoldsF w va fs) (hb : HoldsF w vb gs) (hf : fs.length ≤ 1000000) (hg : gs.length ≤ 1000000) :
    Calls Tryz.prog 19 #[.agg #[.int .i64 c, va, .string x], .agg #[.int .i64 d, vb, .string y]] w fun e w' => e = .returned (.bool (sameR c d x.data.toList y.data.toList fs gs)) ∧ Below w.heap.size w w' := by
  have B1 := below_agg3 w (.int .i64 c) va (.string x) 52
  have T1 := Lib.hid ((Three.new w (.int .i64 c) va (.string x) 52).alloc (.cells #[.int .i64 d, vb, .string y] 52))
  have B2 := below_agg3 (w.alloc (.cells #[.int .i64 c, va, .string x] 52)) (.int .i64 d) vb (.string y) 52
  have T2 := Lib.hid (Three.new (w.alloc (.cells #[.int .i64 c, va, .string x] 52)) (.int .i64 d) vb (.string y) 52)
  have ha' := Lib.hid ((ha.below B1).below B2)
  have hb' := Lib.hid ((hb.below B1).below B2)
  have BB := Lib.hid (bstep B1 B2)
  clear ha hb B1 B2
  obtain ⟨l1, t0, t1, t2⟩ := T1.out
  obtain ⟨l2, u0, u1, u2⟩ := T2.out
  clear T1 T2
  by_cases h1 : c = d
  · subst h1
    by_cases h2 : x = y
    · subst h2
      have h2' : (x.toList == x.toList) = true := by simp
      have hS : Hid (sameR c c x.data.toList x.data.toList fs gs = decide (fs = gs)) := Lib.hid (by unfold sameR; simp)
      go_enter Tryz.func19, Tryz.ntmps19
      go_wp2_with fail
      refine (equal_fields va vb fs gs _ ha'.out hb'.out hf hg).mono ?_
      rintro e w' ⟨rfl, hbl⟩
      go_wp2_with fail
      go_ret
      refine ⟨?_, bstep BB.out hbl⟩
      rw [hS.out]; rfl
    · have h2' : (x.toList == y.toList) = false := by
        rw [beq_eq_false_iff_ne]
        intro e
        rw [ByteArray.toList_eq, ByteArray.toList_eq] at e
        exact h2 (by rw [← bs_self x, ← bs_self y, e])
      have h3 : decide (x.data.toList = y.data.toList) = false := decide_eq_false (fun e => h2 (by rw [← bs_self x, ← bs_self y, e]))
      have hS : Hid (sameR c c x.data.toList y.data.toList fs gs = false) := Lib.hid (by unfold sameR; rw [h3]; simp)
      clear h3
      go_enter Tryz.func19, Tryz.ntmps19
      go_wp2_with fail
      go_ret
      refine ⟨?_, BB.out⟩
      rw [hS.out]; rfl
  · have h1' : (c == d) = false := by rw [beq_eq_false_iff_ne]; exact h1
    have hS : Hid (sameR c d x.data.toList y.data.toList fs gs = false) := Lib.hid (by unfold sameR; rw [decide_eq_false h1]; simp)
    go_enter Tryz.func19, Tryz.ntmps19
    go_wp2_with fail
    go_ret
    refine ⟨?_, BB.out⟩
    rw [hS.out]; rfl
end Go.Proofs.YtdihhbkajcngeaaGreatDoor
namespace Go.Proofs.YtdihhbkajcngeaaGreatDoor
open Go.RowKit
theorem load_rep (w : World) (b : Nat) (t : TypeId) (x y z : Value) (h : w.heap[b]? = some (.cells #[x, y, z] t (0, 0))) : (loadVar 52 ⟨b, 0, none⟩).run Tryz.prog w = .ok (.agg #[x, y, z]) w :=
  run_loadVar_row w b t 52 #[x, y, z] (0, 0) _ h Tryz.underlying52 rfl (by kernel_rfl)
theorem three_set {w : World} {b : Nat} {x y z : Value} {t : TypeId} (h : w.heap[b]? = some (.cells #[x, y, z] t (0, 0))) (x' y' z' : Value) :
    (((w.setCell ⟨b, 0, none⟩ x').setCell ⟨b, 1, none⟩ y').setCell ⟨b, 2, none⟩ z').heap[b]? = some (.cells #[x', y', z'] t (0, 0)) := by
  simp [World.setCell, Array.getElem?_modify, h]
theorem three_set2 {w : World} {b : Nat} {x y z : Value} {t : TypeId} (h : w.heap[b]? = some (.cells #[x, y, z] t (0, 0))) (z' : Value) :
    (w.setCell ⟨b, 2, none⟩ z').heap[b]? = some (.cells #[x, y, z'] t (0, 0)) := by
  simp [World.setCell, Array.getElem?_modify, h]
theorem three_below {B : Nat} {w0 w : World} (h : Below B w0 w) (b : Nat) (hB : B ≤ b) (x' y' z' : Value) : Below B w0 (((w.setCell ⟨b, 0, none⟩ x').setCell ⟨b, 1, none⟩ y').setCell ⟨b, 2, none⟩ z') :=
  ((h.setCell (p := ⟨b, 0, none⟩) hB _).setCell (p := ⟨b, 1, none⟩) hB _).setCell (p := ⟨b, 2, none⟩) hB _
theorem three_facts {w : World} {b : Nat} {x y z : Value} {t : TypeId} (h : w.heap[b]? = some (.cells #[x, y, z] t (0, 0))) :
    w.cell? ⟨b, 0, none⟩ = some x ∧ w.cell? ⟨b, 1, none⟩ = some y ∧ w.cell? ⟨b, 2, none⟩ = some z ∧ w.frozen? ⟨b, 0, none⟩ = false ∧ w.frozen? ⟨b, 1, none⟩ = false ∧ w.frozen? ⟨b, 2, none⟩ = false := by
  refine ⟨?_, ?_, ?_, ?_, ?_, ?_⟩
  · unfold World.cell?; rw [h]; rfl
  · unfold World.cell?; rw [h]; rfl
  · unfold World.cell?; rw [h]; rfl
  · unfold World.frozen?; rw [h]; rfl
  · unfold World.frozen?; rw [h]; rfl
  · unfold World.frozen?; rw [h]; rfl
theorem rp_assert (v : Value) (w : World) : (Instr.typeAssert (.iface 26 v) 78 26 true).run Tryz.prog w = .ok (.tuple #[v, .bool true]) w := by kernel_rfl
theorem own_lowerF {w : World} {b1 b2 : Nat} {e : TypeId} {s n : Nat} {v : Value} {x : List Value} (h : w.ownsRow b1 e s v n x) (hb : b2 ≤ b1) : w.ownsRow b2 e s v n x := by
  refine ⟨h.1, ?_⟩
  rcases h.2 with h0 | ⟨b, cap, cur, e1, e2, e3⟩
  · exact .inl h0
  · exact .inr ⟨b, cap, cur, e1, Nat.le_trans hb e2, e3⟩
/-- what Parse returns -/
def RepV (s : ByteArray) (most : Int) (fv : Value) : Value := .tuple #[.agg #[.int .i64 (takC s most), fv, .string (bs (takB s most))], .int .i64 (takN s most), .int .i64 (takE s most : Nat)]
def ParsePost (s : ByteArray) (most : Int) (w : World) (e : Ending) (w' : World) : Prop :=
  ∃ fv, e = .returned (RepV s most fv) ∧ w'.ownsRow w.heap.size 73 2 fv (takF s most).length (fcells (takF s most)) ∧ Below w.heap.size w w'
theorem parse_bad (s : ByteArray) (most : Int) (e : Nat) (h : takE s most = e) (h0 : e ≠ 0) (w w' : World) (hb : Below w.heap.size w w') :
    ParsePost s most w (.returned (.tuple #[.agg #[.int .i64 0, .slice none 0 0, .string ⟨#[]⟩], .int .i64 0, .int .i64 (e : Nat)])) w' := by
  obtain ⟨h1, h2, h3, h4⟩ := tak_bad s most (by rw [h]; exact h0)
  refine ⟨.slice none 0 0, ?_, ?_, hb⟩
  · unfold RepV; rw [h1, h3, h4, h]; rfl
  · rw [h2]; exact World.ownsRow_nil _ _ _ _
theorem parse_good (s : ByteArray) (most : Int) (h : takE s most = 0) (w w' : World) (fv : Value) (hown : w'.ownsRow w.heap.size 73 2 fv (takF s most).length (fcells (takF s most))) (hb : Below w.heap.size w w') (C n : Int) (B : ByteArray) (h1 : takC s most = C) (h2 : takN s most = n) (h3 : bs (takB s most) = B) :
    ParsePost s most w (.returned (.tuple #[.agg #[.int .i64 C, fv, .string B], .int .i64 n, .int .i64 0])) w' := by
  refine ⟨fv, ?_, hown, hb⟩
  unfold RepV; rw [h1, h2, h3, h]; rfl
set_option maxRecDepth 100000 in
set_option maxHeartbeats 4000000 in
theorem reply_parse (s : ByteArray) (most : Int) (w : World) (hs : s.size ≤ 1000000) (hE : EnvF w) :
    Calls Tryz.prog 22 #[.string s, .int .i64 most] w (ParsePost s most w) := by
  have HH := Lib.hid (lines_head s (w.alloc (.cells #[.int .i64 0, .slice none 0 0, .string ⟨#[]⟩] 52)) (by omega))
  have hbd := headOf_bound s
  have hbd2 := headOf_bd s
  unfold HeadPost at HH
  obtain ⟨⟨ls, n, e⟩, hh⟩ : ∃ T, headOf s = T := ⟨_, rfl⟩
  rw [hh] at HH hbd hbd2
  have HHd := Lib.hid hh
  change (∀ x ∈ ls, x.length ≤ 256) ∧ ls.length ≤ 17 at hbd
  change e = 0 → 0 < n ∧ n ≤ (s.size : Int) at hbd2
  change Hid (Calls _ _ _ _ fun r w' => ∃ v, r = .returned (.tuple #[v, .int .i64 n, .int .i64 (e : Nat)]) ∧ w'.ownsRow _ 9 1 v ls.length (strs ls) ∧ _) at HH
  have HBD := Lib.hid hbd
  have HB0 := Lib.hid (below_agg3 w (.int .i64 0) (.slice none 0 0) (.string ⟨#[]⟩) 52)
  have HE := Lib.hid hE
  clear hE hbd hh
  by_cases he : e = 0
  case neg =>
    have HV : Hid (takE s most = e ∧ e ≠ 0) := Lib.hid ⟨by unfold takE; rw [HHd.out]; exact if_pos he, he⟩
    have tz : ((e : Int) != 0) = true := by rw [bne_iff_ne]; omega
    clear he hbd2
    go_enter Tryz.func22, Tryz.ntmps22
    go_wp2_with fail
    refine HH.out.mono ?_
    rintro r w1 ⟨v, rfl, -, hb1⟩
    have HB1 := Lib.hid hb1
    have HK := Lib.hid ((hb1.block w.heap.size (by simp)).trans (heap_alloc_new w _))
    obtain ⟨d0, d1, d2, g0, g1, g2⟩ := three_facts HK.out
    clear hb1
    go_wp2_with fail
    refine ret_cell3 (A := ⟨w.heap.size, 0, none⟩) rfl (load_rep _ _ _ _ _ _ (three_set HK.out _ _ _)) rfl rfl rfl rfl ?_
    exact parse_bad s most e HV.out.1 HV.out.2 w _ (three_below (bstep HB0.out HB1.out) _ (Nat.le_refl _) _ _ _)
  subst he
  obtain ⟨n1, n2⟩ := hbd2 rfl
  obtain ⟨nx, rfl⟩ : ∃ nx : Nat, n = nx := ⟨n.toNat, by omega⟩
  have hh2 : Hid (∀ q, takE s most = q ↔ (if hdE ls ≠ 0 then hdE ls else if most < (hdN ls : Int) then 5 else if (s.size : Int) - nx < (hdN ls : Int) then 3 else 0) = q) := Lib.hid (fun q => by unfold takE; rw [HHd.out]; rfl)
  clear hbd2
  have HHD : Hid (∀ (w1 : World) (v : Value), Below (w.alloc (.cells #[.int .i64 0, .slice none 0 0, .string ⟨#[]⟩] 52)).heap.size (w.alloc (.cells #[.int .i64 0, .slice none 0 0, .string ⟨#[]⟩] 52)) w1 → w1.ownsRow (w.alloc (.cells #[.int .i64 0, .slice none 0 0, .string ⟨#[]⟩] 52)).heap.size 9 1 v ls.length (strs ls) →
      Calls Tryz.prog 34 #[.pointer (some ⟨w.heap.size, 0, none⟩), v] w1 (HdPost w.heap.size w1 (.string ⟨#[]⟩) ls)) := Lib.hid (fun w1 v h1 h2 => by
    have hK := (h1.block w.heap.size (by simp)).trans (heap_alloc_new w _)
    refine reply_head w.heap.size w1 v _ ls hK (HoldsS.of_own h2) HBD.out.2 HBD.out.1 ⟨w, HE.out, rfl, HB0.out.trans (h1.mono (by simp))⟩ (fun e => ?_)
    have := (h2.lt _ e).1
    simp at this
    omega)
  go_enter Tryz.func22, Tryz.ntmps22
  go_wp2_with fail
  refine HH.out.mono ?_
  rintro r w1 ⟨v, rfl, hown, hb1⟩
  have HB1 := Lib.hid (bstep HB0.out hb1)
  have HC := Lib.hid (HHD.out w1 v hb1 hown)
  have hRl : w.heap.size < w1.heap.size := by have := hb1.size; simp at this; omega
  clear hb1 hown HHD HH
  go_wp2_with fail
  refine HC.out.mono ?_
  rintro r w2 (⟨h0, rfl, ⟨c, f, hR2⟩, hg2⟩ | ⟨h0, rfl, ⟨f, hR2, hown2⟩, hg2⟩)
  · have HV : Hid (takE s most = hdE ls ∧ hdE ls ≠ 0) := Lib.hid ⟨(hh2.out _).2 (if_pos h0), h0⟩
    have HIs := Lib.hid (fun w => is_errno (hdE ls : Int) w)
    have hta := fun w => rp_assert (.int .i64 (hdE ls : Int)) w
    have HB2 := Lib.hid (HB1.out.trans (hg2.toBelow (Nat.le_of_lt hRl)))
    have HK := Lib.hid hR2
    obtain ⟨d0, d1, d2, g0, g1, g2⟩ := three_facts HK.out
    clear h0 hg2 hR2
    generalize hdE ls = E at *
    go_wp2_with fail
    refine (HIs.out _).mono ?_
    rintro r w' ⟨rfl, rfl⟩
    go_wp2_with fail
    refine ret_cell3 (A := ⟨w.heap.size, 0, none⟩) rfl (load_rep _ _ _ _ _ _ (three_set HK.out _ _ _)) rfl rfl rfl rfl ?_
    exact parse_bad s most _ HV.out.1 HV.out.2 w _ (three_below HB2.out _ (Nat.le_refl _) _ _ _)
  · have HIs := Lib.hid (fun w => is_taken w)
    have HB2 := Lib.hid (HB1.out.trans (hg2.toBelow (Nat.le_of_lt hRl)))
    obtain ⟨af, cf, rfl⟩ := slice_of_own hown2
    have HO2 := Lib.hid hown2
    have HK := Lib.hid hR2
    have HKB : Hid (w2.heap[w.heap.size]? = some (.cells #[.int .i64 (hdC ls), .slice af (restF (fldL ls.tail)).length cf, .string ⟨#[]⟩] 52 (0, 0))) := Lib.hid hR2
    obtain ⟨d0, d1, d2, g0, g1, g2⟩ := three_facts HKB.out
    obtain ⟨rs, hrs⟩ : ∃ rs, restF (fldL ls.tail) = rs := ⟨_, rfl⟩
    have HRS := Lib.hid hrs
    rw [hrs] at HO2 HKB d1
    clear hrs
    obtain ⟨N, hN⟩ : ∃ N, hdN ls = N := ⟨_, rfl⟩
    obtain ⟨C, hC⟩ : ∃ C, hdC ls = C := ⟨_, rfl⟩
    have HNC := Lib.hid (And.intro hN hC)
    have h0' := Lib.hid h0
    rw [hN]
    rw [hC] at d0 HKB
    clear h0 hg2 hR2 hown2 HK hN hC HC
    by_cases hm : most < (N : Int)
    · have HV : Hid (takE s most = 5) := Lib.hid ((hh2.out 5).2 (by rw [if_neg (by rw [h0'.out]; simp), HNC.out.1, if_pos hm]))
      have tm : decide ((N : Int) > most) = true := decide_eq_true (by omega)
      clear hm
      go_wp2_with fail
      refine (HIs.out _).mono ?_
      rintro r w' ⟨rfl, rfl⟩
      go_wp2_with fail
      refine ret_cell3 (A := ⟨w.heap.size, 0, none⟩) rfl (load_rep _ _ _ _ _ _ (three_set HKB.out _ _ _)) rfl rfl rfl rfl ?_
      exact parse_bad s most 5 HV.out (by decide) w _ (three_below HB2.out _ (Nat.le_refl _) _ _ _)
    have tm : decide ((N : Int) > most) = false := decide_eq_false (by omega)
    have tw : IntKind.i64.wrap ((s.size : Int) - (nx : Int)) = (s.size : Int) - (nx : Int) := by rw [IntKind.wrap_i64]; omega
    by_cases hsh : (s.size : Int) - (nx : Int) < (N : Int)
    · have HV : Hid (takE s most = 3) := Lib.hid ((hh2.out 3).2 (by rw [if_neg (by rw [h0'.out]; simp), HNC.out.1, if_neg hm, if_pos hsh]))
      have ts : decide ((N : Int) > (s.size : Int) - (nx : Int)) = true := decide_eq_true (by omega)
      clear hm hsh
      go_wp2_with fail
      refine (HIs.out _).mono ?_
      rintro r w' ⟨rfl, rfl⟩
      go_wp2_with fail
      refine ret_cell3 (A := ⟨w.heap.size, 0, none⟩) rfl (load_rep _ _ _ _ _ _ (three_set HKB.out _ _ _)) rfl rfl rfl rfl ?_
      exact parse_bad s most 3 HV.out (by decide) w _ (three_below HB2.out _ (Nat.le_refl _) _ _ _)
    · have hz : takE s most = 0 := (hh2.out 0).2 (by rw [if_neg (by rw [h0'.out]; simp), HNC.out.1, if_neg hm, if_neg hsh])
      have HV : Hid (takE s most = 0 ∧ takC s most = C ∧ takF s most = restF (fldL ls.tail) ∧ takN s most = (nx : Int) + (N : Int) ∧ bs (takB s most) = s.extract nx (nx + N)) := Lib.hid ⟨hz, by unfold takC; rw [if_pos hz, HHd.out]; exact HNC.out.2, by unfold takF; rw [if_pos hz, HHd.out], by unfold takN; rw [if_pos hz, HHd.out]; exact congrArg (fun q : Nat => (nx : Int) + (q : Int)) HNC.out.1, by
        unfold takB; rw [if_pos hz, HHd.out, extract_bs]
        show bs ((s.data.toList.take ((nx : Int).toNat + hdN ls)).drop (nx : Int).toNat) = _
        rw [HNC.out.1, Int.toNat_natCast]⟩
      have ts : decide ((N : Int) > (s.size : Int) - (nx : Int)) = false := decide_eq_false (by omega)
      have ta : IntKind.i64.wrap ((nx : Int) + (N : Int)) = (nx : Int) + (N : Int) := by rw [IntKind.wrap_i64]; omega
      have hle : nx + N ≤ s.size := by omega
      have hle2 : (nx : Int) + (N : Int) ≤ (s.size : Int) := by omega
      clear hm hsh hz
      go_wp2_with fail
      refine (HIs.out _).mono ?_
      rintro r w' ⟨rfl, rfl⟩
      go_wp2_with fail
      refine ret_cell3 (A := ⟨w.heap.size, 0, none⟩) rfl (load_rep _ _ _ _ _ _ (three_set (three_set2 HKB.out _) _ _ _)) rfl rfl rfl rfl ?_
      refine parse_good s most HV.out.1 w _ _ ?_ (three_below (HB2.out.setCell (p := ⟨w.heap.size, 2, none⟩) (Nat.le_refl _) _) _ (Nat.le_refl _) _ _ _) _ _ _ HV.out.2.1 HV.out.2.2.2.1 HV.out.2.2.2.2
      rw [HV.out.2.2.1, HRS.out]
      exact own_lowerF (ownsRow_setCell_below (ownsRow_setCell_below (ownsRow_setCell_below (ownsRow_setCell_below HO2.out (a := ⟨w.heap.size, 2, none⟩) hRl _) (a := ⟨w.heap.size, 0, none⟩) hRl _) (a := ⟨w.heap.size, 1, none⟩) hRl _) (a := ⟨w.heap.size, 2, none⟩) hRl _) (Nat.le_of_lt hRl)
end Go.Proofs.YtdihhbkajcngeaaGreatDoor
namespace Go.Proofs.YtdihhbkajcngeaaGreatDoor
open Go.RowKit

/-- what is taken off bytes: the replies, what is left, what ended it (0: nothing) -/
def feedR : Nat → Int → List UInt8 → List (Int × List (List UInt8 × List UInt8) × List UInt8) × List UInt8 × Nat
  | 0, _, l => ([], l, 0)
  | f + 1, m, l => if takE (bs l) m = 0 then ((takC (bs l) m, takF (bs l) m, takB (bs l) m) :: (feedR f m (l.drop (takN (bs l) m).toNat)).1, (feedR f m (l.drop (takN (bs l) m).toNat)).2) else if takE (bs l) m = 3 then ([], l, 0) else ([], [], takE (bs l) m)
def feedOf (m : Int) (l : List UInt8) : List (Int × List (List UInt8 × List UInt8) × List UInt8) × List UInt8 × Nat := feedR (l.length + 1) m l
theorem tak_n (l : List UInt8) (m : Int) (h : takE (bs l) m = 0) : 1 ≤ (takN (bs l) m).toNat ∧ (takN (bs l) m).toNat ≤ l.length ∧ takN (bs l) m = ((takN (bs l) m).toNat : Int) := by
  obtain ⟨-, h2, h3, -⟩ := rep_again (bs l) m h
  rw [bs_size] at h3
  omega
theorem feedR_more (m : Int) : ∀ (f : Nat) (l : List UInt8), l.length < f → feedR f m l = feedR (f + 1) m l := by
  intro f
  induction f with
  | zero => intro l h; exact absurd h (Nat.not_lt_zero _)
  | succ f ih =>
    intro l h
    rw [feedR, feedR]
    by_cases h0 : takE (bs l) m = 0
    · rw [if_pos h0, if_pos h0]
      obtain ⟨n1, n2, n3⟩ := tak_n l m h0
      rw [ih (l.drop (takN (bs l) m).toNat) (by rw [List.length_drop]; omega)]
    · rw [if_neg h0, if_neg h0]
theorem feedR_all (m : Int) (l : List UInt8) (f : Nat) (h : l.length < f) : feedR f m l = feedOf m l := by
  unfold feedOf
  obtain ⟨k, rfl⟩ : ∃ k, f = l.length + 1 + k := ⟨f - (l.length + 1), by omega⟩
  clear h
  induction k with
  | zero => rfl
  | succ k ih => rw [← ih, show l.length + 1 + (k + 1) = l.length + 1 + k + 1 by omega, ← feedR_more m _ l (by omega)]
theorem feed_more (m : Int) (l : List UInt8) (h : takE (bs l) m = 0) : feedOf m l = ((takC (bs l) m, takF (bs l) m, takB (bs l) m) :: (feedOf m (l.drop (takN (bs l) m).toNat)).1, (feedOf m (l.drop (takN (bs l) m).toNat)).2) := by
  obtain ⟨n1, n2, n3⟩ := tak_n l m h
  have e := feedR_all m (l.drop (takN (bs l) m).toNat) l.length (by rw [List.length_drop]; omega)
  unfold feedOf at e ⊢
  rw [feedR, if_pos h, e]
theorem feed_short (m : Int) (l : List UInt8) (h : takE (bs l) m = 3) : feedOf m l = ([], l, 0) := by
  unfold feedOf
  rw [feedR, if_neg (by rw [h]; decide), if_pos h]
theorem feed_bad (m : Int) (l : List UInt8) (h : takE (bs l) m ≠ 0) (h3 : takE (bs l) m ≠ 3) : feedOf m l = ([], [], takE (bs l) m) := by
  unfold feedOf
  rw [feedR, if_neg h, if_neg h3]
theorem feed_ind (m : Int) (P : List UInt8 → Prop) (hp : ∀ l, (takE (bs l) m = 0 → P (l.drop (takN (bs l) m).toNat)) → P l) : ∀ l, P l := by
  intro l
  obtain ⟨n, hn⟩ : ∃ n, l.length ≤ n := ⟨_, Nat.le_refl _⟩
  induction n generalizing l with
  | zero =>
    refine hp l (fun h => ?_)
    have := tak_n l m h
    omega
  | succ n ih =>
    refine hp l (fun h => ih _ ?_)
    have := tak_n l m h
    rw [List.length_drop]; omega
/-- what is left is too short, or nothing -/
def RestOk (m : Int) (l : List UInt8) : Prop := ((feedOf m l).2.2 = 0 → takE (bs (feedOf m l).2.1) m = 3) ∧ ((feedOf m l).2.2 ≠ 0 → (feedOf m l).2.1 = []) ∧ (feedOf m l).2.1.length ≤ l.length ∧ (feedOf m l).2.2 ≠ 3
theorem feed_rest (m : Int) : ∀ l, RestOk m l := by
  refine feed_ind m (RestOk m) ?_
  intro l ih
  unfold RestOk at ih ⊢
  by_cases h0 : takE (bs l) m = 0
  · have ih0 := ih h0
    rw [feed_more m l h0]
    rw [List.length_drop] at ih0
    generalize feedOf m (l.drop (takN (bs l) m).toNat) = R at ih0 ⊢
    obtain ⟨i1, i2, i3, i4⟩ := ih0
    exact ⟨i1, i2, Nat.le_trans i3 (Nat.sub_le _ _), i4⟩
  · by_cases h3 : takE (bs l) m = 3
    · rw [feed_short m l h3]; exact ⟨fun _ => h3, fun h => absurd rfl h, Nat.le_refl _, show (0 : Nat) ≠ 3 by decide⟩
    · rw [feed_bad m l h0 h3]; exact ⟨fun h => absurd h h0, fun _ => rfl, Nat.zero_le _, h3⟩
/-- a scan that is not too short does not hang on what stands behind -/
theorem scan_behind (l b : List UInt8) : ∀ n, (scan l n).2 ≠ 3 → scan (l ++ b) n = scan l n := by
  induction l with
  | nil => intro n h; exact absurd rfl h
  | cons c r ih =>
    intro n h
    rw [List.cons_append, scan, scan]
    rw [scan] at h
    by_cases h1 : c = 13 ∧ r = []
    · rw [if_pos h1] at h; exact absurd rfl h
    · rw [if_neg h1] at h ⊢
      have h1' : ¬ (c = 13 ∧ r ++ b = []) := fun e => h1 ⟨e.1, (List.append_eq_nil_iff.1 e.2).1⟩
      rw [if_neg h1']
      by_cases h2 : c = 13 ∧ r.head? = some 10
      · have h2' : c = 13 ∧ (r ++ b).head? = some 10 := ⟨h2.1, by cases r with
          | nil => simp at h2
          | cons d t => simpa using h2.2⟩
        rw [if_pos h2, if_pos h2']
      · rw [if_neg h2] at h ⊢
        have h2' : ¬ (c = 13 ∧ (r ++ b).head? = some 10) := fun e => by
          cases r with
          | nil => exact h1 ⟨e.1, rfl⟩
          | cons d t => exact h2 ⟨e.1, by simpa using e.2⟩
        rw [if_neg h2']
        by_cases h3 : plainB c.toNat = false
        · rw [if_pos h3, if_pos h3]
        · rw [if_neg h3] at h ⊢
          rw [if_neg h3]
          by_cases h4 : n = 256
          · rw [if_pos h4, if_pos h4]
          · rw [if_neg h4] at h ⊢
            rw [if_neg h4]
            exact ih _ h
theorem take_behind (l b : List UInt8) (a : Int) (h0 : 0 ≤ a) (h1 : a ≤ (l.length : Int)) (h : takeErr (bs l) a ≠ 3) : takeErr (bs (l ++ b)) a = takeErr (bs l) a ∧ takeLine (bs (l ++ b)) a = takeLine (bs l) a ∧ takeNext (bs (l ++ b)) a = takeNext (bs l) a := by
  obtain ⟨i, rfl⟩ : ∃ i : Nat, a = i := ⟨a.toNat, by omega⟩
  have hi : i ≤ l.length := by omega
  have e1 : takeErr (bs l) i = (scanAt l i 0).2 := by rw [takeErr_in (bs l) i (by rw [bs_size]; omega), bs_data]
  have e2 : takeErr (bs (l ++ b)) i = (scanAt (l ++ b) i 0).2 := by rw [takeErr_in (bs (l ++ b)) i (by rw [bs_size, List.length_append]; omega), bs_data]
  have es : scanAt (l ++ b) i 0 = scanAt l i 0 := by
    unfold scanAt at e1 ⊢
    rw [List.drop_append_of_le_length hi]
    exact scan_behind _ b 0 (by rw [← e1]; exact h)
  have eE : takeErr (bs (l ++ b)) i = takeErr (bs l) i := by rw [e1, e2, es]
  refine ⟨eE, ?_, ?_⟩
  · unfold takeLine
    rw [eE]
    split
    · rename_i hz
      rw [bs_data, bs_data, Int.toNat_natCast, es, extract_bs, extract_bs, bs_data, bs_data]
      congr 1
      have hz2 : (scan (l.drop i) 0).2 = 0 := e1.symm.trans hz
      have := scan_zero (l.drop i) 0 hz2
      rw [List.length_drop] at this
      rw [List.take_append_of_le_length (by unfold scanAt; omega)]
    · rfl
  · unfold takeNext
    rw [eE, bs_data, bs_data, Int.toNat_natCast, es]
theorem headR_behind (l b : List UInt8) : ∀ (f : Nat) (a : Int) (xs : List (List UInt8)), 0 ≤ a → a ≤ (l.length : Int) → (headR f (bs l) a xs).2.2 ≠ 3 → headR f (bs (l ++ b)) a xs = headR f (bs l) a xs := by
  intro f
  induction f with
  | zero => intro a xs _ _ _; rfl
  | succ f ih =>
    intro a xs h0 h1 h
    by_cases he : takeErr (bs l) a = 3
    · rw [headR_err f (bs l) a xs (by rw [he]; decide)] at h
      exact absurd he h
    · obtain ⟨t1, t2, t3⟩ := take_behind l b a h0 h1 he
      by_cases hz : takeErr (bs l) a = 0
      · by_cases hm : (takeLine (bs l) a).toList.isEmpty = true
        · rw [headR_end f (bs l) a xs hz hm, headR_end f (bs (l ++ b)) a xs (t1.trans hz) (by rw [t2]; exact hm), t3]
        · rw [Bool.not_eq_true] at hm
          by_cases h17 : xs.length = 17
          · rw [headR_many f (bs l) a xs hz hm h17, headR_many f (bs (l ++ b)) a xs (t1.trans hz) (by rw [t2]; exact hm) h17]
          · rw [headR_more f (bs l) a xs hz hm h17] at h ⊢
            rw [headR_more f (bs (l ++ b)) a xs (t1.trans hz) (by rw [t2]; exact hm) h17, t2, t3]
            obtain ⟨b1, b2⟩ := take_next_bd (bs l) a hz h0
            rw [bs_size] at b2
            exact ih _ _ (by omega) b2 h
      · rw [headR_err f (bs l) a xs hz, headR_err f (bs (l ++ b)) a xs (by rw [t1]; exact hz), t1]
theorem head_behind (l b : List UInt8) (h : (headOf (bs l)).2.2 ≠ 3) : headOf (bs (l ++ b)) = headOf (bs l) := headR_behind l b 18 0 [] (Int.le_refl _) (by omega) h
/-- what is not too short does not hang on what stands behind -/
theorem tak_behind (l b : List UInt8) (m : Int) (h : takE (bs l) m ≠ 3) : takE (bs (l ++ b)) m = takE (bs l) m ∧ takC (bs (l ++ b)) m = takC (bs l) m ∧ takF (bs (l ++ b)) m = takF (bs l) m ∧ takB (bs (l ++ b)) m = takB (bs l) m ∧ takN (bs (l ++ b)) m = takN (bs l) m := by
  have hh : (headOf (bs l)).2.2 ≠ 3 := fun e => h (by unfold takE; rw [e]; rfl)
  have hd := head_behind l b hh
  have hE : takE (bs (l ++ b)) m = takE (bs l) m := by
    unfold takE at h ⊢
    rw [hd]
    split
    · rfl
    rename_i q1
    rw [if_neg q1] at h
    split
    · rfl
    rename_i q2
    rw [if_neg q2] at h
    split
    · rfl
    rename_i q3
    rw [if_neg q3] at h
    split at h
    · exact absurd rfl h
    rename_i q4
    rw [bs_size] at q4
    rw [if_neg (by rw [bs_size, List.length_append]; omega), if_neg (by rw [bs_size]; omega)]
  by_cases hz : takE (bs l) m = 0
  · obtain ⟨z1, z2, z3, z4⟩ := tak_zero (bs l) m hz
    obtain ⟨n1, n2⟩ := headOf_bd (bs l) z1
    have hz2 := hE.trans hz
    refine ⟨hE, ?_, ?_, ?_, ?_⟩
    · unfold takC; rw [if_pos hz, if_pos hz2, hd]
    · unfold takF; rw [if_pos hz, if_pos hz2, hd]
    · unfold takB; rw [if_pos hz, if_pos hz2, hd, bs_data, bs_data]
      rw [bs_size] at z4 n2
      rw [List.take_append_of_le_length (by omega)]
    · unfold takN; rw [if_pos hz, if_pos hz2, hd]
  · obtain ⟨c1, c2, c3, c4⟩ := tak_bad (bs l) m hz
    obtain ⟨d1, d2, d3, d4⟩ := tak_bad (bs (l ++ b)) m (by rw [hE]; exact hz)
    exact ⟨hE, d1.trans c1.symm, d2.trans c2.symm, d3.trans c3.symm, d4.trans c4.symm⟩
/-- the pieces do not matter -/
def PieceOk (m : Int) (b l : List UInt8) : Prop := feedOf m (l ++ b) = if (feedOf m l).2.2 = 0 then ((feedOf m l).1 ++ (feedOf m ((feedOf m l).2.1 ++ b)).1, (feedOf m ((feedOf m l).2.1 ++ b)).2) else feedOf m l
theorem feed_behind (m : Int) (b : List UInt8) : ∀ l, PieceOk m b l := by
  refine feed_ind m (PieceOk m b) ?_
  intro l ih
  unfold PieceOk at ih ⊢
  by_cases h0 : takE (bs l) m = 0
  · obtain ⟨t1, t2, t3, t4, t5⟩ := tak_behind l b m (by rw [h0]; decide)
    obtain ⟨n1, n2, n3⟩ := tak_n l m h0
    have ih0 := ih h0
    rw [feed_more m (l ++ b) (t1.trans h0), t2, t3, t4, t5, List.drop_append_of_le_length n2, ih0, feed_more m l h0]
    clear ih0 ih
    generalize feedOf m (l.drop (takN (bs l) m).toNat) = R
    obtain ⟨R1, R2, R3⟩ := R
    generalize feedOf m (R2 ++ b) = Q
    by_cases hz : R3 = 0
    · rw [if_pos hz, if_pos hz]; rfl
    · rw [if_neg hz, if_neg hz]
  · by_cases h3 : takE (bs l) m = 3
    · rw [feed_short m l h3, if_pos rfl]; rfl
    · obtain ⟨t1, -⟩ := tak_behind l b m h3
      rw [feed_bad m l h0 h3, feed_bad m (l ++ b) (by rw [t1]; exact h0) (by rw [t1]; exact h3), t1, if_neg h0]
end Go.Proofs.YtdihhbkajcngeaaGreatDoor
namespace Go.Proofs.YtdihhbkajcngeaaGreatDoor
open Go.RowKit
theorem rep_cutM (c : Int) (fs : List (List UInt8 × List UInt8)) (b : List UInt8) (s : ByteArray) (k : Nat) (most : Int) (hm : (b.length : Int) ≤ most) (h : repE c fs = 0) (hn : b.length ≤ 1000000) (hk : k < (repL c fs b).length) (hs : s.data.toList = (repL c fs b).take k) : takE s most = 3 := by
  obtain ⟨g1, g2⟩ := good_lines c fs b.length h hn
  by_cases hb : k < (body (repLines c fs b.length)).length + 2
  · have hs2 : s.data.toList = (body (repLines c fs b.length) ++ [13, 10]).take k := by
      rw [hs]; unfold repL
      have e5 : body (repLines c fs b.length) ++ 13 :: 10 :: b = (body (repLines c fs b.length) ++ [13, 10]) ++ b := by simp
      rw [e5, List.take_append_of_le_length (by simp; omega)]
    have := head_cut s (repLines c fs b.length) [] [] 18 k g1 (by simpa using g2) (by simp) hb (by rw [hs2]; simp)
    have hd : headOf s = ([], 0, 3) := by
      unfold headOf
      rw [show (0 : Int) = ((([] : List UInt8).length : Nat) : Int) from rfl, this]
      rfl
    unfold takE
    rw [hd]
    rfl
  · have hl : (repL c fs b).length = (body (repLines c fs b.length)).length + 2 + b.length := by unfold repL; simp only [List.length_append, List.length_cons]; omega
    have hd := head_rep c fs b (b.take (k - ((body (repLines c fs b.length)).length + 2))) s h hn (by
      rw [hs]; unfold repL
      have e5 : ∀ x, body (repLines c fs b.length) ++ 13 :: 10 :: x = (body (repLines c fs b.length) ++ [13, 10]) ++ x := fun x => by simp
      rw [e5, e5, List.take_append, List.take_of_length_le (by simp; omega)]
      simp)
    obtain ⟨e1, e2, e3, e4⟩ := hd_rep c fs b.length h hn
    have hsz : s.size = k := by rw [← size_len, hs, List.length_take]; omega
    unfold takE
    rw [hd]
    simp only [e1, e3]
    rw [if_neg (by simp), if_neg (by simp), if_neg (by omega), if_pos (by omega)]
theorem tak_nil (m : Int) : takE (bs []) m = 3 := rfl
theorem feed_nil (m : Int) : feedOf m [] = ([], [], 0) := feed_short m [] (tak_nil m)
theorem feed_cut (m : Int) (c : Int) (fs : List (List UInt8 × List UInt8)) (b : List UInt8) (k : Nat) (hm : (b.length : Int) ≤ m) (h : repE c fs = 0) (hn : b.length ≤ 1000000) (hk : k < (repL c fs b).length) : feedOf m ((repL c fs b).take k) = ([], (repL c fs b).take k, 0) :=
  feed_short m _ (rep_cutM c fs b _ k m hm h hn hk (bs_data _))
theorem feed_print (m : Int) (c : Int) (fs : List (List UInt8 × List UInt8)) (b : List UInt8) (hm : (b.length : Int) ≤ m) (h : repE c fs = 0) (hn : b.length ≤ 1000000) : feedOf m (repL c fs b) = ([(c, fs, b)], [], 0) := by
  obtain ⟨t1, t2, t3, t4, t5⟩ := rep_take c fs b [] (bs (repL c fs b)) m h hn (by rw [bs_data, List.append_nil]) hm
  rw [feed_more m _ t1, t2, t3, t4, t5, Int.toNat_natCast, List.drop_length, feed_nil]
end Go.Proofs.YtdihhbkajcngeaaGreatDoor
namespace Go.Proofs.YtdihhbkajcngeaaGreatDoor
open Go.RowKit

/-- a feed in memory: made, its bound, what is left, what ended it -/
structure FAt (w : World) (p : Nat) (m : Int) (l : List UInt8) (e : Nat) (v : Value) : Prop where
  blk : w.heap[p]? = some (.cells #[.bool true, .int .i64 m, v, .int .i64 (e : Nat)] 55 (0, 0))
  own : w.ownsRow 0 5 1 v l.length (bytesV l)
/-- the blocks of a feed -/
def FS (p : Nat) (v : Value) (g : Nat) : Prop := g = p ∨ v.ownBlock = some g
theorem FAt.lt {w : World} {p : Nat} {m : Int} {l : List UInt8} {e : Nat} {v : Value} (h : FAt w p m l e v) : p < w.heap.size := (Array.getElem?_eq_some_iff.1 h.blk).1
theorem FAt.keep {w w' : World} {p : Nat} {m : Int} {l : List UInt8} {e : Nat} {v : Value} (h : FAt w p m l e v) (hk : ∀ g, FS p v g → w'.heap[g]? = w.heap[g]?) : FAt w' p m l e v :=
  ⟨(hk p (.inl rfl)).trans h.blk, own_of_block h.own (fun g hg => hk g (.inr hg))⟩
theorem FAt.slt {w : World} {p : Nat} {m : Int} {l : List UInt8} {e : Nat} {v : Value} (h : FAt w p m l e v) : ∀ g, FS p v g → g < w.heap.size := fun g hg => by
  rcases hg with rfl | hg
  · exact h.lt
  · exact (h.own.lt g hg).2
theorem FAt.below {w w' : World} {p : Nat} {m : Int} {l : List UInt8} {e : Nat} {v : Value} (h : FAt w p m l e v) (hb : Below w.heap.size w w') : FAt w' p m l e v :=
  h.keep (fun g hg => hb.block g (h.slt g hg))
theorem FAt.touch {w w' : World} {p : Nat} {m : Int} {l : List UInt8} {e : Nat} {v : Value} {S : Nat → Prop} (h : FAt w p m l e v) (ht : Touch S w w') (hd : ∀ g, FS p v g → ¬ S g) : FAt w' p m l e v :=
  h.keep (fun g hg => ht.block g (h.slt g hg) (hd g hg))
theorem FAt.apart {w : World} {p : Nat} {m : Int} {l : List UInt8} {e : Nat} {v : Value} (h : FAt w p m l e v) : v.ownBlock ≠ some p := own_not_row h.own h.blk (by decide)
theorem FAt.cells {w : World} {p : Nat} {m : Int} {l : List UInt8} {e : Nat} {v : Value} (h : FAt w p m l e v) :
    w.cell? ⟨p, 0, none⟩ = some (.bool true) ∧ w.cell? ⟨p, 1, none⟩ = some (.int .i64 m) ∧ w.cell? ⟨p, 2, none⟩ = some v ∧ w.cell? ⟨p, 3, none⟩ = some (.int .i64 (e : Nat)) ∧ w.frozen? ⟨p, 2, none⟩ = false ∧ w.frozen? ⟨p, 3, none⟩ = false := by
  have k := h.blk
  refine ⟨?_, ?_, ?_, ?_, ?_, ?_⟩ <;> first | (unfold World.cell?; rw [k]; rfl) | (unfold World.frozen?; rw [k]; rfl)
theorem row_set4 {w : World} {b : Nat} {x y z u : Value} {t : TypeId} (h : w.heap[b]? = some (.cells #[x, y, z, u] t (0, 0))) (z' : Value) : (w.setCell ⟨b, 2, none⟩ z').heap[b]? = some (.cells #[x, y, z', u] t (0, 0)) := by
  simp [World.setCell, Array.getElem?_modify, h]
theorem row_set5 {w : World} {b : Nat} {x y z u : Value} {t : TypeId} (h : w.heap[b]? = some (.cells #[x, y, z, u] t (0, 0))) (u' : Value) : (w.setCell ⟨b, 3, none⟩ u').heap[b]? = some (.cells #[x, y, z, u'] t (0, 0)) := by
  simp [World.setCell, Array.getElem?_modify, h]
theorem set_far {w : World} {a : Addr} {v : Value} {k : Nat} (h : k ≠ a.block) : (w.setCell a v).heap[k]? = w.heap[k]? := Below.heap_setCell _ _ _ _ h

/-- the cells of replies: their fields' slices lie beside -/
def rcells : List (Int × List (List UInt8 × List UInt8) × List UInt8) → List Value → List Value
  | r :: rs, f :: fs => .int .i64 r.1 :: f :: .string (bs r.2.2) :: rcells rs fs
  | _, _ => []
theorem rcells_length (rs : List (Int × List (List UInt8 × List UInt8) × List UInt8)) : ∀ fs, fs.length = rs.length → (rcells rs fs).length = rs.length * 3 := by
  induction rs with
  | nil => intro fs h; cases fs with
    | nil => rfl
    | cons f t => simp at h
  | cons r t ih => intro fs h; cases fs with
    | nil => simp at h
    | cons f u => show (rcells t u).length + 1 + 1 + 1 = (t.length + 1) * 3; rw [ih u (by simpa using h)]; omega
theorem rcells_snoc (rs : List (Int × List (List UInt8 × List UInt8) × List UInt8)) (r : Int × List (List UInt8 × List UInt8) × List UInt8) (f : Value) : ∀ fs, fs.length = rs.length → rcells (rs ++ [r]) (fs ++ [f]) = rcells rs fs ++ [.int .i64 r.1, f, .string (bs r.2.2)] := by
  induction rs with
  | nil => intro fs h; cases fs with
    | nil => rfl
    | cons f t => simp at h
  | cons x t ih => intro fs h; cases fs with
    | nil => simp at h
    | cons y u => show _ :: _ :: _ :: rcells (t ++ [r]) (u ++ [f]) = _; rw [ih u (by simpa using h)]; rfl
theorem rcells_get (rs : List (Int × List (List UInt8 × List UInt8) × List UInt8)) : ∀ (fs : List Value) (h : fs.length = rs.length) (j : Nat) (hj : j < rs.length), (rcells rs fs)[j * 3]? = some (.int .i64 rs[j].1) ∧ (rcells rs fs)[j * 3 + 1]? = some (fs[j]'(by omega)) ∧ (rcells rs fs)[j * 3 + 2]? = some (.string (bs rs[j].2.2)) := by
  induction rs with
  | nil => intro fs h j hj; exact absurd hj (Nat.not_lt_zero _)
  | cons r t ih => intro fs h j hj; cases fs with
    | nil => simp at h
    | cons f u =>
      cases j with
      | zero => exact ⟨rfl, rfl, rfl⟩
      | succ j =>
        have := ih u (by simpa using h) j (by simpa using hj)
        rw [show (j + 1) * 3 = j * 3 + 1 + 1 + 1 by omega]
        exact this
/-- a row of replies; the rows of their fields -/
def ROwn (w : World) (B : Nat) (v : Value) (rs : List (Int × List (List UInt8 × List UInt8) × List UInt8)) : Prop :=
  ∃ fs : List Value, fs.length = rs.length ∧ w.ownsRow B 52 3 v rs.length (rcells rs fs) ∧ ∀ j (hj : j < rs.length) (hf : j < fs.length), ∃ a c, fs[j] = .slice a (rs[j].2.1).length c ∧ w.ownsRow 0 73 2 fs[j] (rs[j].2.1).length (fcells rs[j].2.1)
theorem ROwn.nil (w : World) (B : Nat) : ROwn w B (.slice none 0 0) [] := ⟨[], rfl, World.ownsRow_nil _ _ _ _, fun j hj => absurd hj (Nat.not_lt_zero _)⟩
/-- blocks of replies and of fields stay -/
def TagKeep (w w' : World) : Prop := ∀ (g : Nat) (cur : Array Value) (t : TypeId), w.heap[g]? = some (.cells cur t (0, 0)) → (t = 52 ∨ t = 73) → w'.heap[g]? = w.heap[g]?
theorem TagKeep.of_below {w w' : World} (h : Below w.heap.size w w') : TagKeep w w' := fun g cur t hg _ => h.block g (Array.getElem?_eq_some_iff.1 hg).1
theorem TagKeep.trans {a b c : World} (h : TagKeep a b) (k : TagKeep b c) : TagKeep a c := fun g cur t hg ht => (k g cur t ((h g cur t hg ht).trans hg) ht).trans (h g cur t hg ht)
theorem own_tagk {w w' : World} {B : Nat} {e : TypeId} {size : Nat} {v : Value} {n : Nat} {xs : List Value} (h : w.ownsRow B e size v n xs) (hk : TagKeep w w') (he : e = 52 ∨ e = 73) : w'.ownsRow B e size v n xs :=
  own_of_block h (fun g hg => let ⟨cur, hc⟩ := own_tag h g hg; hk g cur e hc he)
theorem ROwn.keep {w w' : World} {B : Nat} {v : Value} {rs : List (Int × List (List UInt8 × List UInt8) × List UInt8)} (h : ROwn w B v rs) (hk : TagKeep w w') : ROwn w' B v rs := by
  obtain ⟨fs, h1, h2, h3⟩ := h
  refine ⟨fs, h1, own_tagk h2 hk (.inl rfl), fun j hj hf => ?_⟩
  obtain ⟨a, c, e1, e2⟩ := h3 j hj hf
  exact ⟨a, c, e1, own_tagk e2 hk (.inr rfl)⟩
/-- a feed's call keeps all replies -/
theorem FAt.tag {w w' : World} {p : Nat} {m : Int} {l : List UInt8} {e : Nat} {v : Value} (h : FAt w p m l e v) (ht : Touch (FS p v) w w') : TagKeep w w' := fun g cur t hg htt => by
  refine ht.block g (Array.getElem?_eq_some_iff.1 hg).1 (fun hs => ?_)
  rcases hs with rfl | hs
  · have hb := h.blk
    rw [hg] at hb
    simp only [Option.some.injEq, Obj.cells.injEq] at hb
    rcases htt with e | e <;> rw [e] at hb <;> exact absurd hb.2.1 (by decide)
  · obtain ⟨c, hc⟩ := own_tag h.own g hs
    rw [hg] at hc
    simp only [Option.some.injEq, Obj.cells.injEq] at hc
    rcases htt with e | e <;> rw [e] at hc <;> exact absurd hc.2.1 (by decide)
theorem ROwn.form {w : World} {B : Nat} {v : Value} {rs : List (Int × List (List UInt8 × List UInt8) × List UInt8)} (h : ROwn w B v rs) : ∃ a c, v = .slice a rs.length c := by
  obtain ⟨fs, h1, h2, h3⟩ := h
  exact slice_of_own h2
/-- one reply of a row -/
theorem ROwn.at {w : World} {B g n cp : Nat} {rs : List (Int × List (List UInt8 × List UInt8) × List UInt8)} (h : ROwn w B (.slice (some ⟨g, 0, none⟩) n cp) rs) (j : Nat) (hj : j < rs.length) :
    ∃ a c, w.cell? ⟨g, j * 3, none⟩ = some (.int .i64 rs[j].1) ∧ w.cell? ⟨g, j * 3 + 1, none⟩ = some (.slice a (rs[j].2.1).length c) ∧ w.cell? ⟨g, j * 3 + 2, none⟩ = some (.string (bs rs[j].2.2)) ∧ w.ownsRow 0 73 2 (.slice a (rs[j].2.1).length c) (rs[j].2.1).length (fcells rs[j].2.1) ∧ g < w.heap.size := by
  obtain ⟨fs, h1, h2, h3⟩ := h
  obtain ⟨a, c, e1, e2⟩ := h3 j hj (by omega)
  obtain ⟨g1, g2, g3⟩ := rcells_get rs fs h1 j hj
  have e0 : ∀ k, (⟨g, 0, none⟩ : Addr).add k = ⟨g, k, none⟩ := fun k => by unfold Addr.add; split <;> simp_all
  have k1 := h2.cells (g := g) rfl _ _ g1
  have k2 := h2.cells (g := g) rfl _ _ g2
  have k3 := h2.cells (g := g) rfl _ _ g3
  rw [e0] at k1 k2 k3
  rw [e1] at k2 e2
  exact ⟨a, c, k1, k2, k3, e2, (h2.lt g rfl).2⟩
theorem info_reply : (Tryz.prog.info? 52).map (fun i => (i.zero, i.size, i.bytes)) = some (some (.agg #[.int .i64 0, .slice none 0 0, .string ByteArray.empty]), 3, 48) := by kernel_rfl
theorem info_byteF : (Tryz.prog.info? 5).map (fun i => (i.zero, i.size, i.bytes)) = some (some (.int .u8 0), 1, 1) := by kernel_rfl
end Go.Proofs.YtdihhbkajcngeaaGreatDoor
namespace Go.Proofs.YtdihhbkajcngeaaGreatDoor
open Go.RowKit Go.Shelf Go.Lib
theorem bytes_oneF (l : List UInt8) : ∀ u ∈ bytesV l, u.oneCell' = true := by
  intro u hu
  obtain ⟨b, -, rfl⟩ := List.mem_map.1 hu
  rfl
theorem clone_bytes (g o n c : Nat) (l : List UInt8) (w : World) (hn : l.length = n) (hl : n ≤ 2000000) (hg : g < w.heap.size) (hc : ∀ j u, (bytesV l)[j]? = some u → w.cell? ⟨g, o + j, none⟩ = some u) :
    Calls Tryz.prog 32 #[.slice (some ⟨g, o, none⟩) n c] w fun e w' => ∃ v', e = .returned v' ∧ w'.ownsRow w.heap.size 5 1 v' n (bytesV l) ∧ Below w.heap.size w w' := by
  have hi := info_byteF
  cases e : Tryz.prog.info? 5 with
  | none => rw [e] at hi; cases hi
  | some i =>
    rw [e] at hi
    simp only [Option.map_some, Option.some.injEq, Prod.mk.injEq] at hi
    obtain ⟨i1, i2, i3⟩ := hi
    refine (AnyE.slices_Clone layCloneB i _ 1 1 e i1 i2 i3 rfl (by decide) Tryz.sizeOf5 g o n c (bytesV l) w (by rw [bytesV_length, hn]; omega) (by unfold maxLen; omega) (by omega) hc (bytes_oneF l)).mono ?_
    rintro e w' ⟨v', rfl, h3, -, h4⟩
    exact ⟨v', rfl, h3, h4⟩
theorem conv_own (w : World) (v : Value) (l : List UInt8) (h : w.ownsRow 0 5 1 v l.length (bytesV l)) : (convert 53 9 v).run Tryz.prog w = .ok (.string (bs l)) w := by
  rcases h.2 with ⟨rfl, h0⟩ | ⟨g, cap, cur, rfl, -⟩
  · obtain rfl : l = [] := List.length_eq_zero_iff.1 h0
    exact run_convert_bytes_nil w 53 5 Tryz.underlying53 Tryz.underlying5 0 0 9 Tryz.underlying9
  · have hc := h.cells (g := g) rfl
    exact run_convert_bytes_back w 53 9 5 ⟨g, 0, none⟩ cap l Tryz.underlying53 Tryz.underlying5 Tryz.underlying9 (fun j hj => hc j _ (by unfold bytesV; rw [List.getElem?_map, List.getElem?_eq_getElem hj]; rfl))
theorem feed_none_at {p : Nat} {m : Int} {l : List UInt8} {e : Nat} {v : Value} {w : World} (h : FAt w p m l e v) : Calls Tryz.prog 21 #[.pointer (some ⟨p, 0, none⟩)] w fun e w' => e = .returned (.bool false) ∧ w' = w := by
  obtain ⟨c0, -, -, -, -, -⟩ := h.cells
  go_enter Tryz.func21, Tryz.ntmps21
  go_wp2_with fail
  go_ret
  exact ⟨rfl, rfl⟩
theorem feed_none_nil (w : World) : Calls Tryz.prog 21 #[.pointer none] w fun e w' => e = .returned (.bool true) ∧ w' = w := by
  go_enter Tryz.func21, Tryz.ntmps21
  go_wp2_with fail
  go_ret
  exact ⟨rfl, rfl⟩
theorem feed_none_zero (p : Nat) (w : World) (h : w.cell? ⟨p, 0, none⟩ = some (.bool false)) : Calls Tryz.prog 21 #[.pointer (some ⟨p, 0, none⟩)] w fun e w' => e = .returned (.bool true) ∧ w' = w := by
  go_enter Tryz.func21, Tryz.ntmps21
  go_wp2_with fail
  go_ret
  exact ⟨rfl, rfl⟩
theorem feed_new_bad (m : Int) (w : World) (h : m < 0 ∨ 1048576 < m) : Calls Tryz.prog 9 #[.int .i64 m] w fun e w' => e = .returned (.tuple #[.pointer none, .int .i64 2]) ∧ w' = w := by
  by_cases h0 : m < 0
  · have t0 : decide (m < 0) = true := decide_eq_true h0
    go_enter Tryz.func9, Tryz.ntmps9
    go_wp2_with fail
    go_ret2
    exact ⟨rfl, rfl⟩
  · have t0 : decide (m < 0) = false := decide_eq_false h0
    have t1 : decide (m > 1048576) = true := decide_eq_true (by omega)
    clear h h0
    go_enter Tryz.func9, Tryz.ntmps9
    go_wp2_with fail
    go_ret2
    exact ⟨rfl, rfl⟩
theorem feed_new (m : Int) (w : World) (h0 : 0 ≤ m) (h1 : m ≤ 1048576) : Calls Tryz.prog 9 #[.int .i64 m] w fun e w' => e = .returned (.tuple #[.pointer (some ⟨w.heap.size, 0, none⟩), .int .i64 0]) ∧ FAt w' w.heap.size m [] 0 (.slice none 0 0) ∧ Below w.heap.size w w' := by
  have t0 : decide (m < 0) = false := decide_eq_false (by omega)
  have t1 : decide (m > 1048576) = false := decide_eq_false (by omega)
  clear h0 h1
  go_enter Tryz.func9, Tryz.ntmps9
  go_wp2_with fail
  go_ret2
  exact ⟨rfl, ⟨heap_alloc_new w _, World.ownsRow_nil _ _ _ _⟩, (Below.refl _ _).alloc (Nat.le_refl _) _⟩
theorem feed_rest_at {p : Nat} {m : Int} {l : List UInt8} {e : Nat} {v : Value} {w : World} (h : FAt w p m l e v) : Calls Tryz.prog 13 #[.pointer (some ⟨p, 0, none⟩)] w fun e w' => e = .returned (.int .i64 (l.length : Nat)) ∧ w' = w := by
  have HN := Lib.hid (feed_none_at h)
  obtain ⟨c0, c1, c2, c3, -, -⟩ := h.cells
  obtain ⟨a, c, rfl⟩ := slice_of_own h.own
  clear h
  go_enter Tryz.func13, Tryz.ntmps13
  go_wp2_with fail
  refine HN.out.mono ?_
  rintro e w' ⟨rfl, hww⟩
  obtain rfl := hww.symm
  go_wp2_with fail
  go_ret
  exact ⟨rfl, rfl⟩
theorem feed_bad_at {p : Nat} {m : Int} {l : List UInt8} {e : Nat} {v : Value} {w : World} (h : FAt w p m l e v) : Calls Tryz.prog 14 #[.pointer (some ⟨p, 0, none⟩)] w fun r w' => r = .returned (.int .i64 (e : Nat)) ∧ w' = w := by
  have HN := Lib.hid (feed_none_at h)
  obtain ⟨c0, c1, c2, c3, -, -⟩ := h.cells
  clear h
  go_enter Tryz.func14, Tryz.ntmps14
  go_wp2_with fail
  refine HN.out.mono ?_
  rintro r w' ⟨rfl, hww⟩
  obtain rfl := hww.symm
  go_wp2_with fail
  go_ret
  exact ⟨rfl, rfl⟩
def endE (l : List UInt8) (e : Nat) : Nat := if e ≠ 0 then e else if l = [] then 0 else 3
theorem feed_end_at {p : Nat} {m : Int} {l : List UInt8} {e : Nat} {v : Value} {w : World} (h : FAt w p m l e v) : Calls Tryz.prog 15 #[.pointer (some ⟨p, 0, none⟩)] w fun r w' => r = .returned (.int .i64 (endE l e : Nat)) ∧ Below w.heap.size w w' := by
  have HN := Lib.hid (feed_none_at h)
  obtain ⟨c0, c1, c2, c3, -, -⟩ := h.cells
  obtain ⟨a, c, rfl⟩ := slice_of_own h.own
  clear h
  by_cases he : e = 0
  case neg =>
    have HF : Hid (endE l e = e) := Lib.hid (if_pos he)
    have tz : ((e : Int) != 0) = true := by rw [bne_iff_ne]; omega
    have tz2 : ¬ (e = 0) := he
    clear he
    go_enter Tryz.func15, Tryz.ntmps15
    go_wp2_with fail
    refine HN.out.mono ?_
    rintro r w' ⟨rfl, hww⟩
    obtain rfl := hww.symm
    go_wp2_with fail
    try (go_quiet (fail))
    try go_wp2_with fail
    go_ret
    exact ⟨by rw [HF.out]; rfl, ⟨rfl, rfl, rfl, Nat.le_refl _, fun _ _ => rfl⟩⟩
  subst he
  by_cases hl : l = []
  · subst hl
    go_enter Tryz.func15, Tryz.ntmps15
    go_wp2_with fail
    refine HN.out.mono ?_
    rintro r w' ⟨rfl, hww⟩
    obtain rfl := hww.symm
    go_wp2_with fail
    go_ret
    exact ⟨rfl, Below.refl _ _⟩
  · have hp : 0 < l.length := List.length_pos_iff.2 hl
    have HF : Hid (endE l 0 = 3) := Lib.hid (by unfold endE; rw [if_neg (by simp), if_neg hl])
    have tp : decide ((l.length : Int) > 0) = true := decide_eq_true (by omega)
    clear hl
    go_enter Tryz.func15, Tryz.ntmps15
    go_wp2_with fail
    refine HN.out.mono ?_
    rintro r w' ⟨rfl, hww⟩
    obtain rfl := hww.symm
    go_wp2_with fail
    go_ret
    exact ⟨by rw [HF.out]; rfl, Below.refl _ _⟩
end Go.Proofs.YtdihhbkajcngeaaGreatDoor
namespace Go.Proofs.YtdihhbkajcngeaaGreatDoor
open Go.RowKit
theorem take_splice2 (L : List Value) (n : Nat) (x y : Value) (h2 : 2 ≤ L.length) (hn : n * 2 + 2 ≤ L.length) :
    (splice (splice L 2 (L.take (n * 2))) 0 [x, y]).take ((n + 1) * 2) = x :: y :: L.take (n * 2) ∧ (splice (splice L 2 (L.take (n * 2))) 0 [x, y]).length = L.length := by
  have h3 : (L.take (n * 2)).length = n * 2 := by rw [List.length_take]; omega
  have hA : (splice L 2 (L.take (n * 2))).length = L.length := length_splice _ _ _ (by rw [h3]; omega)
  refine ⟨?_, by rw [length_splice _ _ _ (by rw [hA]; simpa using h2), hA]⟩
  have h4 : (L.take 2).length = 2 := by rw [List.length_take]; omega
  unfold splice
  rw [List.take_zero, List.nil_append, show 0 + [x, y].length = 2 from rfl, List.drop_left' h4]
  rw [show (n + 1) * 2 = n * 2 + 1 + 1 by omega]
  simp only [List.cons_append, List.nil_append, List.take_succ_cons]
  rw [List.take_left' h3]
theorem info_ffield : (Tryz.prog.info? 73).map (fun i => (i.zero, i.size, i.bytes)) = some (some (.agg #[.string ByteArray.empty, .string ByteArray.empty]), 2, 32) := by kernel_rfl
end Go.Proofs.YtdihhbkajcngeaaGreatDoor
namespace Go.Proofs.YtdihhbkajcngeaaGreatDoor
open Go.RowKit
theorem zeroCells_size (z : Array Value) (k : Nat) : (Builtin.zeroCells z k).size = k * z.size := by simp [Builtin.zeroCells]
end Go.Proofs.YtdihhbkajcngeaaGreatDoor
