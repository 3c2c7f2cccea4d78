/- Links in memory: their faults, a row of events. What Put of package serve does. What Put of the reference of serve returns. What New, next, Left, Harms and Log of package link return. What Ask, Fork and Script of package link do. A link behind some requests: plain words. Links in a law's world: apart from what stood before, and from one another. What Fork of package link does. Two links in a law's world, apart from one another. What Faults and Back of the laws of layer 29 return. Same of the reference of link, of logs that are the same. What a fork of a link is told, as a row of texts. The small example of the laws of layer 46. The small example of the laws of layer 29: the walk. What an argument that is a slice of the reference's fields reads as. What an argument that is a slice of ranges reads as. What an argument that is a slice of the document's faults reads as; Over of them. What Ask of the reference of link returns. The law LinkClean. The law LinkAsks. Plain words: what an answer's bytes tell to one who asked for a range (no program in sight). Plain words: what a client fetches of a link: rounds of one request (no program in sight). -/
import Derived.Test.YtbdmmgmcbecolaaGreatDoorPr9
import Derived.Deep.AppendLies
import Derived.Deep.RegionHeld3
import Derived.Laws.StructEq
import Derived.BigQuiet
import Derived.Deep.Slices
import Derived.Deep.Fields
import Derived.ChangeSame
set_option linter.unusedVariables false
set_option linter.unusedSimpArgs false
namespace Go.Proofs.YtbdmmgmcbecolaaGreatDoor
open Go.RowKit
/-- a link in memory: its origin, the faults that are to come, what its log has, how many harmed -/
structure LAt (w : World) (P B : Nat) (h p f : ByteArray) (rest : List Flt) (log : List Evt) (n : Nat) (rv lv : Value) : Prop where
  blk : w.heap[P]? = some (.cells #[.string h, .string p, .string f, rv, lv, .int .i64 (n : Int)] 97 (0, 0))
  hold : HoldsC w rv rest
  tag : ∀ b, ablk rv = some b → ∃ C, w.heap[b]? = some (.cells C 65 (0, 0))
  own : w.ownsRow B 107 3 lv log.length (evs log)
theorem LAt.lt {w : World} {P B : Nat} {h p f : ByteArray} {rest : List Flt} {log : List Evt} {n : Nat} {rv lv : Value} (k : LAt w P B h p f rest log n rv lv) : P < w.heap.size := (Array.getElem?_eq_some_iff.1 k.blk).1
theorem LAt.keep {w w' : World} {P B : Nat} {h p f : ByteArray} {rest : List Flt} {log : List Evt} {n : Nat} {rv lv : Value} (k : LAt w P B h p f rest log n rv lv) (hs : w.heap.size ≤ w'.heap.size) (hP : w'.heap[P]? = w.heap[P]?) (hr : ∀ b, ablk rv = some b → w'.heap[b]? = w.heap[b]?) (hl : ∀ g, lv.ownBlock = some g → w'.heap[g]? = w.heap[g]?) : LAt w' P B h p f rest log n rv lv where
  blk := hP.trans k.blk
  hold := k.hold.kept hs hr
  tag := fun b hb => let ⟨C, hC⟩ := k.tag b hb; ⟨C, (hr b hb).trans hC⟩
  own := own_of_block k.own hl
theorem LAt.rlt {w : World} {P B : Nat} {h p f : ByteArray} {rest : List Flt} {log : List Evt} {n : Nat} {rv lv : Value} (k : LAt w P B h p f rest log n rv lv) (b : Nat) (hb : ablk rv = some b) : b < w.heap.size := let ⟨_, hC⟩ := k.tag b hb; (Array.getElem?_eq_some_iff.1 hC).1
theorem LAt.below {w w' : World} {P B : Nat} {h p f : ByteArray} {rest : List Flt} {log : List Evt} {n : Nat} {rv lv : Value} (k : LAt w P B h p f rest log n rv lv) (hb : Below w.heap.size w w') : LAt w' P B h p f rest log n rv lv :=
  k.keep hb.size (hb.block P k.lt) (fun b h => hb.block b (k.rlt b h)) (fun g h => hb.block g (k.own.lt g h).2)
theorem LAt.touch {w w' : World} {S : Nat → Prop} {P B : Nat} {h p f : ByteArray} {rest : List Flt} {log : List Evt} {n : Nat} {rv lv : Value} (k : LAt w P B h p f rest log n rv lv) (ht : Touch S w w') (hP : ¬ S P) (hr : ∀ b, ablk rv = some b → ¬ S b) (hl : ∀ g, lv.ownBlock = some g → ¬ S g) : LAt w' P B h p f rest log n rv lv :=
  k.keep ht.size (ht.block P k.lt hP) (fun b h => ht.block b (k.rlt b h) (hr b h)) (fun g h => ht.block g (k.own.lt g h).2 (hl g h))
theorem LAt.cells {w : World} {P B : Nat} {h p f : ByteArray} {rest : List Flt} {log : List Evt} {n : Nat} {rv lv : Value} (k : LAt w P B h p f rest log n rv lv) :
    (w.cell? ⟨P, 0, none⟩ = some (.string h) ∧ w.cell? ⟨P, 1, none⟩ = some (.string p) ∧ w.cell? ⟨P, 2, none⟩ = some (.string f) ∧ w.cell? ⟨P, 3, none⟩ = some rv ∧ w.cell? ⟨P, 4, none⟩ = some lv ∧ w.cell? ⟨P, 5, none⟩ = some (.int .i64 (n : Int))) ∧ w.frozen? ⟨P, 3, none⟩ = false ∧ w.frozen? ⟨P, 4, none⟩ = false ∧ w.frozen? ⟨P, 5, none⟩ = false := six_facts k.blk
theorem LAt.rne {w : World} {P B : Nat} {h p f : ByteArray} {rest : List Flt} {log : List Evt} {n : Nat} {rv lv : Value} (k : LAt w P B h p f rest log n rv lv) (b : Nat) (hb : ablk rv = some b) : b ≠ P := fun e => by
  obtain ⟨C, hC⟩ := k.tag b hb
  rw [e, k.blk] at hC
  simp only [Option.some.injEq, Obj.cells.injEq] at hC
  exact absurd hC.2.1 (by decide)
theorem LAt.lne {w : World} {P B : Nat} {h p f : ByteArray} {rest : List Flt} {log : List Evt} {n : Nat} {rv lv : Value} (k : LAt w P B h p f rest log n rv lv) : lv.ownBlock ≠ some P := own_not_row k.own k.blk (by decide)
theorem LAt.rl {w : World} {P B : Nat} {h p f : ByteArray} {rest : List Flt} {log : List Evt} {n : Nat} {rv lv : Value} (k : LAt w P B h p f rest log n rv lv) (b : Nat) (hb : ablk rv = some b) : lv.ownBlock ≠ some b := by
  obtain ⟨C, hC⟩ := k.tag b hb
  exact own_not_row k.own hC (by decide)
theorem HoldsC.set {w : World} {v : Value} {l : List Flt} (h : HoldsC w v l) (a : Addr) (y : Value) (hb : ∀ b, ablk v = some b → b ≠ a.block) : HoldsC (w.setCell a y) v l :=
  h.kept (by rw [set_size]; exact Nat.le_refl _) (fun b h1 => Below.heap_setCell _ _ _ _ (hb b h1))
/-- other faults are laid -/
theorem LAt.setRest {w : World} {P B : Nat} {h p f : ByteArray} {rest rest' : List Flt} {log : List Evt} {n : Nat} {rv rv' lv : Value} (k : LAt w P B h p f rest log n rv lv) (hr : HoldsC w rv' rest') (ht : ∀ b, ablk rv' = some b → ∃ C, w.heap[b]? = some (.cells C 65 (0, 0))) : LAt (w.setCell ⟨P, 3, none⟩ rv') P B h p f rest' log n rv' lv := by
  have hne : ∀ b, ablk rv' = some b → b ≠ P := fun b hb e => by
    obtain ⟨C, hC⟩ := ht b hb
    rw [e, k.blk] at hC
    simp only [Option.some.injEq, Obj.cells.injEq] at hC
    exact absurd hC.2.1 (by decide)
  refine ⟨six_set3 k.blk _, hr.set _ _ hne, fun b hb => ?_, own_of_block k.own (fun g hg => Below.heap_setCell _ _ _ _ (fun e => k.lne (by rw [hg]; exact congrArg some e)))⟩
  obtain ⟨C, hC⟩ := ht b hb
  exact ⟨C, (Below.heap_setCell _ _ _ _ (hne b hb)).trans hC⟩
theorem LAt.setHarm {w : World} {P B : Nat} {h p f : ByteArray} {rest : List Flt} {log : List Evt} {n m : Nat} {rv lv : Value} (k : LAt w P B h p f rest log n rv lv) : LAt (w.setCell ⟨P, 5, none⟩ (.int .i64 (m : Int))) P B h p f rest log m rv lv := by
  refine ⟨six_set5 k.blk _, k.hold.set _ _ k.rne, fun b hb => ?_, own_of_block k.own (fun g hg => Below.heap_setCell _ _ _ _ (fun e => k.lne (by rw [hg]; exact congrArg some e)))⟩
  obtain ⟨C, hC⟩ := k.tag b hb
  exact ⟨C, (Below.heap_setCell _ _ _ _ (k.rne b hb)).trans hC⟩
/-- a link laid anew -/
theorem LAt.new {W : World} {B0 B : Nat} {h p f : ByteArray} {l : List Flt} {log : List Evt} {n : Nat} {rv lv : Value} (hr : W.ownsRow B0 65 3 rv l.length (flts l)) (ho : W.ownsRow B 107 3 lv log.length (evs log)) : LAt (W.alloc (.cells #[.string h, .string p, .string f, rv, lv, .int .i64 (n : Int)] 97 (0, 0))) W.heap.size B h p f l log n rv lv := by
  have hb : Below W.heap.size W (W.alloc (.cells #[.string h, .string p, .string f, rv, lv, .int .i64 (n : Int)] 97 (0, 0))) := (Below.refl _ _).alloc (Nat.le_refl _) _
  refine ⟨heap_alloc_new W _, (HoldsC.of_own hr).below hb, fun b hbk => ?_, own_of_block ho (fun g hg => hb.block g (ho.lt g hg).2)⟩
  rcases hr.2 with ⟨rfl, -⟩ | ⟨g, cap, cur, rfl, h1, h2, -⟩
  · cases hbk
  · injection hbk with e
    subst e
    exact ⟨cur, (hb.block g (Array.getElem?_eq_some_iff.1 h2).1).trans h2⟩
/-- what a request touches: the link's block, and its log's -/
def LS (P : Nat) (lv : Value) (g : Nat) : Prop := g = P ∨ lv.ownBlock = some g
/-- an event is appended to what the log has -/
theorem append_log {ops : Array Oper} {rest : List Oper} {o : Oper} {a : Act} {Q : Exit → Act → World → Prop} (t : TypeId) (z : Value) (b : Nat) (hu : Tryz.prog.underlying t = some (.slice 107)) (hinf : (Tryz.prog.info? 107).map (fun i => (i.zero, i.size, i.bytes)) = some (some z, 3, b)) (hz : z.cells.size = 3) (hb : b ≤ 64)
    (w0 : World) {P B : Nat} {h p f : ByteArray} {fl : List Flt} {log : List Evt} {n : Nat} {rv lv : Value} (k : LAt w0 P B h p f fl log n rv lv) (x1 x2 : Int) (x3 : Bool) (hgd : o.guard = none) (s x : Operand) (ho : o.op = .call { callee := .builtin .append, args := #[s, x], argTypes := #[t, t] })
    (hs : a.eval s = lv) (hx : a.eval x = .slice (some ⟨w0.heap.size, 0, none⟩) 1 1) (hn : log.length ≤ 1000000) (hB : B ≤ w0.heap.size)
    (K : ∀ g m cap w1, w1.cell? ⟨P, 4, none⟩ = some lv → w1.frozen? ⟨P, 4, none⟩ = false → LAt (w1.setCell ⟨P, 4, none⟩ (.slice (some ⟨g, 0, none⟩) m cap)) P B h p f fl (log ++ [(x1, x2, x3)]) n rv (.slice (some ⟨g, 0, none⟩) m cap) → Touch (LS P lv) w0 (w1.setCell ⟨P, 4, none⟩ (.slice (some ⟨g, 0, none⟩) m cap)) → (lv.ownBlock = some g ∨ w0.heap.size ≤ g) → wpList Tryz.prog ops Q rest (a.put o.dst (.slice (some ⟨g, 0, none⟩) m cap)) w1) :
    wpList Tryz.prog ops Q (o :: rest) a (w0.alloc (.cells #[.int .i64 x1, .int .i64 x2, .bool x3] 107)) := by
  refine append3 t _ z b hu hinf hz hb w0 _ _ _ rfl rfl rfl hgd s x ho B lv log.length (evs log) hs k.own hx (by omega) hB ?_
  intro g cap w1 h1 h2 h3
  have hkP : w1.heap[P]? = some (.cells #[.string h, .string p, .string f, rv, lv, .int .i64 (n : Int)] 97 (0, 0)) := (h2.block P k.lt (fun e => k.lne e.symm)).trans k.blk
  have hr : ∀ b, ablk rv = some b → w1.heap[b]? = w0.heap[b]? := fun b hb => h2.block b (k.rlt b hb) (fun e => k.rl b hb e.symm)
  have h1' : w1.ownsRow B 107 3 (.slice (some ⟨g, 0, none⟩) (log.length + 1) cap) (log ++ [(x1, x2, x3)]).length (evs (log ++ [(x1, x2, x3)])) := by
    rw [evs_append, List.length_append]; exact h1
  obtain ⟨-, -, f4, -⟩ := six_facts hkP
  obtain ⟨⟨-, -, -, -, c4, -⟩, -⟩ := six_facts hkP
  refine K g _ cap w1 c4 f4 ⟨six_set4 hkP _, (k.hold.kept h2.size hr).set _ _ k.rne, fun b hb => ?_, own_of_block h1' (fun g hg => Below.heap_setCell _ _ _ _ (fun e => own_not_row h1 hkP (by decide) (by rw [hg]; exact congrArg some e)))⟩ ?_ h3
  · obtain ⟨C, hC⟩ := k.tag b hb
    exact ⟨C, (Below.heap_setCell _ _ _ _ (k.rne b hb)).trans ((hr b hb).trans hC)⟩
  · exact touch_set _ (Touch.of_grown h2 (fun g hg => .inl (.inr hg))) (.inl (.inl rfl))
end Go.Proofs.YtbdmmgmcbecolaaGreatDoor
namespace Go.Proofs.YtbdmmgmcbecolaaGreatDoor
open Go.RowKit
theorem BIs.take {b B : Nat} {l : List UInt8} {w w' : World} (h : BIs B l w) (ht : Touch (fun g => g = b) w w') (hlt : b < B) : BIs B l w' :=
  h.keep (fun g hg hs => ht.block g hs (fun e => by have : g = b := e; omega))
end Go.Proofs.YtbdmmgmcbecolaaGreatDoor
namespace Go.Proofs.YtbdmmgmcbecolaaGreatDoor
open Go.RowKit
def RSPost (h p f : ByteArray) (n : Nat) (R : List UInt8 × List UInt8 × Nat × Bool) (w : World) (e : Ending) (w' : World) : Prop :=
  e = .returned (.tuple #[.agg #[.string h, .string p, .string f, .string (bs R.2.1), .bool R.2.2.2, .int .i64 ((n + R.2.2.1 : Nat) : Int)], .string (bs R.1)]) ∧ Below w.heap.size w w'
/-- what is still to come, in the reference's loop -/
structure RGo (h p f : ByteArray) (n : Nat) (R : List UInt8 × List UInt8 × Nat × Bool) (l1 acc : List UInt8) (n1 : Nat) : Prop where
  go : R.1 = acc ++ (srvOf h.data.toList p.data.toList f.data.toList l1).1 ∧ R.2.1 = (srvOf h.data.toList p.data.toList f.data.toList l1).2.1 ∧ n + R.2.2.1 = n1 + (srvOf h.data.toList p.data.toList f.data.toList l1).2.2.1 ∧ R.2.2.2 = (srvOf h.data.toList p.data.toList f.data.toList l1).2.2.2
  ll : l1.length ≤ 100000
  al : acc.length ≤ R.1.length
  nl : n1 ≤ n + R.2.2.1
theorem RGo.more {h p f : ByteArray} {n : Nat} {R : List UInt8 × List UInt8 × Nat × Bool} {l1 acc : List UInt8} {n1 k : Nat} (g : RGo h p f n R l1 acc n1) (h0 : askE (bs l1) = 0) (hk : (askN (bs l1)).toNat = k) : RGo h p f n R (l1.drop k) (acc ++ orgS h.data.toList p.data.toList f.data.toList (bs (l1.take k))) (n1 + 1) := by
  obtain ⟨s1, s2, s3, s4⟩ := g.go
  rw [srv_more _ _ _ l1 h0, hk] at s1 s2 s3 s4
  simp only at s1 s2 s3 s4
  refine ⟨⟨by rw [s1, List.append_assoc], s2, by omega, s4⟩, ?_, ?_, by omega⟩
  · rw [List.length_drop]; have := g.ll; omega
  · rw [s1]; simp only [List.length_append]; omega
theorem RGo.short {w w9 : World} {h p f : ByteArray} {n : Nat} {R : List UInt8 × List UInt8 × Nat × Bool} {l1 acc : List UInt8} {n1 : Nat} (g : RGo h p f n R l1 acc n1) (h3 : askE (bs l1) = 3) (hb : Below w.heap.size w w9) :
    RSPost h p f n R w (.returned (.tuple #[.agg #[.string h, .string p, .string f, .string (bs l1), .bool false, .int .i64 (n1 : Nat)], .string (bs acc)])) w9 := by
  obtain ⟨s1, s2, s3, s4⟩ := g.go
  rw [srv_short _ _ _ l1 h3] at s1 s2 s3 s4
  simp only [List.append_nil, Nat.add_zero] at s1 s2 s3 s4
  exact ⟨by rw [s1, s2, s3, s4], hb⟩
end Go.Proofs.YtbdmmgmcbecolaaGreatDoor
namespace Go.Proofs.YtbdmmgmcbecolaaGreatDoor
open Go.RowKit
theorem info_flt : (Tryz.prog.info? 65).map (fun i => (i.zero, i.size, i.bytes)) = some (some (.agg #[.int .u8 0, .int .i64 0, .string ByteArray.empty]), 3, 32) := by kernel_rfl
theorem info_evt : (Tryz.prog.info? 107).map (fun i => (i.zero, i.size, i.bytes)) = some (some (.agg #[.int .i64 0, .int .i64 0, .bool false]), 3, 24) := by kernel_rfl
theorem size_flt : (Tryz.prog.info? 65).map (·.size) = some 3 := by kernel_rfl
def zflt (N : Nat) : Array Value := madeCells #[.int .u8 0, .int .i64 0, .string ByteArray.empty] (N * 3)
theorem make_flts (N : Nat) (h : N ≤ 1000000) (w : World) : (Instr.makeSlice 66 (.int .i64 (N : Int)) (.int .i64 (N : Int))).run Tryz.prog w = .ok (.slice (some ⟨w.heap.size, 0, none⟩) N N) (w.alloc (.cells (zflt N) 65)) :=
  run_make3 (P := Tryz.prog) _ _ _ 3 32 Tryz.underlying66 info_flt (by decide) N h w
theorem zflt_size (N : Nat) : (zflt N).size = N * 3 := size_madeCells _ _
/-- make and copy of faults, as one -/
theorem made_flts {w : World} {v : Value} {l : List Flt} (hv : HoldsC w v l) (hn : l.length ≤ 1000000) : ∃ W', (∀ ty, (Builtin.copy_ #[66, 66] ty #[.slice (some ⟨w.heap.size, 0, none⟩) l.length l.length, v]).run Tryz.prog (w.alloc (.cells (zflt l.length) 65)) = .ok (.int .i64 l.length) W') ∧ W'.ownsRow w.heap.size 65 3 (.slice (some ⟨w.heap.size, 0, none⟩) l.length l.length) l.length (flts l) ∧ Below w.heap.size w W' := by
  have hb : Below w.heap.size w (w.alloc (.cells (zflt l.length) 65)) := (Below.refl _ _).alloc (Nat.le_refl _) _
  obtain ⟨W2, hcp, ho, ht⟩ := copy_holds (P := Tryz.prog) 66 66 65 Tryz.underlying66 size_flt (heap_alloc_new w (.cells (zflt l.length) 65)) (zflt_size _) (hv.below hb) hn
  exact ⟨W2, hcp, ho, hb.trans (ht.below (fun g hg => by rw [show g = w.heap.size from hg]; exact Nat.le_refl _) hb.size)⟩
set_option maxRecDepth 100000 in
set_option maxHeartbeats 1000000 in
theorem link_new_bad (h p f : ByteArray) (v : Value) (w : World) (he : orgE h.data.toList p.data.toList ≠ 0) :
    Calls Tryz.prog 24 #[.agg #[.string h, .string p, .string f], v] w fun e w' => e = .returned (.tuple #[.pointer none, .int .i64 2]) ∧ Below w.heap.size w w' := by
  have h2 : orgE h.data.toList p.data.toList = 2 := by
    unfold orgE at he ⊢
    split
    · rfl
    · rename_i hh; rw [if_neg hh] at he; exact absurd rfl he
  have HC := Lib.hid (fun w => origin_check h p f w)
  rw [h2] at HC
  have HB0 := Lib.hid (below_o3 w (.string h) (.string p) (.string f))
  obtain ⟨o0, o1, o2, -, -, -⟩ := three_facts (heap_alloc_new w (.cells #[.string h, .string p, .string f] 63))
  clear he h2
  go_enter Tryz.func24, Tryz.ntmps24
  go_wp2_with fail
  refine (HC.out _).mono ?_
  rintro e w1 ⟨rfl, hb1⟩
  go_wp2_with fail
  go_ret2
  exact ⟨rfl, bstep HB0.out hb1⟩
/-- a new link -/
def NewPost (h p f : ByteArray) (l : List Flt) (w : World) (e : Ending) (w' : World) : Prop :=
  ∃ b rv, e = .returned (.tuple #[.pointer (some ⟨b, 0, none⟩), .int .i64 0]) ∧ w.heap.size ≤ b ∧ LAt w' b w.heap.size h p f l [] 0 rv (.slice none 0 0) ∧ (∀ g, ablk rv = some g → w.heap.size ≤ g) ∧ Below w.heap.size w w'
set_option maxRecDepth 100000 in
set_option maxHeartbeats 2000000 in
theorem link_new (h p f : ByteArray) (v : Value) (l : List Flt) (w : World) (he : orgE h.data.toList p.data.toList = 0) (hv : HoldsC w v l) (hn : l.length ≤ 1000000) :
    Calls Tryz.prog 24 #[.agg #[.string h, .string p, .string f], v] w (NewPost h p f l w) := by
  obtain ⟨a, c, hvv, -⟩ := hv.len
  subst hvv
  have HC := Lib.hid (fun w => origin_check h p f w)
  rw [he] at HC
  have HB0 := Lib.hid (below_o3 w (.string h) (.string p) (.string f))
  have HP0 := Lib.hid (heap_alloc_new w (.cells #[.string h, .string p, .string f] 63))
  have HSZ : Hid ((w.alloc (.cells #[.string h, .string p, .string f] 63)).heap.size = w.heap.size + 1) := Lib.hid (by simp)
  have HV := Lib.hid (fun W (hW : Below w.heap.size w W) => made_flts (hv.below hW) hn)
  have hmk := make_flts l.length hn
  obtain ⟨o0, o1, o2, -, -, -⟩ := three_facts HP0.out
  clear he hv hn
  go_enter Tryz.func24, Tryz.ntmps24
  go_wp2_with fail
  refine (HC.out _).mono ?_
  rintro e w1 ⟨rfl, hb1⟩
  have hp1 := (hb1.block w.heap.size (by have := HSZ.out; omega)).trans HP0.out
  have HB1 := Lib.hid (bstep HB0.out hb1)
  have hs1 : w.heap.size < w1.heap.size := (Array.getElem?_eq_some_iff.1 hp1).1
  obtain ⟨W2, hcp, ho2, hb2⟩ := HV.out w1 HB1.out
  have hp2 := (hb2.block w.heap.size hs1).trans hp1
  have HO := Lib.hid ho2
  have HB2 := Lib.hid (bstep HB1.out hb2)
  have HS1 := Lib.hid hs1
  clear hb1 o0 o1 o2 hp1 ho2 hb2 hs1
  obtain ⟨o0, o1, o2, -, -, -⟩ := three_facts hp2
  clear hp2
  go_wp2_with (at_builtin; refine Go.Proofs.wpList_copy_runI _ rfl _ _ 66 66 rfl _ _ rfl rfl (hcp _) ?_)
  go_ret2
  refine ⟨_, _, rfl, HB2.out.size, LAt.new HO.out (World.ownsRow_nil _ _ _ _), fun g hg => ?_, HB2.out.alloc HB2.out.size _⟩
  have e1 : some w1.heap.size = some g := hg
  injection e1 with e1
  have := HS1.out
  omega
/-- next: the first fault is taken -/
def NextPost (w : World) (P B : Nat) (h p f : ByteArray) (rest : List Flt) (log : List Evt) (n : Nat) (rv lv : Value) (X : Flt) (e : Ending) (w' : World) : Prop :=
  e = .returned (.agg #[.int .u8 X.1, .int .i64 X.2.1, .string X.2.2]) ∧ ∃ rv', LAt w' P B h p f rest log n rv' lv ∧ Touch (fun g => g = P) w w' ∧ ∀ g, ablk rv' = some g → ablk rv = some g
theorem load_flt (w : World) (b : Nat) (t : TypeId) (x0 x1 x2 : Value) (h : w.heap[b]? = some (.cells #[x0, x1, x2] t (0, 0))) : (loadVar 65 ⟨b, 0, none⟩).run Tryz.prog w = .ok (.agg #[x0, x1, x2]) w :=
  run_loadVar_row w b t 65 #[x0, x1, x2] (0, 0) _ h Tryz.underlying65 rfl (by kernel_rfl)
theorem below_flt (w : World) (x y z : Value) : Below w.heap.size w (w.alloc (.cells #[x, y, z] 65)) := (Below.refl _ _).alloc (Nat.le_refl _) _
set_option maxRecDepth 100000 in
set_option maxHeartbeats 1000000 in
theorem link_next_none {w : World} {P B : Nat} {h p f : ByteArray} {log : List Evt} {n : Nat} {rv lv : Value} (k : LAt w P B h p f [] log n rv lv) :
    Calls Tryz.prog 64 #[.pointer (some ⟨P, 0, none⟩)] w (NextPost w P B h p f [] log n rv lv noF) := by
  have hb0 := below_flt w (.int .u8 0) (.int .i64 0) (.string ⟨#[]⟩)
  have hg0 := heap_alloc_new w (.cells #[.int .u8 0, .int .i64 0, .string ⟨#[]⟩] 65)
  obtain ⟨⟨-, -, -, c3, -, -⟩, -⟩ := (k.below hb0).cells
  obtain ⟨-, -, -, g0, g1, g2⟩ := three_facts hg0
  obtain ⟨a, c, hrv, -⟩ := k.hold.len
  have HK := Lib.hid (k.below hb0)
  have HB0 := Lib.hid hb0
  have HG := Lib.hid hg0
  rw [hrv] at c3
  simp only [List.length_nil] at c3
  clear k hrv hb0 hg0
  go_enter Tryz.func64, Tryz.ntmps64
  go_wp2_with fail
  refine ret_cell (A := ⟨w.heap.size, 0, none⟩) rfl (load_flt _ _ _ _ _ _ HG.out) rfl rfl ?_
  exact ⟨rfl, rv, HK.out, Touch.of_below HB0.out, fun g hg => hg⟩
set_option maxRecDepth 100000 in
set_option maxHeartbeats 2000000 in
theorem link_next_some {w : World} {P B : Nat} {h p f : ByteArray} {x : Flt} {l : List Flt} {log : List Evt} {n : Nat} {rv lv : Value} (k : LAt w P B h p f (x :: l) log n rv lv) (hl : l.length ≤ 1000000) :
    Calls Tryz.prog 64 #[.pointer (some ⟨P, 0, none⟩)] w (NextPost w P B h p f l log n rv lv x) := by
  obtain ⟨x1, x2, x3⟩ := x
  have hPl := k.lt
  have hba := below_flt w (.int .u8 0) (.int .i64 0) (.string ⟨#[]⟩)
  have ka := k.below hba
  obtain ⟨⟨-, -, -, a3, -, -⟩, -⟩ := ka.cells
  obtain ⟨b, o, c, hrv, hc, hlt, -, -, -, hh⟩ := k.hold.first
  subst hrv
  obtain ⟨b', o', c', hrv, -, -, x0', x1', x2', -⟩ := ka.hold.first
  injection hrv with e1 e2 e3
  injection e1 with e1
  injection e1 with e1 e4
  subst e1 e3 e4
  have hbb := bstep hba (below_flt (w.alloc (.cells #[.int .u8 0, .int .i64 0, .string ⟨#[]⟩] 65)) (.int .u8 x1) (.int .i64 x2) (.string x3))
  obtain ⟨⟨-, -, -, c3, -, -⟩, f3, -⟩ := (k.below hbb).cells
  have htag := k.tag b rfl
  obtain ⟨V, hV⟩ : ∃ V, V = Value.slice (some (if c = 1 then ⟨b, o, none⟩ else ⟨b, o + 3, none⟩)) l.length (c - 1) := ⟨_, rfl⟩
  rw [← hV] at hh
  have hVb : ∀ g, ablk V = some g → g = b := fun g hg => by
    rw [hV] at hg
    by_cases e : c = 1
    · rw [if_pos e] at hg; injection hg with e1; exact e1.symm
    · rw [if_neg e] at hg; injection hg with e1; exact e1.symm
  have k1 := k.setRest hh (fun g hg => by rw [hVb g hg]; exact htag)
  have t1 : Touch (fun g => g = P) w (w.setCell ⟨P, 3, none⟩ V) := touch_set _ (Touch.refl _ _) (.inl rfl)
  have hb1 := below_flt (w.setCell ⟨P, 3, none⟩ V) (.int .u8 x1) (.int .i64 x2) (.string x3)
  have hb2 := below_flt ((w.setCell ⟨P, 3, none⟩ V).alloc (.cells #[.int .u8 x1, .int .i64 x2, .string x3] 65)) (.int .u8 x1) (.int .i64 x2) (.string x3)
  have hg : (((w.setCell ⟨P, 3, none⟩ V).alloc (.cells #[.int .u8 x1, .int .i64 x2, .string x3] 65)).alloc (.cells #[.int .u8 x1, .int .i64 x2, .string x3] 65)).heap[w.heap.size]? = some (.cells #[.int .u8 x1, .int .i64 x2, .string x3] 65 (0, 0)) := by
    have h1 := heap_alloc_new (w.setCell ⟨P, 3, none⟩ V) (.cells #[.int .u8 x1, .int .i64 x2, .string x3] 65)
    rw [set_size] at h1
    exact (hb2.block w.heap.size (Array.getElem?_eq_some_iff.1 h1).1).trans h1
  have HG := Lib.hid hg
  have HX : Hid (NextPost w P B h p f l log n (.slice (some ⟨b, o, none⟩) (l.length + 1) c) lv (x1, x2, x3) (.returned (.agg #[.int .u8 x1, .int .i64 x2, .string x3])) (((w.setCell ⟨P, 3, none⟩ V).alloc (.cells #[.int .u8 x1, .int .i64 x2, .string x3] 65)).alloc (.cells #[.int .u8 x1, .int .i64 x2, .string x3] 65))) := Lib.hid ⟨rfl, V, (k1.below hb1).below hb2, (t1.trans (Touch.of_below (S := fun g => g = P) hb1) (fun g hg => .inl hg)).trans (Touch.of_below (S := fun g => g = P) hb2) (fun g hg => .inl hg), fun g hg => by rw [hVb g hg]; rfl⟩
  have hle : (1 : Int) ≤ (l.length : Int) + 1 := by omega
  have hz : ¬ ((0 : Int) = (l.length : Int) + 1) := by omega
  have hz1 : ((l.length : Int) + 1 == 0) = false := by rw [beq_eq_false_iff_ne]; omega
  have hlt0 : (0 : Int) < (l.length : Int) + 1 := by omega
  clear k ka hh htag hba hbb k1 t1 hb1 hb2 hg hVb e2
  by_cases hc1 : c = 1
  · subst hc1
    obtain rfl : l = [] := List.length_eq_zero_iff.1 (by omega)
    rw [if_pos rfl] at hV
    subst hV
    go_enter Tryz.func64, Tryz.ntmps64
    go_wp2_with fail
    refine ret_cell (A := ⟨w.heap.size, 0, none⟩) rfl (load_flt _ _ _ _ _ _ HG.out) rfl rfl ?_
    exact HX.out
  · rw [if_neg hc1] at hV
    subst hV
    go_enter Tryz.func64, Tryz.ntmps64
    go_wp2_with fail
    refine ret_cell (A := ⟨w.heap.size, 0, none⟩) rfl (load_flt _ _ _ _ _ _ HG.out) rfl rfl ?_
    exact HX.out
theorem link_next {w : World} {P B : Nat} {h p f : ByteArray} {rest : List Flt} {log : List Evt} {n : Nat} {rv lv : Value} (k : LAt w P B h p f rest log n rv lv) (hl : rest.length ≤ 1000000) :
    Calls Tryz.prog 64 #[.pointer (some ⟨P, 0, none⟩)] w (NextPost w P B h p f rest.tail log n rv lv (rest.headD noF)) := by
  cases rest with
  | nil => exact link_next_none k
  | cons x t =>
    have ht : t.length ≤ 1000000 := by rw [List.length_cons] at hl; omega
    exact link_next_some k ht
theorem link_harms {w : World} {P B : Nat} {h p f : ByteArray} {rest : List Flt} {log : List Evt} {n : Nat} {rv lv : Value} (k : LAt w P B h p f rest log n rv lv) : Calls Tryz.prog 17 #[.pointer (some ⟨P, 0, none⟩)] w fun e w' => e = .returned (.int .i64 (n : Nat)) ∧ w' = w := by
  obtain ⟨⟨-, -, -, -, -, c5⟩, -⟩ := k.cells
  clear k
  go_enter Tryz.func17, Tryz.ntmps17
  go_wp2_with fail
  go_ret
  exact ⟨rfl, rfl⟩
end Go.Proofs.YtbdmmgmcbecolaaGreatDoor
namespace Go.Proofs.YtbdmmgmcbecolaaGreatDoor
open Go.RowKit
/-- a fault that a variable may hold -/
structure FltOk (x : Flt) : Prop where
  k0 : 0 ≤ x.1
  n0 : -9223372036854775808 ≤ x.2.1
  n1 : x.2.1 ≤ 9223372036854775807
  t : x.2.2.size ≤ 10000
theorem noF_ok : FltOk noF := ⟨by decide, by decide, by decide, by decide⟩
def AskPost (w : World) (P B : Nat) (h p f : ByteArray) (rest : List Flt) (log : List Evt) (n : Nat) (rv lv : Value) (s : ByteArray) (e : Ending) (w' : World) : Prop :=
  e = .returned (.string (gotK h p f (rest.headD noF) s)) ∧ ∃ rv' lv', LAt w' P B h p f rest.tail (log ++ [evK h p f (rest.headD noF) s]) (n + oneK (hurtK h p f (rest.headD noF) s)) rv' lv' ∧ Touch (LS P lv) w w' ∧ (∀ g, ablk rv' = some g → ablk rv = some g) ∧ ∀ g, lv'.ownBlock = some g → lv.ownBlock = some g ∨ w.heap.size ≤ g
theorem touchP {P : Nat} {lv : Value} {w w' : World} (h : Touch (fun g => g = P) w w') : Touch (LS P lv) w w' := h.mono (fun _ hg => .inl hg)
set_option maxRecDepth 100000 in
set_option maxHeartbeats 4000000 in
theorem link_ask {w : World} {P B : Nat} {h p f : ByteArray} {rest : List Flt} {log : List Evt} {n : Nat} {rv lv : Value} (s : ByteArray) (k : LAt w P B h p f rest log n rv lv) (hE : ∀ W, Touch (LS P lv) w W → EnvF W) (hs : s.size ≤ 1000000) (hf : f.size ≤ 100000) (hx : FltOk (rest.headD noF)) (hrl : rest.length ≤ 1000000) (hll : log.length ≤ 1000000) (hn : n ≤ 1000000) (hB : B ≤ w.heap.size) :
    Calls Tryz.prog 34 #[.pointer (some ⟨P, 0, none⟩), .string s] w (AskPost w P B h p f rest log n rv lv s) := by
  obtain ⟨⟨c0, c1, c2, c3, c4, c5⟩, f3, f4, f5⟩ := k.cells
  obtain ⟨X, hX⟩ : ∃ X, rest.headD noF = X := ⟨_, rfl⟩
  have HNX := Lib.hid (fun W (kk : LAt W P B h p f rest log n rv lv) => link_next kk hrl)
  unfold AskPost
  rw [hX] at hx HNX ⊢
  have hws := whole_size h p f s (by omega)
  have hht := hurt_eq h p f X s
  have HA : Hid (∀ W, Below w.heap.size w W → Calls Tryz.prog 62 #[.agg #[.string h, .string p, .string f], .string s] W fun e w' => e = .returned (.string (wholeK h p f s)) ∧ Below W.heap.size W w') := Lib.hid (fun W hW => origin_answer h p f s W ((hE w (Touch.refl _ _)).below hW) hs (by omega))
  have HAP : Hid (∀ W, Touch (LS P lv) w W → Calls Tryz.prog 63 #[.agg #[.int .u8 X.1, .int .i64 X.2.1, .string X.2.2], .string (wholeK h p f s)] W fun e w' => e = .returned (.string (gotK h p f X s)) ∧ Below W.heap.size W w') := Lib.hid (fun W hW => fault_apply X.1 X.2.1 X.2.2 (wholeK h p f s) W (hE W hW).weak hx.k0 hx.n0 hx.n1 hx.t (by omega))
  have HEV : Hid (evK h p f X s = ((s.size : Int), ((gotK h p f X s).size : Int), hurtK h p f X s)) := Lib.hid rfl
  generalize evK h p f X s = EV at HEV ⊢
  generalize wholeK h p f s = Wh at hws hht HA HAP
  generalize gotK h p f X s = G at hht HAP HEV ⊢
  generalize hurtK h p f X s = hb at hht HEV ⊢
  obtain ⟨x1, x2, x3⟩ := X
  have HK := Lib.hid k
  have HKW := Lib.hid (fun W (hW : Below w.heap.size w W) => k.below hW)
  have HBs := Lib.hid (And.intro hB (And.intro hll hn))
  have tw : IntKind.i64.wrap ((n : Int) + 1) = (n : Int) + 1 := by rw [IntKind.wrap_i64]; omega
  clear k hE hs hf hx hrl hX hws c3 c4 c5 f3 f4 f5 hB hll hn
  go_enter Tryz.func34, Tryz.ntmps34
  go_wp2_with fail
  refine (HA.out _ (Below.refl _ _)).mono ?_
  rintro e wa ⟨rfl, hba⟩
  have HA1 : Hid (Below w.heap.size w wa) := Lib.hid hba
  clear hba
  clear c0 c1 c2
  go_wp2_with fail
  refine (HNX.out _ (HKW.out _ HA1.out)).mono ?_
  rintro e w2 ⟨rfl, rv2, k2, t2, hr2⟩
  have HT2 := Lib.hid ((Touch.of_below (S := LS P lv) HA1.out).trans (touchP (lv := lv) t2) (fun g hg => .inl hg))
  have HK2 := Lib.hid k2
  have HR2 := Lib.hid hr2
  clear k2 t2 hr2 HNX HKW
  go_wp2_with fail
  refine (HAP.out _ HT2.out).mono ?_
  rintro e w3 ⟨rfl, hb3⟩
  have HK3 := Lib.hid (HK2.out.below hb3)
  have HT3 := Lib.hid (HT2.out.trans (Touch.of_below (S := LS P lv) hb3) (fun g hg => .inl hg))
  obtain ⟨⟨c0, c1, c2, c3, c4, c5⟩, f3, f4, f5⟩ := HK3.out.cells
  clear hb3 HT2 HK2 HAP HA HA1
  cases hb with
  | true =>
    have hq : (G.toList == Wh.toList) = false := by rw [eq_comm, Bool.not_eq_true'] at hht; exact hht
    have hq2 : ¬ (G.toList = Wh.toList) := by rw [beq_eq_false_iff_ne] at hq; exact hq
    have HK5 := Lib.hid (HK3.out.setHarm (m := n + 1))
    have HT5 := Lib.hid (touch_set (a := ⟨P, 5, none⟩) (.int .i64 ((n + 1 : Nat) : Int)) HT3.out (.inl (.inl rfl)))
    have hc5 := HK5.out.cells.1.2.2.2.2.1
    rw [show ((n + 1 : Nat) : Int) = (n : Int) + 1 from Int.natCast_add n 1] at HK5 HT5 hc5
    clear hht HK3 HT3
    go_wp2_with (at_builtin; go_loud (refine append_log 59 _ 24 Tryz.underlying59 info_evt rfl (by decide) _ HK5.out _ _ _ (by rfl) _ _ (by rfl) (by rfl) (by rw [set_size]; rfl) HBs.out.2.1 (Nat.le_trans HBs.out.1 HT5.out.size) ?_); intro g m cap w6 hc6 hf6 hk6 ht6 hd6)
    go_ret
    refine ⟨rfl, rv2, .slice (some ⟨g, 0, none⟩) m cap, ?_, HT5.out.trans ht6 (fun g hg => .inl hg), HR2.out, fun g' hg' => ?_⟩
    · rw [HEV.out]; exact hk6
    · injection hg' with e
      subst e
      exact hd6.imp id (fun h => Nat.le_trans HT5.out.size h)
  | false =>
    have hq : (G.toList == Wh.toList) = true := by rw [eq_comm, Bool.not_eq_false'] at hht; exact hht
    have hq2 : G.toList = Wh.toList := by rw [beq_iff_eq] at hq; exact hq
    clear hht
    go_wp2_with (at_builtin; go_loud (refine append_log 59 _ 24 Tryz.underlying59 info_evt rfl (by decide) _ HK3.out _ _ _ (by rfl) _ _ (by rfl) (by rfl) (by rfl) HBs.out.2.1 (Nat.le_trans HBs.out.1 HT3.out.size) ?_); intro g m cap w6 hc6 hf6 hk6 ht6 hd6)
    go_ret
    refine ⟨rfl, rv2, .slice (some ⟨g, 0, none⟩) m cap, ?_, HT3.out.trans ht6 (fun g hg => .inl hg), HR2.out, fun g' hg' => ?_⟩
    · rw [HEV.out]; exact hk6
    · injection hg' with e
      subst e
      exact hd6.imp id (fun h => Nat.le_trans HT3.out.size h)
end Go.Proofs.YtbdmmgmcbecolaaGreatDoor
namespace Go.Proofs.YtbdmmgmcbecolaaGreatDoor
open Go.RowKit
theorem harms_le (l : List Evt) : harmsK l ≤ l.length := List.countP_le_length
theorem drop_tail (l : List Flt) (k : Nat) : (l.drop k).tail = l.drop (k + 1) := by rw [List.tail_drop]
end Go.Proofs.YtbdmmgmcbecolaaGreatDoor
namespace Go.Proofs.YtbdmmgmcbecolaaGreatDoor
open Go.RowKit
/-- a link that lies behind the world w0, in whose log all is new -/
structure KL (w0 w : World) (P : Nat) (h p f : ByteArray) (rest : List Flt) (log : List Evt) (n : Nat) (rv lv : Value) : Prop where
  a : LAt w P w0.heap.size h p f rest log n rv lv
  lo : w0.heap.size ≤ P
  bel : Below w0.heap.size w0 w
theorem KL.low {w0 w : World} {P : Nat} {h p f : ByteArray} {rest : List Flt} {log : List Evt} {n : Nat} {rv lv : Value} (k : KL w0 w P h p f rest log n rv lv) : ∀ g, LS P lv g → w0.heap.size ≤ g := fun g hg => by
  rcases hg with rfl | hg
  · exact k.lo
  · exact (k.a.own.lt g hg).1
theorem KL.step {w0 w w' : World} {P : Nat} {h p f : ByteArray} {rest : List Flt} {log : List Evt} {n : Nat} {rv lv : Value} (k : KL w0 w P h p f rest log n rv lv) (hb : Below w.heap.size w w') : KL w0 w' P h p f rest log n rv lv := ⟨k.a.below hb, k.lo, bstep k.bel hb⟩
theorem KL.env {w0 w : World} {P : Nat} {h p f : ByteArray} {rest : List Flt} {log : List Evt} {n : Nat} {rv lv : Value} (k : KL w0 w P h p f rest log n rv lv) (hE : EnvF w0) : ∀ W, Touch (LS P lv) w W → EnvF W := fun W ht =>
  hE.below (k.bel.trans (ht.below k.low k.bel.size))
/-- what another link's request does to a link: nothing -/
theorem KL.beside {w0 w w' : World} {P P2 : Nat} {h p f h2 p2 f2 : ByteArray} {rest rest2 : List Flt} {log log2 : List Evt} {n n2 : Nat} {rv lv rv2 lv2 : Value} (k : KL w0 w P h p f rest log n rv lv) (k2 : KL w0 w P2 h2 p2 f2 rest2 log2 n2 rv2 lv2) (hne : P ≠ P2) (hd : lv.ownBlock = none ∨ lv.ownBlock ≠ lv2.ownBlock) (ht : Touch (LS P2 lv2) w w') : KL w0 w' P h p f rest log n rv lv := by
  refine ⟨k.a.touch ht ?_ ?_ ?_, k.lo, k.bel.trans (ht.below k2.low k.bel.size)⟩
  · rintro (e | e)
    · exact hne e
    · exact own_not_row k2.a.own k.a.blk (by decide) e
  · rintro b hb (e | e)
    · obtain ⟨C, hC⟩ := k.a.tag b hb
      rw [e, k2.a.blk] at hC
      simp only [Option.some.injEq, Obj.cells.injEq] at hC
      exact absurd hC.2.1 (by decide)
    · obtain ⟨C, hC⟩ := k.a.tag b hb
      exact own_not_row k2.a.own hC (by decide) e
  · rintro g hg (e | e)
    · exact own_not_row k.a.own k2.a.blk (by decide) (by rw [hg]; exact congrArg some e)
    · rcases hd with hd | hd
      · rw [hd] at hg; cases hg
      · exact hd (by rw [hg, e])
def KAsk (w0 w : World) (P : Nat) (h p f : ByteArray) (rest : List Flt) (log : List Evt) (n : Nat) (rv lv : Value) (s : ByteArray) (e : Ending) (w' : World) : Prop :=
  e = .returned (.string (gotK h p f (rest.headD noF) s)) ∧ ∃ rv' lv', KL w0 w' P h p f rest.tail (log ++ [evK h p f (rest.headD noF) s]) (n + oneK (hurtK h p f (rest.headD noF) s)) rv' lv' ∧ Touch (LS P lv) w w' ∧ ∀ g, lv'.ownBlock = some g → lv.ownBlock = some g ∨ w.heap.size ≤ g
theorem KL.ask {w0 w : World} {P : Nat} {h p f : ByteArray} {rest : List Flt} {log : List Evt} {n : Nat} {rv lv : Value} (k : KL w0 w P h p f rest log n rv lv) (hE : EnvF w0) (s : ByteArray) (hs : s.size ≤ 1000000) (hf : f.size ≤ 100000) (hx : FltOk (rest.headD noF)) (hrl : rest.length ≤ 1000000) (hll : log.length ≤ 1000000) (hn : n ≤ 1000000) :
    Calls Tryz.prog 34 #[.pointer (some ⟨P, 0, none⟩), .string s] w (KAsk w0 w P h p f rest log n rv lv s) := by
  refine (link_ask s k.a (k.env hE) hs hf hx hrl hll hn k.bel.size).mono ?_
  rintro e w' ⟨rfl, rv', lv', ha, ht, -, hl⟩
  exact ⟨rfl, rv', lv', ⟨ha, k.lo, k.bel.trans (ht.below k.low k.bel.size)⟩, ht, hl⟩
theorem KL.new {w0 w w' : World} {h p f : ByteArray} {l : List Flt} {e : Ending} (hb : Below w0.heap.size w0 w) (hn : NewPost h p f l w e w') : ∃ P rv, e = .returned (.tuple #[.pointer (some ⟨P, 0, none⟩), .int .i64 0]) ∧ w.heap.size ≤ P ∧ KL w0 w' P h p f l [] 0 rv (.slice none 0 0) ∧ Below w.heap.size w w' := by
  obtain ⟨b, rv, rfl, h1, h2, h3, h4⟩ := hn
  have hs := hb.size
  exact ⟨b, rv, rfl, h1, ⟨⟨h2.blk, h2.hold, h2.tag, own_lowerF h2.own hs⟩, Nat.le_trans hs h1, bstep hb h4⟩, h4⟩
theorem flt_ok {l : List Flt} (h : ∀ x ∈ l, FltOk x) (k : Nat) : FltOk ((l.drop k).headD noF) := by
  cases e : l.drop k with
  | nil => exact noF_ok
  | cons x t => exact h x (List.mem_of_mem_drop (by rw [e]; exact List.mem_cons_self ..))
end Go.Proofs.YtbdmmgmcbecolaaGreatDoor
namespace Go.Proofs.YtbdmmgmcbecolaaGreatDoor
open Go.RowKit
theorem alloc3_facts (w : World) (x y z : Obj) : (((w.alloc x).alloc y).alloc z).heap[w.heap.size]? = some x ∧ (((w.alloc x).alloc y).alloc z).heap[w.heap.size + 1]? = some y ∧ (((w.alloc x).alloc y).alloc z).heap[w.heap.size + 1 + 1]? = some z ∧ Below w.heap.size w (((w.alloc x).alloc y).alloc z) := by
  have h1 := heap_alloc_new w x
  have h2 := heap_alloc_new (w.alloc x) y
  have h3 := heap_alloc_new ((w.alloc x).alloc y) z
  have b2 : Below (w.alloc x).heap.size (w.alloc x) ((w.alloc x).alloc y) := (Below.refl _ _).alloc (Nat.le_refl _) _
  have b3 : Below ((w.alloc x).alloc y).heap.size ((w.alloc x).alloc y) (((w.alloc x).alloc y).alloc z) := (Below.refl _ _).alloc (Nat.le_refl _) _
  have s1 : (w.alloc x).heap.size = w.heap.size + 1 := by simp
  have s2 : ((w.alloc x).alloc y).heap.size = w.heap.size + 1 + 1 := by simp
  rw [s1] at h2
  rw [s2] at h3
  refine ⟨?_, ?_, h3, bstep (bstep ((Below.refl _ _).alloc (Nat.le_refl _) _) b2) b3⟩
  · exact (b3.block _ (by rw [s2]; omega)).trans ((b2.block _ (by rw [s1]; omega)).trans h1)
  · exact (b3.block _ (by rw [s2]; omega)).trans h2
end Go.Proofs.YtbdmmgmcbecolaaGreatDoor
namespace Go.Proofs.YtbdmmgmcbecolaaGreatDoor
open Go.RowKit
structure K2 (w0 w : World) (P Q : Nat) (h p f : ByteArray) (r1 r2 : List Flt) (g1 g2 : List Evt) (n1 n2 : Nat) (rv1 rv2 lv1 lv2 : Value) : Prop where
  a : KL w0 w P h p f r1 g1 n1 rv1 lv1
  b : KL w0 w Q h p f r2 g2 n2 rv2 lv2
  ne : P ≠ Q
  ap : ∀ g, lv1.ownBlock = some g → lv2.ownBlock ≠ some g
section
variable {w0 w w' : World} {P Q : Nat} {h p f : ByteArray} {r1 r2 : List Flt} {g1 g2 : List Evt} {n1 n2 : Nat} {rv1 rv2 lv1 lv2 : Value}
theorem K2.step (k : K2 w0 w P Q h p f r1 r2 g1 g2 n1 n2 rv1 rv2 lv1 lv2) (hb : Below w.heap.size w w') : K2 w0 w' P Q h p f r1 r2 g1 g2 n1 n2 rv1 rv2 lv1 lv2 := ⟨k.a.step hb, k.b.step hb, k.ne, k.ap⟩
theorem K2.besides (k : K2 w0 w P Q h p f r1 r2 g1 g2 n1 n2 rv1 rv2 lv1 lv2) (ht : Touch (LS P lv1) w w') : KL w0 w' Q h p f r2 g2 n2 rv2 lv2 :=
  k.b.beside k.a (fun e => k.ne e.symm) (by
    cases e : lv2.ownBlock with
    | none => exact .inl rfl
    | some g => exact .inr (fun e2 => k.ap g e2.symm e)) ht
theorem K2.asked (k : K2 w0 w P Q h p f r1 r2 g1 g2 n1 n2 rv1 rv2 lv1 lv2) {s : ByteArray} {e : Ending} (ha : KAsk w0 w P h p f r1 g1 n1 rv1 lv1 s e w') : e = .returned (.string (gotK h p f (r1.headD noF) s)) ∧ ∃ rv' lv', K2 w0 w' P Q h p f r1.tail r2 (g1 ++ [evK h p f (r1.headD noF) s]) g2 (n1 + oneK (hurtK h p f (r1.headD noF) s)) n2 rv' rv2 lv' lv2 := by
  obtain ⟨rfl, rv', lv', hk, ht, hl⟩ := ha
  refine ⟨rfl, rv', lv', hk, k.besides ht, k.ne, ?_⟩
  intro g hg e
  rcases hl g hg with h1 | h1
  · exact k.ap g h1 e
  · have := (k.b.a.own.lt g e).2; omega
theorem K2.make (k : KL w0 w P h p f r1 g1 n1 rv1 lv1) (k2 : KL w0 w' Q h p f r2 g2 n2 rv2 lv2) (hQ : w.heap.size ≤ Q) (hb : Below w.heap.size w w') (hl : ∀ g, lv2.ownBlock = some g → w.heap.size ≤ g) : K2 w0 w' P Q h p f r1 r2 g1 g2 n1 n2 rv1 rv2 lv1 lv2 :=
  ⟨k.step hb, k2, by have := k.a.lt; omega, fun g hg e => by have := hl g e; have := (k.a.own.lt g hg).2; omega⟩
/-- what is written into a block of faults that neither link has -/
theorem K2.beside (k : K2 w0 w P Q h p f r1 r2 g1 g2 n1 n2 rv1 rv2 lv1 lv2) {G : Nat} {C : Array Value} (hG : w.heap[G]? = some (.cells C 65 (0, 0))) (hlo : w0.heap.size ≤ G) (h1 : ablk rv1 ≠ some G) (h2 : ablk rv2 ≠ some G) (ht : Touch (fun g => g = G) w w') : K2 w0 w' P Q h p f r1 r2 g1 g2 n1 n2 rv1 rv2 lv1 lv2 := by
  have hb : Below w0.heap.size w0 w' := k.a.bel.trans (ht.below (fun g hg => by rw [show g = G from hg]; exact hlo) k.a.bel.size)
  have one : ∀ {P : Nat} {r : List Flt} {g : List Evt} {n : Nat} {rv lv : Value}, KL w0 w P h p f r g n rv lv → ablk rv ≠ some G → KL w0 w' P h p f r g n rv lv := fun kk hr => by
    refine ⟨kk.a.touch ht ?_ ?_ ?_, kk.lo, hb⟩
    · intro e
      have e2 := kk.a.blk
      rw [show _ = G from e, hG] at e2
      simp only [Option.some.injEq, Obj.cells.injEq] at e2
      exact absurd e2.2.1 (by decide)
    · intro b hb e
      exact hr (by rw [hb]; exact congrArg some e)
    · intro b hb e
      exact own_not_row kk.a.own hG (by decide) (by rw [hb]; exact congrArg some e)
  exact ⟨one k.a h1, one k.b h2, k.ne, k.ap⟩
end
end Go.Proofs.YtbdmmgmcbecolaaGreatDoor
namespace Go.Proofs.YtbdmmgmcbecolaaGreatDoor
open Go.RowKit
def FaultsPost (l : List Flt) (w : World) (e : Ending) (w' : World) : Prop :=
  ∃ a c, e = .returned (.slice a l.length c) ∧ w'.ownsRow w.heap.size 65 3 (.slice a l.length c) l.length (flts l) ∧ Below w.heap.size w w'
set_option maxRecDepth 100000 in
set_option maxHeartbeats 2000000 in
theorem law29_faults (v : Value) (l : List Flt) (w : World) (hv : HoldsC w v l) (hlen : l.length < 2147483647) :
    Calls Tryz.prog 37 #[v] w (FaultsPost l w) := by
  obtain ⟨a, c, rfl, hc, hx⟩ := hv
  have HX := Lib.hid hx
  clear hx
  go_enter Tryz.func37, Tryz.ntmps37
  go_wp2_with fail
  go_loopw [3, 4] (fun u i wr => ∃ k : Nat, k ≤ l.length ∧ i = .int .i64 k ∧ wr.ownsRow w.heap.size 65 3 u k (flts (l.take k)) ∧ Below w.heap.size w wr) (fun _ i _ => l.length - (intOf i).toNat)
  case atStart => exact ⟨0, by omega, rfl, World.ownsRow_nil _ _ _ _, Below.refl _ _⟩
  case round =>
    obtain ⟨k, hk, rfl, hown, hb⟩ := hrel
    by_cases hlt : k < l.length
    · obtain ⟨b, o, rfl, hbl, hcell⟩ := HX.out (fun e => by rw [e] at hlt; exact absurd hlt (Nat.not_lt_zero _))
      obtain ⟨y0, y1, y2⟩ := hcell k hlt
      rw [Nat.mul_comm 3 k] at y0 y1 y2
      have c0 := (hb.cell (p := ⟨b, o + k * 3, none⟩) hbl).trans y0
      have c1 := (hb.cell (p := ⟨b, o + k * 3 + 1, none⟩) hbl).trans y1
      have c2 := (hb.cell (p := ⟨b, o + k * 3 + 2, none⟩) hbl).trans y2
      have hstep : flts (l.take (k + 1)) = flts (l.take k) ++ [.int .u8 l[k].1, .int .i64 l[k].2.1, .string l[k].2.2] := by rw [List.take_succ_eq_append_getElem hlt, flts_append]; rfl
      obtain ⟨X, hX⟩ : ∃ X, l[k] = X := ⟨_, rfl⟩
      rw [hX] at c0 c1 c2 hstep
      obtain ⟨x1, x2, x3⟩ := X
      have hst := Lib.hid hstep
      clear hcell HX y0 y1 y2 hX hstep
      go_wp2_with (at_builtin; go_loud (refine append3 66 65 _ 32 Tryz.underlying66 info_flt rfl (by decide) wr (.int .u8 x1) (.int .i64 x2) (.string x3) rfl rfl rfl (by rfl) _ _ (by rfl) w.heap.size _ k _ (by rfl) hown (by rfl) (by omega) hb.size ?_); intro g cap w1 hown1 hg1 hd1)
      go_roundw
      case rel => exact ⟨k + 1, by omega, by go_num, by rw [hst.out]; exact hown1, below_ownF hb hg1 hown (Nat.le_refl _) hb.size⟩
      case measure => simp [intOf]; omega
    · obtain rfl : k = l.length := by omega
      rw [List.take_length] at hown
      obtain ⟨a', c', rfl⟩ := slice_of_own hown
      go_wp2_with fail
      go_ret
      exact ⟨_, _, rfl, hown, hb⟩
end Go.Proofs.YtbdmmgmcbecolaaGreatDoor
namespace Go.Proofs.YtbdmmgmcbecolaaGreatDoor
open Go.RowKit
end Go.Proofs.YtbdmmgmcbecolaaGreatDoor
namespace Go.Proofs.YtbdmmgmcbecolaaGreatDoor
open Go.RowKit
theorem grown_touch {w w' : World} {v : Value} (hg : w.grownBy w' v.ownBlock) : Touch (fun g => v.ownBlock = some g) w w' := Touch.of_grown hg (fun g h => .inl h)
/-- an owned row of another type grows beside a link -/
theorem KL.row {w0 w w' : World} {P : Nat} {h p f : ByteArray} {rest : List Flt} {log : List Evt} {n : Nat} {rv lv : Value} (k : KL w0 w P h p f rest log n rv lv) {b sz m : Nat} {e : TypeId} {v : Value} {xs : List Value} (ho : w.ownsRow b e sz v m xs) (h1 : e ≠ 97) (h2 : e ≠ 107) (h3 : e ≠ 65) (hlo : w0.heap.size ≤ b) (hg : w.grownBy w' v.ownBlock) : KL w0 w' P h p f rest log n rv lv := by
  have ht := grown_touch hg
  refine ⟨k.a.touch ht ?_ ?_ ?_, k.lo, k.bel.trans (ht.below (fun g hg => Nat.le_trans hlo (ho.lt g hg).1) k.bel.size)⟩
  · exact fun e1 => own_not_row ho k.a.blk h1 e1
  · intro b hb e1
    obtain ⟨C, hC⟩ := k.a.tag b hb
    exact own_not_row ho hC h3 e1
  · intro g hg e1
    exact (own_apart ho k.a.own h2).elim (fun e3 => by rw [e1] at e3; cases e3) (fun e3 => e3 (by rw [e1, hg]))
theorem K2.row {w0 w w' : World} {P Q : Nat} {h p f : ByteArray} {r1 r2 : List Flt} {g1 g2 : List Evt} {n1 n2 : Nat} {rv1 rv2 lv1 lv2 : Value} (k : K2 w0 w P Q h p f r1 r2 g1 g2 n1 n2 rv1 rv2 lv1 lv2) {b sz m : Nat} {e : TypeId} {v : Value} {xs : List Value} (ho : w.ownsRow b e sz v m xs) (h1 : e ≠ 97) (h2 : e ≠ 107) (h3 : e ≠ 65) (hlo : w0.heap.size ≤ b) (hg : w.grownBy w' v.ownBlock) : K2 w0 w' P Q h p f r1 r2 g1 g2 n1 n2 rv1 rv2 lv1 lv2 :=
  ⟨k.a.row ho h1 h2 h3 hlo hg, k.b.row ho h1 h2 h3 hlo hg, k.ne, k.ap⟩
end Go.Proofs.YtbdmmgmcbecolaaGreatDoor
namespace Go.Proofs.YtbdmmgmcbecolaaGreatDoor
open Go.RowKit
end Go.Proofs.YtbdmmgmcbecolaaGreatDoor
namespace Go.Proofs.YtbdmmgmcbecolaaGreatDoor
open Go.RowKit
end Go.Proofs.YtbdmmgmcbecolaaGreatDoor
namespace Go.Proofs.YtbdmmgmcbecolaaGreatDoor
open Go.RowKit

theorem len_two {α : Type} {l : List α} (h : l.length = 2) : ∃ a b, l = [a, b] := by
  cases l with
  | nil => simp at h
  | cons a t => cases t with
    | nil => simp at h
    | cons b u => cases u with
      | nil => exact ⟨a, b, rfl⟩
      | cons c v => simp at h
end Go.Proofs.YtbdmmgmcbecolaaGreatDoor
namespace Go.Proofs.YtbdmmgmcbecolaaGreatDoor
open Go.RowKit
def HoldsR (w : World) (v : Value) (rs : List (Int × Int)) : Prop :=
  ∃ a c, v = .slice a rs.length c ∧ rs.length ≤ c ∧ (rs ≠ [] → ∃ b o, a = some ⟨b, o, none⟩ ∧ b < w.heap.size ∧ ∀ j (hj : j < rs.length), w.cell? ⟨b, o + j * 2, none⟩ = some (.int .i64 rs[j].1) ∧ w.cell? ⟨b, o + j * 2 + 1, none⟩ = some (.int .i64 rs[j].2))
theorem HoldsR.nil (w : World) (a : Option Addr) (c : Nat) : HoldsR w (.slice a 0 c) [] := ⟨a, c, rfl, Nat.zero_le _, fun h => absurd rfl h⟩
def RangesArg (W : World) (v : Value) (rs : List (Int × Int)) : Prop := HoldsR W v rs ∧ (∀ r ∈ rs, (Lit.int .i64 r.1).wf = true ∧ (Lit.int .i64 r.2).wf = true) ∧ rs.length ≤ maxLen
theorem int_cell {H : Type} {enc : TypeId × Value → H} {W : World} {n : Nat} {cs : List Value} {x : DataW H × List MemPlace} (h : DataW.trod enc Tryz.prog W 0 (fun _ => true) true n 3 cs = some x) : ∃ k : Int, cs = [.int .i64 k] ∧ (Lit.int .i64 k).wf = true := by
  obtain ⟨k, h1, h2, h3⟩ := DataW.trod_int Tryz.underlying3 h
  exact ⟨k, h1, h3⟩
set_option maxRecDepth 10000 in
theorem rangesArg_of {H : Type} {enc : TypeId × Value → H} {W : World} {b : Option Addr} {n c : Nat} {d : DataW H} {p : List MemPlace}
    (h : DataW.Trod enc Tryz.prog W 0 (fun _ => true) true 42 (.slice b n c) d p) : ∃ fs, RangesArg W (.slice b n c) fs := by
  obtain ⟨fuel, hf⟩ := h
  rcases Go.Deep.open_slice Tryz.underlying42 hf with ⟨hcs, _⟩ | ⟨a, len, cap, m, q, D, Pl, hcs, _, hl, hm, hmm, _, hi⟩
  · simp [Value.cells] at hcs
    obtain ⟨rfl, rfl, rfl⟩ := hcs
    exact ⟨[], HoldsR.nil W none 0, fun f hf => by simp at hf, by unfold maxLen; simp⟩
  · simp [Value.cells] at hcs
    obtain ⟨rfl, rfl, rfl⟩ := hcs
    have hC : Tryz.prog.cellsOf 23 = 2 := by kernel_rfl
    have hS : Tryz.prog.cellsOf 3 = 1 := by kernel_rfl
    have key : ∀ i, ∃ f : Int × Int, i < n → W.cell? (a.add (i * 2)) = some (.int .i64 f.1) ∧ W.cell? (a.add (i * 2 + 1)) = some (.int .i64 f.2) ∧ (Lit.int .i64 f.1).wf = true ∧ (Lit.int .i64 f.2).wf = true := by
      intro i
      by_cases hin : i < n
      · obtain ⟨cs', hc', ht⟩ := hi i (by rw [hmm]; simp; omega)
        rw [hC] at hc'
        obtain ⟨_, hcl, hcell⟩ := World.cells?_some hc'
        obtain ⟨xs, k, _, _, hcl2, hxl, hg⟩ := DataW.trod_struct Tryz.underlying23 ht
        obtain ⟨u0, u1, rfl⟩ := len_two hcl
        have hxl2 : xs.length = 2 := hxl
        obtain ⟨z0, z1, rfl⟩ := len_two hxl2
        have g0 : DataW.trod enc Tryz.prog W 0 (fun _ => true) true k 3 (([u0, u1].drop 0).take (Tryz.prog.cellsOf 3)) = some z0 := hg 0 _ rfl
        have g1 : DataW.trod enc Tryz.prog W 0 (fun _ => true) true k 3 (([u0, u1].drop 1).take (Tryz.prog.cellsOf 3)) = some z1 := hg 1 _ rfl
        rw [hS] at g0 g1
        obtain ⟨l0, e0, b0⟩ := int_cell g0
        obtain ⟨l1, e1, b1⟩ := int_cell g1
        have c0 := hcell 0 (by omega)
        have c1 := hcell 1 (by omega)
        rw [Go.Deep.add_add] at c0 c1
        simp at e0 e1 c0 c1
        subst e0 e1
        exact ⟨(l0, l1), fun _ => ⟨c0, c1, b0, b1⟩⟩
      · exact ⟨(0, 0), fun h => absurd h hin⟩
    obtain ⟨g, hg⟩ := Classical.skolem.1 key
    have hlen : ((List.range n).map g).length = n := by simp
    refine ⟨(List.range n).map g, ⟨some a, c, by rw [hlen], by rw [hlen]; exact hl, fun hne => ?_⟩, ?_, by rw [hlen]; omega⟩
    · have hpos : 0 < n := by
        rcases Nat.eq_zero_or_pos n with h0 | h0
        · subst h0; simp at hne
        · exact h0
      have h0 := (hg 0 hpos).1
      obtain ⟨b, o, sp⟩ := a
      have hsp : sp = none := by simpa [Addr.add] using World.cell?_spot h0
      subst hsp
      have ea : ∀ k, (⟨b, o, none⟩ : Addr).add k = ⟨b, o + k, none⟩ := fun k => by unfold Addr.add; split <;> simp_all
      refine ⟨b, o, rfl, by have := World.block_lt_of_cell? _ _ h0; simpa [Addr.add] using this, fun j hj => ?_⟩
      rw [hlen] at hj
      have hj2 := hg j hj
      rw [ea, ea] at hj2
      rw [List.getElem_map, List.getElem_range]
      exact ⟨hj2.1, hj2.2.1⟩
    · intro f hf
      obtain ⟨i, hi', rfl⟩ := List.mem_map.1 hf
      exact (hg i (List.mem_range.1 hi')).2.2
end Go.Proofs.YtbdmmgmcbecolaaGreatDoor
namespace Go.Proofs.YtbdmmgmcbecolaaGreatDoor
open Go.RowKit
/-- the slice v reads as the faults l, each within the bounds of its type -/
def FaultsArg (W : World) (v : Value) (l : List Flt) : Prop := HoldsC W v l ∧ (∀ x ∈ l, (Lit.int .u8 x.1).wf = true ∧ (Lit.int .i64 x.2.1).wf = true) ∧ l.length ≤ maxLen
theorem u8_cell {H : Type} {enc : TypeId × Value → H} {W : World} {n : Nat} {cs : List Value} {x : DataW H × List MemPlace} (h : DataW.trod enc Tryz.prog W 0 (fun _ => true) true n 5 cs = some x) : ∃ k : Int, cs = [.int .u8 k] ∧ (Lit.int .u8 k).wf = true := by
  obtain ⟨k, h1, h2, h3⟩ := DataW.trod_int Tryz.underlying5 h
  exact ⟨k, h1, h3⟩
theorem str_cell {H : Type} {enc : TypeId × Value → H} {W : World} {n : Nat} {cs : List Value} {x : DataW H × List MemPlace} (h : DataW.trod enc Tryz.prog W 0 (fun _ => true) true n 9 cs = some x) : ∃ s : ByteArray, cs = [.string s] ∧ s.size ≤ maxLen := by
  obtain ⟨k, h1, h2, h3⟩ := DataW.trod_string Tryz.underlying9 h
  exact ⟨k, h1, h3⟩
theorem len_3 {α : Type} {l : List α} (h : l.length = 3) : ∃ a b c, l = [a, b, c] := by
  match l, h with
  | [a, b, c], _ => exact ⟨a, b, c, rfl⟩
set_option maxRecDepth 10000 in
theorem faultsArg_of {H : Type} {enc : TypeId × Value → H} {W : World} {b : Option Addr} {n c : Nat} {d : DataW H} {p : List MemPlace}
    (h : DataW.Trod enc Tryz.prog W 0 (fun _ => true) true 39 (.slice b n c) d p) : ∃ fs, FaultsArg W (.slice b n c) fs := by
  obtain ⟨fuel, hf⟩ := h
  rcases Go.Deep.open_slice Tryz.underlying39 hf with ⟨hcs, _⟩ | ⟨a, len, cap, m, q, D, Pl, hcs, _, hl, hm, hmm, _, hi⟩
  · simp [Value.cells] at hcs
    obtain ⟨rfl, rfl, rfl⟩ := hcs
    exact ⟨[], HoldsC.empty W none 0, fun f hf => by simp at hf, by unfold maxLen; simp⟩
  · simp [Value.cells] at hcs
    obtain ⟨rfl, rfl, rfl⟩ := hcs
    have hC : Tryz.prog.cellsOf 148 = 3 := by kernel_rfl
    have hS0 : Tryz.prog.cellsOf 5 = 1 := by kernel_rfl
    have hS1 : Tryz.prog.cellsOf 3 = 1 := by kernel_rfl
    have hS2 : Tryz.prog.cellsOf 9 = 1 := by kernel_rfl
    have key : ∀ i, ∃ f : Flt, i < n → W.cell? (a.add (i * 3)) = some (.int .u8 f.1) ∧ W.cell? (a.add (i * 3 + 1)) = some (.int .i64 f.2.1) ∧ W.cell? (a.add (i * 3 + 2)) = some (.string f.2.2) ∧ (Lit.int .u8 f.1).wf = true ∧ (Lit.int .i64 f.2.1).wf = true := by
      intro i
      by_cases hin : i < n
      · obtain ⟨cs', hc', ht⟩ := hi i (by rw [hmm]; simp; omega)
        rw [hC] at hc'
        obtain ⟨_, hcl, hcell⟩ := World.cells?_some hc'
        obtain ⟨xs, k, _, _, hcl2, hxl, hg⟩ := DataW.trod_struct Tryz.underlying148 ht
        obtain ⟨u0, u1, u2, rfl⟩ := len_3 hcl
        have hxl2 : xs.length = 3 := hxl
        obtain ⟨z0, z1, z2, rfl⟩ := len_3 hxl2
        have g0 : DataW.trod enc Tryz.prog W 0 (fun _ => true) true k 5 (([u0, u1, u2].drop 0).take (Tryz.prog.cellsOf 5)) = some z0 := hg 0 _ rfl
        have g1 : DataW.trod enc Tryz.prog W 0 (fun _ => true) true k 3 (([u0, u1, u2].drop 1).take (Tryz.prog.cellsOf 3)) = some z1 := hg 1 _ rfl
        have g2 : DataW.trod enc Tryz.prog W 0 (fun _ => true) true k 9 (([u0, u1, u2].drop 2).take (Tryz.prog.cellsOf 9)) = some z2 := hg 2 _ rfl
        rw [hS0] at g0
        rw [hS1] at g1
        rw [hS2] at g2
        obtain ⟨l0, e0, b0⟩ := u8_cell g0
        obtain ⟨l1, e1, b1⟩ := int_cell g1
        obtain ⟨l2, e2, b2⟩ := str_cell g2
        have c0 := hcell 0 (by omega)
        have c1 := hcell 1 (by omega)
        have c2 := hcell 2 (by omega)
        rw [Go.Deep.add_add] at c0 c1 c2
        simp at e0 e1 e2 c0 c1 c2
        subst e0 e1 e2
        exact ⟨(l0, l1, l2), fun _ => ⟨c0, c1, c2, b0, b1⟩⟩
      · exact ⟨(0, 0, ⟨#[]⟩), fun h => absurd h hin⟩
    obtain ⟨g, hg⟩ := Classical.skolem.1 key
    have hlen : ((List.range n).map g).length = n := by simp
    refine ⟨(List.range n).map g, ⟨some a, c, by rw [hlen], by rw [hlen]; exact hl, fun hne => ?_⟩, ?_, by rw [hlen]; omega⟩
    · have hpos : 0 < n := by
        rcases Nat.eq_zero_or_pos n with h0 | h0
        · subst h0; simp at hne
        · exact h0
      have h0 := (hg 0 hpos).1
      obtain ⟨b, o, sp⟩ := a
      have hsp : sp = none := by simpa [Addr.add] using World.cell?_spot h0
      subst hsp
      have ea : ∀ k, (⟨b, o, none⟩ : Addr).add k = ⟨b, o + k, none⟩ := fun k => by unfold Addr.add; split <;> simp_all
      refine ⟨b, o, rfl, by have := World.block_lt_of_cell? _ _ h0; simpa [Addr.add] using this, fun j hj => ?_⟩
      rw [hlen] at hj
      have hj2 := hg j hj
      rw [ea, ea, ea, Nat.mul_comm j 3] at hj2
      rw [List.getElem_map, List.getElem_range]
      exact ⟨hj2.1, hj2.2.1, hj2.2.2.1⟩
    · intro f hf
      obtain ⟨i, hi', rfl⟩ := List.mem_map.1 hf
      exact (hg i (List.mem_range.1 hi')).2.2.2
def overC (l : List Flt) (most : Nat) : Bool := l.any (fun x => decide (300 < x.2.2.size)) || decide (most < l.length)
theorem overC_ok {l : List Flt} {most : Nat} (h : overC l most = false) : l.length ≤ most ∧ ∀ x ∈ l, x.2.2.size ≤ 300 := by
  unfold overC at h
  rw [Bool.or_eq_false_iff, decide_eq_false_iff_not, List.any_eq_false] at h
  exact ⟨by omega, fun x hx => by have := h.1 x hx; simpa using this⟩
set_option maxRecDepth 100000 in
set_option maxHeartbeats 1000000 in
theorem over28s (v : Value) (l : List Flt) (N : Nat) (w : World) (hN : N ≤ 100000) (hv : HoldsC w v l) (hl : l.length ≤ maxLen) :
    Calls Tryz.prog 36 #[v, .int .i64 (N : Nat)] w fun e w' => e = .returned (.bool (overC l N)) ∧ w' = w := by
  obtain ⟨a, c, rfl, hc, hx⟩ := hv
  unfold maxLen at hl
  have HX := Lib.hid hx
  have HT : Hid (∀ k (hk : k < l.length), 300 < l[k].2.2.size → overC l N = true) := Lib.hid (fun k hk h => by unfold overC; rw [List.any_eq_true.2 ⟨l[k], List.getElem_mem hk, decide_eq_true h⟩]; rfl)
  have HE : Hid ((∀ k (hk : k < l.length), ¬ 300 < l[k].2.2.size) → overC l N = decide (N < l.length)) := Lib.hid (fun h => by
    unfold overC
    rw [List.any_eq_false.2 (fun x hx => by obtain ⟨j, hj, rfl⟩ := List.getElem_of_mem hx; have := h j hj; simpa using this), Bool.false_or])
  clear hx
  generalize overC l N = B at HT HE ⊢
  go_enter Tryz.func36, Tryz.ntmps36
  go_wp2_with fail
  go_loop [5] (fun i => ∃ k : Nat, k ≤ l.length ∧ i = .int .i64 k ∧ Hid (∀ j (hj : j < l.length), j < k → ¬ 300 < l[j].2.2.size)) (fun i => l.length - (intOf i).toNat)
  case atStart => exact ⟨0, by omega, rfl, Lib.hid (fun j hj h => absurd h (Nat.not_lt_zero _))⟩
  case round =>
    obtain ⟨k, hk, rfl, HK⟩ := hrel
    by_cases hlt : k < l.length
    · obtain ⟨b, o, rfl, hbl, hcell⟩ := HX.out (fun e => by rw [e] at hlt; exact absurd hlt (Nat.not_lt_zero _))
      obtain ⟨-, -, c2⟩ := hcell k hlt
      rw [Nat.mul_comm 3 k] at c2
      have hT := Lib.hid (HT.out k hlt)
      have HK1 : ¬ 300 < l[k].2.2.size → Hid (∀ j (hj : j < l.length), j < k + 1 → ¬ 300 < l[j].2.2.size) := fun h => Lib.hid (fun j hj hjk => by
        by_cases e : j = k
        · subst e; exact h
        · exact HK.out j hj (by omega))
      clear hcell HX HT HK
      generalize l[k].2.2 = X at c2 hT HK1
      by_cases hbig : 300 < X.size
      · have t1 : decide ((X.size : Int) > 300) = true := decide_eq_true (by omega)
        have HB := Lib.hid (hT.out hbig)
        clear hT HK1
        go_wp2_with fail
        go_ret
        exact ⟨by rw [HB.out]; rfl, rfl⟩
      · have t1 : decide ((X.size : Int) > 300) = false := decide_eq_false (by omega)
        have HK2 := HK1 hbig
        clear hT HK1
        go_wp2_with fail
        go_round
        case rel => exact ⟨k + 1, by omega, by go_num, HK2⟩
        case measure => simp [intOf]; omega
    · obtain rfl : k = l.length := by omega
      have HB := Lib.hid (HE.out (fun j hj => HK.out j hj hj))
      clear HE HT HX HK
      go_wp2_with fail
      go_ret
      exact ⟨by rw [HB.out]; rfl, rfl⟩
end Go.Proofs.YtbdmmgmcbecolaaGreatDoor
namespace Go.Proofs.YtbdmmgmcbecolaaGreatDoor
open Go.RowKit
/-- the blocks of the reference's Ask -/
def rlW (w : World) (h p f : ByteArray) (V lv : Value) (n : Nat) (x : Flt) : World :=
  ((w.alloc (.cells #[.string h, .string p, .string f, V, lv, .int .i64 (n : Int)] 50)).alloc (.cells #[.string ⟨#[]⟩, .string ⟨#[]⟩, .string ⟨#[]⟩, .slice none 0 0, .slice none 0 0, .int .i64 0] 50)).alloc (.cells #[.int .u8 x.1, .int .i64 x.2.1, .string x.2.2] 148)
structure RLS (w W : World) (h p f : ByteArray) (V lv : Value) (n : Nat) (x : Flt) (rest : List Flt) (log : List Evt) (b0 : Nat) : Prop where
  a : W.heap[w.heap.size]? = some (.cells #[.string h, .string p, .string f, V, lv, .int .i64 (n : Int)] 50 (0, 0))
  z : W.heap[w.heap.size + 1]? = some (.cells #[.string ⟨#[]⟩, .string ⟨#[]⟩, .string ⟨#[]⟩, .slice none 0 0, .slice none 0 0, .int .i64 0] 50 (0, 0))
  x : W.heap[w.heap.size + 1 + 1]? = some (.cells #[.int .u8 x.1, .int .i64 x.2.1, .string x.2.2] 148 (0, 0))
  b : Below w.heap.size w W
  s : w.heap.size + 3 ≤ W.heap.size
  r : HoldsC W V rest
  o : W.ownsRow b0 106 3 lv log.length (evs log)
theorem RLS.start {w : World} {h p f : ByteArray} {V lv : Value} {n : Nat} {x : Flt} {rest : List Flt} {log : List Evt} {b0 : Nat} (hr : HoldsC w V rest) (ho : w.ownsRow b0 106 3 lv log.length (evs log)) : RLS w (rlW w h p f V lv n x) h p f V lv n x rest log b0 := by
  obtain ⟨h1, h2, h3, h4⟩ := alloc3_facts w (.cells #[.string h, .string p, .string f, V, lv, .int .i64 (n : Int)] 50) (.cells #[.string ⟨#[]⟩, .string ⟨#[]⟩, .string ⟨#[]⟩, .slice none 0 0, .slice none 0 0, .int .i64 0] 50) (.cells #[.int .u8 x.1, .int .i64 x.2.1, .string x.2.2] 148)
  exact ⟨h1, h2, h3, h4, by unfold rlW; simp, hr.below h4, own_of_block ho (fun g hg => h4.block g (ho.lt g hg).2)⟩
theorem RLS.below {w W W' : World} {h p f : ByteArray} {V lv : Value} {n : Nat} {x : Flt} {rest : List Flt} {log : List Evt} {b0 : Nat} (k : RLS w W h p f V lv n x rest log b0) (hb : Below W.heap.size W W') : RLS w W' h p f V lv n x rest log b0 := by
  have hs := k.s
  exact ⟨(hb.block _ (by omega)).trans k.a, (hb.block _ (by omega)).trans k.z, (hb.block _ (by omega)).trans k.x, bstep k.b hb, Nat.le_trans hs hb.size, k.r.below hb, own_of_block k.o (fun g hg => hb.block g (k.o.lt g hg).2)⟩
end Go.Proofs.YtbdmmgmcbecolaaGreatDoor
namespace Go.Proofs.YtbdmmgmcbecolaaGreatDoor
open Go.RowKit
theorem flts_ok {l : List Flt} (h : ∀ x ∈ l, (Lit.int .u8 x.1).wf = true ∧ (Lit.int .i64 x.2.1).wf = true) (ht : ∀ x ∈ l, x.2.2.size ≤ 300) : ∀ x ∈ l, FltOk x := fun x hx => by
  obtain ⟨h1, h2⟩ := h x hx
  have a : IntKind.u8.min ≤ x.1 ∧ x.1 ≤ IntKind.u8.max := by simpa [Lit.wf] using h1
  have b : IntKind.i64.min ≤ x.2.1 ∧ x.2.1 ≤ IntKind.i64.max := by simpa [Lit.wf] using h2
  have := ht x hx
  exact ⟨a.1, b.1, b.2, by omega⟩
end Go.Proofs.YtbdmmgmcbecolaaGreatDoor
namespace Go.Proofs.YtbdmmgmcbecolaaGreatDoor
open Go.RowKit
/-- a store into a block of another type does nothing to a link -/
theorem KL.far {w0 w w' : World} {P : Nat} {h p f : ByteArray} {rest : List Flt} {log : List Evt} {n : Nat} {rv lv : Value} (k : KL w0 w P h p f rest log n rv lv) {X : Nat} {C : Array Value} {t : TypeId} (hX : w.heap[X]? = some (.cells C t (0, 0))) (h1 : t ≠ 97) (h2 : t ≠ 107) (h3 : t ≠ 65) (hlo : w0.heap.size ≤ X) (ht : Touch (fun g => g = X) w w') : KL w0 w' P h p f rest log n rv lv := by
  have hb : Below w0.heap.size w0 w' := k.bel.trans (ht.below (fun g hg => by rw [show g = X from hg]; exact hlo) k.bel.size)
  refine ⟨k.a.touch ht ?_ ?_ ?_, k.lo, hb⟩
  · intro e
    have e2 := k.a.blk
    rw [show _ = X from e, hX] at e2
    simp only [Option.some.injEq, Obj.cells.injEq] at e2
    exact h1 e2.2.1
  · intro b hb e
    obtain ⟨C', hC⟩ := k.a.tag b hb
    rw [show b = X from e, hX] at hC
    simp only [Option.some.injEq, Obj.cells.injEq] at hC
    exact h3 hC.2.1
  · intro b hb e
    exact own_not_row k.a.own hX h2.symm (by rw [hb]; exact congrArg some e)
/-- the state of LinkAsks' loop -/
structure SL (w1 wr : World) (P X : Nat) (h p f : ByteArray) (rest : List Flt) (log : List Evt) (n : Nat) (rv lv xr xl : Value) : Prop where
  k : KL w1 wr P h p f rest log n rv lv
  x : wr.heap[X]? = some (.cells #[.string h, .string p, .string f, xr, xl, .int .i64 (n : Int)] 50 (0, 0))
  hold : HoldsC w1 xr rest
  own : wr.ownsRow w1.heap.size 106 3 xl log.length (evs log)
  lo : w1.heap.size ≤ X
theorem SL.start {w1 wb : World} {P : Nat} {h p f : ByteArray} {rest : List Flt} {rv lv v : Value} (k : KL w1 wb P h p f rest [] 0 rv lv) (hv : HoldsC w1 v rest) : SL w1 (wb.alloc (.cells #[.string h, .string p, .string f, v, .slice none 0 0, .int .i64 0] 50)) P wb.heap.size h p f rest [] 0 rv lv v (.slice none 0 0) :=
  ⟨k.step ((Below.refl _ _).alloc (Nat.le_refl _) _), heap_alloc_new wb _, hv, World.ownsRow_nil _ _ _ _, k.bel.size⟩
/-- a block of another type stands beside a link's request -/
theorem blk_beside {w0 w w' : World} {P : Nat} {h p f : ByteArray} {rest : List Flt} {log : List Evt} {n : Nat} {rv lv : Value} (k : KL w0 w P h p f rest log n rv lv) {X : Nat} {C : Array Value} {t : TypeId} (hX : w.heap[X]? = some (.cells C t (0, 0))) (h1 : t ≠ 97) (h2 : t ≠ 107) (ht : Touch (LS P lv) w w') : w'.heap[X]? = some (.cells C t (0, 0)) := by
  refine (ht.block X (Array.getElem?_eq_some_iff.1 hX).1 ?_).trans hX
  rintro (e | e)
  · have e2 := k.a.blk
    rw [← e, hX] at e2
    simp only [Option.some.injEq, Obj.cells.injEq] at e2
    exact h1 e2.2.1
  · exact own_not_row k.a.own hX h2.symm e
end Go.Proofs.YtbdmmgmcbecolaaGreatDoor
namespace Go.Proofs.YtbdmmgmcbecolaaGreatDoor
open Go.RowKit
/-- why the bytes s tell nothing of the range a, b of t bytes; 0: they tell it -/
def judE (s : ByteArray) (a b t : Int) : Nat :=
  if s.size = 0 then 16
  else if takE s (rLen a b) ≠ 0 then takE s (rLen a b)
  else if takN s (rLen a b) < (s.size : Int) then 4
  else if takC s (rLen a b) ≠ 206 then 17
  else if getE (takF s (rLen a b)) crangeK ≠ 0 then getE (takF s (rLen a b)) crangeK
  else if tellE (getS (takF s (rLen a b)) crangeK) ≠ 0 then tellE (getS (takF s (rLen a b)) crangeK)
  else if tellA (getS (takF s (rLen a b)) crangeK) ≠ a ∨ tellB (getS (takF s (rLen a b)) crangeK) ≠ b ∨ tellC (getS (takF s (rLen a b)) crangeK) ≠ t then 19
  else if ((takB s (rLen a b)).length : Int) ≠ rLen a b then 18
  else 0
def judS (s : ByteArray) (a b t : Int) : List UInt8 := if judE s a b t = 0 then takB s (rLen a b) else []
theorem jud_zero (s : ByteArray) (a b t : Int) (h : judE s a b t = 0) : s.size ≠ 0 ∧ takE s (rLen a b) = 0 ∧ (s.size : Int) ≤ takN s (rLen a b) ∧ takC s (rLen a b) = 206 ∧ getE (takF s (rLen a b)) crangeK = 0 ∧ tellE (getS (takF s (rLen a b)) crangeK) = 0 ∧ (tellA (getS (takF s (rLen a b)) crangeK) = a ∧ tellB (getS (takF s (rLen a b)) crangeK) = b ∧ tellC (getS (takF s (rLen a b)) crangeK) = t) ∧ ((takB s (rLen a b)).length : Int) = rLen a b := by
  unfold judE at h
  by_cases h1 : s.size = 0
  · rw [if_pos h1] at h; exact absurd h (by decide)
  rw [if_neg h1] at h
  by_cases h2 : takE s (rLen a b) = 0
  · rw [if_neg (fun e => e h2)] at h
    by_cases h3 : takN s (rLen a b) < (s.size : Int)
    · rw [if_pos h3] at h; exact absurd h (by decide)
    rw [if_neg h3] at h
    by_cases h4 : takC s (rLen a b) = 206
    · rw [if_neg (fun e => e h4)] at h
      by_cases h5 : getE (takF s (rLen a b)) crangeK = 0
      · rw [if_neg (fun e => e h5)] at h
        by_cases h6 : tellE (getS (takF s (rLen a b)) crangeK) = 0
        · rw [if_neg (fun e => e h6)] at h
          by_cases h7 : tellA (getS (takF s (rLen a b)) crangeK) ≠ a ∨ tellB (getS (takF s (rLen a b)) crangeK) ≠ b ∨ tellC (getS (takF s (rLen a b)) crangeK) ≠ t
          · rw [if_pos h7] at h; exact absurd h (by decide)
          rw [if_neg h7] at h
          by_cases h8 : ((takB s (rLen a b)).length : Int) = rLen a b
          · exact ⟨h1, h2, by omega, h4, h5, h6, ⟨Classical.byContradiction fun e => h7 (.inl e), Classical.byContradiction fun e => h7 (.inr (.inl e)), Classical.byContradiction fun e => h7 (.inr (.inr e))⟩, h8⟩
          · rw [if_pos h8] at h; exact absurd h (by decide)
        · rw [if_pos h6] at h; exact absurd h h6
      · rw [if_pos h5] at h; exact absurd h h5
    · rw [if_pos h4] at h; exact absurd h (by decide)
  · rw [if_pos h2] at h; exact absurd h h2
theorem jud_made (s : ByteArray) (a b t : Int) (h1 : s.size ≠ 0) (h2 : takE s (rLen a b) = 0) (h3 : (s.size : Int) ≤ takN s (rLen a b)) (h4 : takC s (rLen a b) = 206) (h5 : getE (takF s (rLen a b)) crangeK = 0) (h6 : tellE (getS (takF s (rLen a b)) crangeK) = 0) (h7 : tellA (getS (takF s (rLen a b)) crangeK) = a ∧ tellB (getS (takF s (rLen a b)) crangeK) = b ∧ tellC (getS (takF s (rLen a b)) crangeK) = t) (h8 : ((takB s (rLen a b)).length : Int) = rLen a b) : judE s a b t = 0 := by
  unfold judE
  rw [if_neg h1, if_neg (fun e => e h2), if_neg (by omega), if_neg (fun e => e h4), if_neg (fun e => e h5), if_neg (fun e => e h6), if_neg (by rw [h7.1, h7.2.1, h7.2.2]; simp), if_neg (fun e => e h8)]
theorem get_toldF (v : List UInt8) : getE [(crangeK, v)] crangeK = 0 ∧ getS [(crangeK, v)] crangeK = v := by
  have e1 : hits [(crangeK, v)] crangeK = [v] := by unfold hits; simp
  unfold getE getS
  rw [e1]
  exact ⟨rfl, rfl⟩
/-- what an origin answers to a request for a range of its file -/
theorem org_range (p h f : List UInt8) (a b : Int) (he : aErr p h a b = 0) (hb : b < (f.length : Int)) (hf : f.length ≤ 1000000) (s : ByteArray) (hs : s.data.toList = reqL p h a b) :
    orgE h p = 0 ∧ orgC h p f s = 206 ∧ orgF h p f s = [(crangeK, toldL a b (f.length : Int))] ∧ orgY h p f s = (f.take (b + 1).toNat).drop a.toNat ∧ toldE a b (f.length : Int) = 0 ∧ (((f.take (b + 1).toNat).drop a.toNat).length : Int) = rLen a b := by
  obtain ⟨g1, g2, g3⟩ := aErr_zero p h a b he
  obtain ⟨r1, r2, r3⟩ := rErr_ok a b g3
  obtain ⟨e1, e2, e3, e4, e5, e6⟩ := ask_req p h a b he (by omega) (by omega) s [] (by rw [List.append_nil]; exact hs)
  have hc : clipE a b (f.length : Int) = 0 := by unfold clipE; rw [if_neg (fun h => h g3), if_neg (by omega)]
  have hC : orgC h p f s = 206 := by
    unfold orgC
    rw [if_neg (by rw [e1, e6, ← hs, size_len]; omega), if_neg (by rw [e2, e3]; simp), e4, e5, hc, if_neg (by decide)]
  have hA : orgA f s = a := by unfold orgA; rw [e4, e5]; unfold clipA; rw [if_pos hc]
  have hB : orgB f s = b := by unfold orgB; rw [e4, e5]; unfold clipB; rw [if_pos hc]; split <;> omega
  refine ⟨by unfold orgE; rw [if_neg]; rw [g1, g2]; simp, hC, by unfold orgF; rw [if_pos hC, hA, hB], by unfold orgY; rw [if_pos hC, hA, hB], ?_, ?_⟩
  · unfold toldE; rw [if_neg (fun h => h g3), if_neg (by omega)]
  · unfold rLen
    rw [if_pos g3, List.length_drop, List.length_take]
    omega
theorem told_jud (T : ByteArray) (a b t : Int) (ht : toldE a b t = 0) (h1 : T.size ≠ 0) (h2 : takE T (rLen a b) = 0) (h3 : (T.size : Int) ≤ takN T (rLen a b)) (h4 : takC T (rLen a b) = 206) (h5 : takF T (rLen a b) = [(crangeK, toldL a b t)]) (h8 : ((takB T (rLen a b)).length : Int) = rLen a b) : judE T a b t = 0 := by
  obtain ⟨u1, u2, u3, u4⟩ := tell_told a b t ht
  have hg := get_toldF (toldL a b t)
  exact jud_made T a b t h1 h2 h3 h4 (by rw [h5]; exact hg.1) (by rw [h5, hg.2]; exact u1) (by rw [h5, hg.2]; exact ⟨u2, u3, u4⟩) h8
/-- an answer that no fault harmed tells the range -/
theorem jud_whole (p h f : List UInt8) (a b : Int) (he : aErr p h a b = 0) (hb : b < (f.length : Int)) (hf : f.length ≤ 1000000) (s : ByteArray) (hs : s.data.toList = reqL p h a b) (T : ByteArray) (hT : T.data.toList = orgS h p f s) :
    judE T a b (f.length : Int) = 0 ∧ judS T a b (f.length : Int) = (f.take (b + 1).toNat).drop a.toNat := by
  obtain ⟨e1, e2, e3, e4, e5, e6⟩ := org_range p h f a b he hb hf s hs
  have hY := orgY_len h p f s
  have hS := orgS_eq h p f s hf e1
  rw [hS] at hT
  obtain ⟨t1, t2, t3, t4, t5⟩ := rep_take (orgC h p f s) (orgF h p f s) (orgY h p f s) [] T (rLen a b) (org_good h p f s hf) (by omega) (by rw [hT, List.append_nil]) (by rw [e4]; omega)
  rw [e2] at t2
  rw [e3] at t3
  rw [e4] at t4
  have hz : T.size ≠ 0 := by
    rw [← size_len, hT]
    unfold repL repLines body
    simp
  have hN : (T.size : Int) ≤ takN T (rLen a b) := by rw [t5, ← size_len, hT]; exact Int.le_refl _
  have hj := told_jud T a b (f.length : Int) e5 hz t1 hN t2 t3 (by rw [t4]; exact e6)
  exact ⟨hj, by unfold judS; rw [if_pos hj, t4]⟩
/-- whatever fault comes over a reply's bytes: what is told has just its body's bytes -/
theorem fault_body (c : Int) (fs : List (List UInt8 × List UInt8)) (x : List UInt8) (S T : ByteArray) (k n most : Int) (t : List UInt8) (h : repE c fs = 0) (hx : x.length ≤ 1000000) (hS : S.data.toList = repL c fs x) (hT : T.data.toList = applyF k n t S)
    (ht : takE T most = 0) : takB T most <+: x := by
  have whole : ∀ K, T.data.toList = (repL c fs x).take K → takB T most <+: x := by
    intro K hK
    obtain ⟨e1, e2⟩ := take_cutF c fs x T most K h hx hK ht
    rw [e1]
    exact List.prefix_refl _
  by_cases k1 : k = 1
  · exact whole 0 (by rw [hT, k1]; rfl)
  by_cases k2 : k = 2
  · refine whole (max 0 (min n (S.size : Int))).toNat ?_
    rw [hT, k2, ← hS]
    rfl
  obtain ⟨i, y, hi, hy, he, hw⟩ := apply_rep c fs x S k n t h hx hS k1 k2
  exact (take_mod c fs x T k n most t i y h hx hi hy (by rw [hT, he]) hw ht).1
/-- whatever fault comes: what is told are the file's bytes -/
theorem jud_right (p h f : List UInt8) (a b : Int) (he : aErr p h a b = 0) (hb : b < (f.length : Int)) (hf : f.length ≤ 1000000) (s : ByteArray) (hs : s.data.toList = reqL p h a b) (S T : ByteArray) (hS : S.data.toList = orgS h p f s) (k n : Int) (t : List UInt8) (hT : T.data.toList = applyF k n t S) (hj : judE T a b (f.length : Int) = 0) :
    judS T a b (f.length : Int) = (f.take (b + 1).toNat).drop a.toNat := by
  obtain ⟨e1, e2, e3, e4, e5, e6⟩ := org_range p h f a b he hb hf s hs
  have hY := orgY_len h p f s
  obtain ⟨-, h2, -, -, -, -, -, h8⟩ := jud_zero T a b _ hj
  rw [orgS_eq h p f s hf e1] at hS
  have hp := fault_body _ _ _ S T k n (rLen a b) t (org_good h p f s hf) (by omega) hS hT h2
  rw [e4] at hp
  unfold judS
  rw [if_pos hj]
  exact hp.eq_of_length (by omega)
end Go.Proofs.YtbdmmgmcbecolaaGreatDoor
namespace Go.Proofs.YtbdmmgmcbecolaaGreatDoor
open Go.RowKit
/-- what comes back in round j, behind n requests -/
def gotN (h p f : ByteArray) (l : List Flt) (S : ByteArray) (n j : Nat) : ByteArray := gotK h p f ((l.drop (n + j)).headD noF) S
/-- the log behind the requests qs and m rounds -/
def lgN (h p f : ByteArray) (l : List Flt) (qs : List ByteArray) (S : ByteArray) (m : Nat) : List Evt := logK h p f l (qs ++ List.replicate m S)
theorem lgN_zero (h p f : ByteArray) (l : List Flt) (qs : List ByteArray) (S : ByteArray) : lgN h p f l qs S 0 = logK h p f l qs := by unfold lgN; simp
theorem lgN_step (h p f : ByteArray) (l : List Flt) (qs : List ByteArray) (S : ByteArray) (m : Nat) : lgN h p f l qs S (m + 1) = lgN h p f l qs S m ++ [evK h p f ((l.drop (qs.length + m)).headD noF) S] := by
  unfold lgN
  rw [List.replicate_succ', ← List.append_assoc, logK_snoc]
  have e : restK l (qs ++ List.replicate m S) = l.drop (qs.length + m) := by unfold restK; simp
  rw [e]
theorem logK_len (h p f : ByteArray) : ∀ (qs : List ByteArray) (l : List Flt), (logK h p f l qs).length = qs.length := by
  intro qs
  induction qs with
  | nil => intro l; rfl
  | cons a t ih => intro l; show (logK h p f l.tail t).length + 1 = _; rw [ih]; rfl
theorem lgN_len (h p f : ByteArray) (l : List Flt) (qs : List ByteArray) (S : ByteArray) (m : Nat) : (lgN h p f l qs S m).length = qs.length + m := by
  unfold lgN; rw [logK_len]; simp
theorem hmN_step (h p f : ByteArray) (l : List Flt) (qs : List ByteArray) (S : ByteArray) (m : Nat) : harmsK (lgN h p f l qs S (m + 1)) = harmsK (lgN h p f l qs S m) + oneK (hurtK h p f ((l.drop (qs.length + m)).headD noF) S) := by
  rw [lgN_step, harmsK_snoc]; rfl
theorem hmN_le (h p f : ByteArray) (l : List Flt) (qs : List ByteArray) (S : ByteArray) (m : Nat) : harmsK (lgN h p f l qs S m) ≤ qs.length + m := by
  have := harms_le (lgN h p f l qs S m)
  rwa [lgN_len] at this
/-- the first round in which the range was told -/
def runJ (e : Nat → Nat) (r : Nat) : Option Nat := (List.range (r + 1)).find? (fun j => e j == 0)
theorem runJ_some (e : Nat → Nat) (r i : Nat) (hi : i ≤ r) (h : ∀ j, j < i → e j ≠ 0) (h0 : e i = 0) : runJ e r = some i := by
  unfold runJ
  rw [List.find?_range_eq_some]
  refine ⟨by simp [h0], List.mem_range.2 (by omega), fun j hj => by simpa using h j hj⟩
theorem runJ_none (e : Nat → Nat) (r : Nat) (h : ∀ j, j ≤ r → e j ≠ 0) : runJ e r = none := by
  unfold runJ
  rw [List.find?_eq_none]
  intro j hj
  have := h j (by have := List.mem_range.1 hj; omega)
  simpa using this
/-- how many requests were asked; the last answer's error; the call's error; what it tells -/
def runA (e : Nat → Nat) (r : Nat) : Nat := match runJ e r with | some j => j + 1 | none => r + 1
def runL (e : Nat → Nat) (r : Nat) : Nat := match runJ e r with | some _ => 0 | none => e r
def runE (e : Nat → Nat) (r : Nat) : Nat := match runJ e r with | some _ => 0 | none => 23
def runB (e : Nat → Nat) (r : Nat) (B : Nat → List UInt8) : List UInt8 := match runJ e r with | some j => B j | none => []
theorem run_some (e : Nat → Nat) (r i : Nat) (B : Nat → List UInt8) (hi : i ≤ r) (h : ∀ j, j < i → e j ≠ 0) (h0 : e i = 0) : runA e r = i + 1 ∧ runL e r = 0 ∧ runE e r = 0 ∧ runB e r B = B i := by
  unfold runA runL runE runB
  rw [runJ_some e r i hi h h0]
  exact ⟨rfl, rfl, rfl, rfl⟩
theorem run_none (e : Nat → Nat) (r : Nat) (B : Nat → List UInt8) (h : ∀ j, j ≤ r → e j ≠ 0) : runA e r = r + 1 ∧ runL e r = e r ∧ runE e r = 23 ∧ runB e r B = [] := by
  unfold runA runL runE runB
  rw [runJ_none e r h]
  exact ⟨rfl, rfl, rfl, rfl⟩
theorem run_cases (e : Nat → Nat) (r : Nat) : (∃ i, i ≤ r ∧ (∀ j, j < i → e j ≠ 0) ∧ e i = 0) ∨ ∀ j, j ≤ r → e j ≠ 0 := by
  cases hJ : runJ e r with
  | none =>
    right
    intro j hj
    unfold runJ at hJ
    rw [List.find?_eq_none] at hJ
    have := hJ j (List.mem_range.2 (by omega))
    simpa using this
  | some i =>
    left
    unfold runJ at hJ
    rw [List.find?_range_eq_some] at hJ
    obtain ⟨h1, h2, h3⟩ := hJ
    exact ⟨i, by have := List.mem_range.1 h2; omega, fun j hj => by simpa using h3 j hj, by simpa using h1⟩
theorem runA_le (e : Nat → Nat) (r : Nat) : 1 ≤ runA e r ∧ runA e r ≤ r + 1 := by
  rcases run_cases e r with ⟨i, hi, h1, h2⟩ | h
  · rw [(run_some e r i (fun _ => []) hi h1 h2).1]; omega
  · rw [(run_none e r (fun _ => []) h).1]; omega
/-- the errors of a client's rounds -/
def errN (h p f : ByteArray) (l : List Flt) (S : ByteArray) (n : Nat) (a b t : Int) (j : Nat) : Nat := judE (gotN h p f l S n j) a b t
def bodN (h p f : ByteArray) (l : List Flt) (S : ByteArray) (n : Nat) (a b t : Int) (j : Nat) : List UInt8 := judS (gotN h p f l S n j) a b t
theorem hmN_all (h p f : ByteArray) (l : List Flt) (qs : List ByteArray) (S : ByteArray) : ∀ m, (∀ j, j < m → hurtK h p f ((l.drop (qs.length + j)).headD noF) S = true) → harmsK (lgN h p f l qs S m) = harmsK (logK h p f l qs) + m := by
  intro m
  induction m with
  | zero => intro _; rw [lgN_zero]; rfl
  | succ m ih =>
    intro hj
    rw [hmN_step, ih (fun j h => hj j (by omega)), hj m (by omega)]
    unfold oneK
    rw [if_pos rfl]
    omega
theorem whole_data (h p f s : ByteArray) : (wholeK h p f s).data.toList = orgS h.data.toList p.data.toList f.data.toList s := by unfold wholeK; rw [bs_data]
theorem got_data (h p f : ByteArray) (x : Flt) (s : ByteArray) : (gotK h p f x s).data.toList = applyF x.1 x.2.1 x.2.2.data.toList (wholeK h p f s) := by unfold gotK; rw [bs_data]
/-- of an origin's own file: what is told are the file's bytes; an answer that tells nothing was harmed -/
theorem own_right (h p f : ByteArray) (x : Flt) (S : ByteArray) (a b : Int) (he : aErr p.data.toList h.data.toList a b = 0) (hb : b < (f.size : Int)) (hf : f.size ≤ 1000000) (hS : S.data.toList = reqL p.data.toList h.data.toList a b) :
    (judE (gotK h p f x S) a b (f.size : Int) = 0 → judS (gotK h p f x S) a b (f.size : Int) = (f.data.toList.take (b + 1).toNat).drop a.toNat) ∧ (judE (gotK h p f x S) a b (f.size : Int) ≠ 0 → hurtK h p f x S = true) := by
  have hl : f.data.toList.length = f.size := size_len f
  refine ⟨fun hj => ?_, fun hj => ?_⟩
  · have := jud_right p.data.toList h.data.toList f.data.toList a b he (by rw [hl]; exact hb) (by rw [hl]; exact hf) S hS (wholeK h p f S) (gotK h p f x S) (whole_data h p f S) x.1 x.2.1 x.2.2.data.toList (got_data h p f x S) (by rw [hl]; exact hj)
    rw [hl] at this
    exact this
  · cases hh : hurtK h p f x S with
    | true => rfl
    | false =>
      exfalso
      have hq := hurt_eq h p f x S
      rw [hh, eq_comm, Bool.not_eq_false', beq_iff_eq] at hq
      have := jud_whole p.data.toList h.data.toList f.data.toList a b he (by rw [hl]; exact hb) (by rw [hl]; exact hf) S hS (gotK h p f x S) (by rw [← ByteArray.toList_eq, hq, ByteArray.toList_eq]; exact whole_data h p f S)
      rw [hl] at this
      exact hj this.1
theorem run_right (h p f : ByteArray) (l : List Flt) (qs : List ByteArray) (S : ByteArray) (a b : Int) (r : Nat) (he : aErr p.data.toList h.data.toList a b = 0) (hb : b < (f.size : Int)) (hf : f.size ≤ 1000000) (hS : S.data.toList = reqL p.data.toList h.data.toList a b) :
    (runE (errN h p f l S qs.length a b (f.size : Int)) r = 0 ∧ runB (errN h p f l S qs.length a b (f.size : Int)) r (bodN h p f l S qs.length a b (f.size : Int)) = (f.data.toList.take (b + 1).toNat).drop a.toNat ∧
      harmsK (logK h p f l qs) + runA (errN h p f l S qs.length a b (f.size : Int)) r ≤ harmsK (lgN h p f l qs S (runA (errN h p f l S qs.length a b (f.size : Int)) r)) + 1) ∨
    (runE (errN h p f l S qs.length a b (f.size : Int)) r = 23 ∧ runB (errN h p f l S qs.length a b (f.size : Int)) r (bodN h p f l S qs.length a b (f.size : Int)) = [] ∧ runA (errN h p f l S qs.length a b (f.size : Int)) r = r + 1 ∧
      harmsK (lgN h p f l qs S (runA (errN h p f l S qs.length a b (f.size : Int)) r)) = harmsK (logK h p f l qs) + (r + 1)) := by
  have key := fun j => own_right h p f ((l.drop (qs.length + j)).headD noF) S a b he hb hf hS
  rcases run_cases (errN h p f l S qs.length a b (f.size : Int)) r with ⟨i, hi, h1, h2⟩ | h1
  · left
    obtain ⟨r1, r2, r3, r4⟩ := run_some _ r i (bodN h p f l S qs.length a b (f.size : Int)) hi h1 h2
    refine ⟨r3, ?_, ?_⟩
    · rw [r4]; exact (key i).1 h2
    · rw [r1, hmN_step, hmN_all h p f l qs S i (fun j hj => (key j).2 (h1 j hj))]
      omega
  · right
    obtain ⟨r1, r2, r3, r4⟩ := run_none _ r (bodN h p f l S qs.length a b (f.size : Int)) h1
    refine ⟨r3, r4, r1, ?_⟩
    rw [r1, hmN_all h p f l qs S (r + 1) (fun j hj => (key j).2 (h1 j (by omega)))]
end Go.Proofs.YtbdmmgmcbecolaaGreatDoor
