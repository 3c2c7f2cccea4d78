/- What Ask, Fork and Script of package link do. A link behind some requests: plain words. Links in a law's world: apart from what stood before, and from one another. What Fork of package link does. Two links in a law's world, apart from one another. Same of the reference of link, of logs that are the same. What a fork of a link is told, as a row of texts. The small example of the laws of layer 46. The small example of the laws of layer 29: the walk. What an argument that is a slice of the reference's fields reads as. What an argument that is a slice of ranges reads as. What Ask of the reference of link returns. The law LinkAsks. Plain words: what an answer's bytes tell to one who asked for a range (no program in sight). Plain words: what a client fetches of a link: rounds of one request (no program in sight). What Tell of package ranges returns. Length of package ranges and of the document; what the document's Tell returns; ranges that are not the same. The law function ReplyAgain. What judge of package fetch returns. -/
import Derived.Test.YtbdmmgmcbecolaaGreatDoorPq10
import Derived.Deep.RegionHeld3
import Derived.Laws.StructEq
import Derived.BigQuiet
import Derived.Deep.Slices
import Derived.Deep.Fields
import Derived.ChangeSame
set_option linter.unusedVariables false
set_option linter.unusedSimpArgs false
namespace Go.Proofs.YtbdmmgmcbecolaaGreatDoor
open Go.RowKit
/-- a fault that a variable may hold -/
structure FltOk (x : Flt) : Prop where
  k0 : 0 ≤ x.1
  n0 : -9223372036854775808 ≤ x.2.1
  n1 : x.2.1 ≤ 9223372036854775807
  t : x.2.2.size ≤ 10000
theorem noF_ok : FltOk noF := ⟨by decide, by decide, by decide, by decide⟩
def AskPost (w : World) (P B : Nat) (h p f : ByteArray) (rest : List Flt) (log : List Evt) (n : Nat) (rv lv : Value) (s : ByteArray) (e : Ending) (w' : World) : Prop :=
  e = .returned (.string (gotK h p f (rest.headD noF) s)) ∧ ∃ rv' lv', LAt w' P B h p f rest.tail (log ++ [evK h p f (rest.headD noF) s]) (n + oneK (hurtK h p f (rest.headD noF) s)) rv' lv' ∧ Touch (LS P lv) w w' ∧ (∀ g, ablk rv' = some g → ablk rv = some g) ∧ ∀ g, lv'.ownBlock = some g → lv.ownBlock = some g ∨ w.heap.size ≤ g
theorem touchP {P : Nat} {lv : Value} {w w' : World} (h : Touch (fun g => g = P) w w') : Touch (LS P lv) w w' := h.mono (fun _ hg => .inl hg)
set_option maxRecDepth 100000 in
set_option maxHeartbeats 4000000 in
theorem link_ask {w : World} {P B : Nat} {h p f : ByteArray} {rest : List Flt} {log : List Evt} {n : Nat} {rv lv : Value} (s : ByteArray) (k : LAt w P B h p f rest log n rv lv) (hE : ∀ W, Touch (LS P lv) w W → EnvF W) (hs : s.size ≤ 1000000) (hf : f.size ≤ 100000) (hx : FltOk (rest.headD noF)) (hrl : rest.length ≤ 1000000) (hll : log.length ≤ 1000000) (hn : n ≤ 1000000) (hB : B ≤ w.heap.size) :
    Calls Tryz.prog 34 #[.pointer (some ⟨P, 0, none⟩), .string s] w (AskPost w P B h p f rest log n rv lv s) := by
  obtain ⟨⟨c0, c1, c2, c3, c4, c5⟩, f3, f4, f5⟩ := k.cells
  obtain ⟨X, hX⟩ : ∃ X, rest.headD noF = X := ⟨_, rfl⟩
  have HNX := Lib.hid (fun W (kk : LAt W P B h p f rest log n rv lv) => link_next kk hrl)
  unfold AskPost
  rw [hX] at hx HNX ⊢
  have hws := whole_size h p f s (by omega)
  have hht := hurt_eq h p f X s
  have HA : Hid (∀ W, Below w.heap.size w W → Calls Tryz.prog 62 #[.agg #[.string h, .string p, .string f], .string s] W fun e w' => e = .returned (.string (wholeK h p f s)) ∧ Below W.heap.size W w') := Lib.hid (fun W hW => origin_answer h p f s W ((hE w (Touch.refl _ _)).below hW) hs (by omega))
  have HAP : Hid (∀ W, Touch (LS P lv) w W → Calls Tryz.prog 63 #[.agg #[.int .u8 X.1, .int .i64 X.2.1, .string X.2.2], .string (wholeK h p f s)] W fun e w' => e = .returned (.string (gotK h p f X s)) ∧ Below W.heap.size W w') := Lib.hid (fun W hW => fault_apply X.1 X.2.1 X.2.2 (wholeK h p f s) W (hE W hW).weak hx.k0 hx.n0 hx.n1 hx.t (by omega))
  have HEV : Hid (evK h p f X s = ((s.size : Int), ((gotK h p f X s).size : Int), hurtK h p f X s)) := Lib.hid rfl
  generalize evK h p f X s = EV at HEV ⊢
  generalize wholeK h p f s = Wh at hws hht HA HAP
  generalize gotK h p f X s = G at hht HAP HEV ⊢
  generalize hurtK h p f X s = hb at hht HEV ⊢
  obtain ⟨x1, x2, x3⟩ := X
  have HK := Lib.hid k
  have HKW := Lib.hid (fun W (hW : Below w.heap.size w W) => k.below hW)
  have HBs := Lib.hid (And.intro hB (And.intro hll hn))
  have tw : IntKind.i64.wrap ((n : Int) + 1) = (n : Int) + 1 := by rw [IntKind.wrap_i64]; omega
  clear k hE hs hf hx hrl hX hws c3 c4 c5 f3 f4 f5 hB hll hn
  go_enter Tryz.func34, Tryz.ntmps34
  go_wp2_with fail
  refine (HA.out _ (Below.refl _ _)).mono ?_
  rintro e wa ⟨rfl, hba⟩
  have HA1 : Hid (Below w.heap.size w wa) := Lib.hid hba
  clear hba
  clear c0 c1 c2
  go_wp2_with fail
  refine (HNX.out _ (HKW.out _ HA1.out)).mono ?_
  rintro e w2 ⟨rfl, rv2, k2, t2, hr2⟩
  have HT2 := Lib.hid ((Touch.of_below (S := LS P lv) HA1.out).trans (touchP (lv := lv) t2) (fun g hg => .inl hg))
  have HK2 := Lib.hid k2
  have HR2 := Lib.hid hr2
  clear k2 t2 hr2 HNX HKW
  go_wp2_with fail
  refine (HAP.out _ HT2.out).mono ?_
  rintro e w3 ⟨rfl, hb3⟩
  have HK3 := Lib.hid (HK2.out.below hb3)
  have HT3 := Lib.hid (HT2.out.trans (Touch.of_below (S := LS P lv) hb3) (fun g hg => .inl hg))
  obtain ⟨⟨c0, c1, c2, c3, c4, c5⟩, f3, f4, f5⟩ := HK3.out.cells
  clear hb3 HT2 HK2 HAP HA HA1
  cases hb with
  | true =>
    have hq : (G.toList == Wh.toList) = false := by rw [eq_comm, Bool.not_eq_true'] at hht; exact hht
    have hq2 : ¬ (G.toList = Wh.toList) := by rw [beq_eq_false_iff_ne] at hq; exact hq
    have HK5 := Lib.hid (HK3.out.setHarm (m := n + 1))
    have HT5 := Lib.hid (touch_set (a := ⟨P, 5, none⟩) (.int .i64 ((n + 1 : Nat) : Int)) HT3.out (.inl (.inl rfl)))
    have hc5 := HK5.out.cells.1.2.2.2.2.1
    rw [show ((n + 1 : Nat) : Int) = (n : Int) + 1 from Int.natCast_add n 1] at HK5 HT5 hc5
    clear hht HK3 HT3
    go_wp2_with (at_builtin; go_loud (refine append_log 59 _ 24 Tryz.underlying59 info_evt rfl (by decide) _ HK5.out _ _ _ (by rfl) _ _ (by rfl) (by rfl) (by rw [set_size]; rfl) HBs.out.2.1 (Nat.le_trans HBs.out.1 HT5.out.size) ?_); intro g m cap w6 hc6 hf6 hk6 ht6 hd6)
    go_ret
    refine ⟨rfl, rv2, .slice (some ⟨g, 0, none⟩) m cap, ?_, HT5.out.trans ht6 (fun g hg => .inl hg), HR2.out, fun g' hg' => ?_⟩
    · rw [HEV.out]; exact hk6
    · injection hg' with e
      subst e
      exact hd6.imp id (fun h => Nat.le_trans HT5.out.size h)
  | false =>
    have hq : (G.toList == Wh.toList) = true := by rw [eq_comm, Bool.not_eq_false'] at hht; exact hht
    have hq2 : G.toList = Wh.toList := by rw [beq_iff_eq] at hq; exact hq
    clear hht
    go_wp2_with (at_builtin; go_loud (refine append_log 59 _ 24 Tryz.underlying59 info_evt rfl (by decide) _ HK3.out _ _ _ (by rfl) _ _ (by rfl) (by rfl) (by rfl) HBs.out.2.1 (Nat.le_trans HBs.out.1 HT3.out.size) ?_); intro g m cap w6 hc6 hf6 hk6 ht6 hd6)
    go_ret
    refine ⟨rfl, rv2, .slice (some ⟨g, 0, none⟩) m cap, ?_, HT3.out.trans ht6 (fun g hg => .inl hg), HR2.out, fun g' hg' => ?_⟩
    · rw [HEV.out]; exact hk6
    · injection hg' with e
      subst e
      exact hd6.imp id (fun h => Nat.le_trans HT3.out.size h)
end Go.Proofs.YtbdmmgmcbecolaaGreatDoor
namespace Go.Proofs.YtbdmmgmcbecolaaGreatDoor
open Go.RowKit
theorem harms_le (l : List Evt) : harmsK l ≤ l.length := List.countP_le_length
theorem drop_tail (l : List Flt) (k : Nat) : (l.drop k).tail = l.drop (k + 1) := by rw [List.tail_drop]
end Go.Proofs.YtbdmmgmcbecolaaGreatDoor
namespace Go.Proofs.YtbdmmgmcbecolaaGreatDoor
open Go.RowKit
/-- a link that lies behind the world w0, in whose log all is new -/
structure KL (w0 w : World) (P : Nat) (h p f : ByteArray) (rest : List Flt) (log : List Evt) (n : Nat) (rv lv : Value) : Prop where
  a : LAt w P w0.heap.size h p f rest log n rv lv
  lo : w0.heap.size ≤ P
  bel : Below w0.heap.size w0 w
theorem KL.low {w0 w : World} {P : Nat} {h p f : ByteArray} {rest : List Flt} {log : List Evt} {n : Nat} {rv lv : Value} (k : KL w0 w P h p f rest log n rv lv) : ∀ g, LS P lv g → w0.heap.size ≤ g := fun g hg => by
  rcases hg with rfl | hg
  · exact k.lo
  · exact (k.a.own.lt g hg).1
theorem KL.step {w0 w w' : World} {P : Nat} {h p f : ByteArray} {rest : List Flt} {log : List Evt} {n : Nat} {rv lv : Value} (k : KL w0 w P h p f rest log n rv lv) (hb : Below w.heap.size w w') : KL w0 w' P h p f rest log n rv lv := ⟨k.a.below hb, k.lo, bstep k.bel hb⟩
theorem KL.env {w0 w : World} {P : Nat} {h p f : ByteArray} {rest : List Flt} {log : List Evt} {n : Nat} {rv lv : Value} (k : KL w0 w P h p f rest log n rv lv) (hE : EnvF w0) : ∀ W, Touch (LS P lv) w W → EnvF W := fun W ht =>
  hE.below (k.bel.trans (ht.below k.low k.bel.size))
/-- what another link's request does to a link: nothing -/
theorem KL.beside {w0 w w' : World} {P P2 : Nat} {h p f h2 p2 f2 : ByteArray} {rest rest2 : List Flt} {log log2 : List Evt} {n n2 : Nat} {rv lv rv2 lv2 : Value} (k : KL w0 w P h p f rest log n rv lv) (k2 : KL w0 w P2 h2 p2 f2 rest2 log2 n2 rv2 lv2) (hne : P ≠ P2) (hd : lv.ownBlock = none ∨ lv.ownBlock ≠ lv2.ownBlock) (ht : Touch (LS P2 lv2) w w') : KL w0 w' P h p f rest log n rv lv := by
  refine ⟨k.a.touch ht ?_ ?_ ?_, k.lo, k.bel.trans (ht.below k2.low k.bel.size)⟩
  · rintro (e | e)
    · exact hne e
    · exact own_not_row k2.a.own k.a.blk (by decide) e
  · rintro b hb (e | e)
    · obtain ⟨C, hC⟩ := k.a.tag b hb
      rw [e, k2.a.blk] at hC
      simp only [Option.some.injEq, Obj.cells.injEq] at hC
      exact absurd hC.2.1 (by decide)
    · obtain ⟨C, hC⟩ := k.a.tag b hb
      exact own_not_row k2.a.own hC (by decide) e
  · rintro g hg (e | e)
    · exact own_not_row k.a.own k2.a.blk (by decide) (by rw [hg]; exact congrArg some e)
    · rcases hd with hd | hd
      · rw [hd] at hg; cases hg
      · exact hd (by rw [hg, e])
def KAsk (w0 w : World) (P : Nat) (h p f : ByteArray) (rest : List Flt) (log : List Evt) (n : Nat) (rv lv : Value) (s : ByteArray) (e : Ending) (w' : World) : Prop :=
  e = .returned (.string (gotK h p f (rest.headD noF) s)) ∧ ∃ rv' lv', KL w0 w' P h p f rest.tail (log ++ [evK h p f (rest.headD noF) s]) (n + oneK (hurtK h p f (rest.headD noF) s)) rv' lv' ∧ Touch (LS P lv) w w' ∧ ∀ g, lv'.ownBlock = some g → lv.ownBlock = some g ∨ w.heap.size ≤ g
theorem KL.ask {w0 w : World} {P : Nat} {h p f : ByteArray} {rest : List Flt} {log : List Evt} {n : Nat} {rv lv : Value} (k : KL w0 w P h p f rest log n rv lv) (hE : EnvF w0) (s : ByteArray) (hs : s.size ≤ 1000000) (hf : f.size ≤ 100000) (hx : FltOk (rest.headD noF)) (hrl : rest.length ≤ 1000000) (hll : log.length ≤ 1000000) (hn : n ≤ 1000000) :
    Calls Tryz.prog 34 #[.pointer (some ⟨P, 0, none⟩), .string s] w (KAsk w0 w P h p f rest log n rv lv s) := by
  refine (link_ask s k.a (k.env hE) hs hf hx hrl hll hn k.bel.size).mono ?_
  rintro e w' ⟨rfl, rv', lv', ha, ht, -, hl⟩
  exact ⟨rfl, rv', lv', ⟨ha, k.lo, k.bel.trans (ht.below k.low k.bel.size)⟩, ht, hl⟩
theorem KL.new {w0 w w' : World} {h p f : ByteArray} {l : List Flt} {e : Ending} (hb : Below w0.heap.size w0 w) (hn : NewPost h p f l w e w') : ∃ P rv, e = .returned (.tuple #[.pointer (some ⟨P, 0, none⟩), .int .i64 0]) ∧ w.heap.size ≤ P ∧ KL w0 w' P h p f l [] 0 rv (.slice none 0 0) ∧ Below w.heap.size w w' := by
  obtain ⟨b, rv, rfl, h1, h2, h3, h4⟩ := hn
  have hs := hb.size
  exact ⟨b, rv, rfl, h1, ⟨⟨h2.blk, h2.hold, h2.tag, own_lowerF h2.own hs⟩, Nat.le_trans hs h1, bstep hb h4⟩, h4⟩
theorem flt_ok {l : List Flt} (h : ∀ x ∈ l, FltOk x) (k : Nat) : FltOk ((l.drop k).headD noF) := by
  cases e : l.drop k with
  | nil => exact noF_ok
  | cons x t => exact h x (List.mem_of_mem_drop (by rw [e]; exact List.mem_cons_self ..))
end Go.Proofs.YtbdmmgmcbecolaaGreatDoor
namespace Go.Proofs.YtbdmmgmcbecolaaGreatDoor
open Go.RowKit
theorem alloc3_facts (w : World) (x y z : Obj) : (((w.alloc x).alloc y).alloc z).heap[w.heap.size]? = some x ∧ (((w.alloc x).alloc y).alloc z).heap[w.heap.size + 1]? = some y ∧ (((w.alloc x).alloc y).alloc z).heap[w.heap.size + 1 + 1]? = some z ∧ Below w.heap.size w (((w.alloc x).alloc y).alloc z) := by
  have h1 := heap_alloc_new w x
  have h2 := heap_alloc_new (w.alloc x) y
  have h3 := heap_alloc_new ((w.alloc x).alloc y) z
  have b2 : Below (w.alloc x).heap.size (w.alloc x) ((w.alloc x).alloc y) := (Below.refl _ _).alloc (Nat.le_refl _) _
  have b3 : Below ((w.alloc x).alloc y).heap.size ((w.alloc x).alloc y) (((w.alloc x).alloc y).alloc z) := (Below.refl _ _).alloc (Nat.le_refl _) _
  have s1 : (w.alloc x).heap.size = w.heap.size + 1 := by simp
  have s2 : ((w.alloc x).alloc y).heap.size = w.heap.size + 1 + 1 := by simp
  rw [s1] at h2
  rw [s2] at h3
  refine ⟨?_, ?_, h3, bstep (bstep ((Below.refl _ _).alloc (Nat.le_refl _) _) b2) b3⟩
  · exact (b3.block _ (by rw [s2]; omega)).trans ((b2.block _ (by rw [s1]; omega)).trans h1)
  · exact (b3.block _ (by rw [s2]; omega)).trans h2
end Go.Proofs.YtbdmmgmcbecolaaGreatDoor
namespace Go.Proofs.YtbdmmgmcbecolaaGreatDoor
open Go.RowKit
structure K2 (w0 w : World) (P Q : Nat) (h p f : ByteArray) (r1 r2 : List Flt) (g1 g2 : List Evt) (n1 n2 : Nat) (rv1 rv2 lv1 lv2 : Value) : Prop where
  a : KL w0 w P h p f r1 g1 n1 rv1 lv1
  b : KL w0 w Q h p f r2 g2 n2 rv2 lv2
  ne : P ≠ Q
  ap : ∀ g, lv1.ownBlock = some g → lv2.ownBlock ≠ some g
section
variable {w0 w w' : World} {P Q : Nat} {h p f : ByteArray} {r1 r2 : List Flt} {g1 g2 : List Evt} {n1 n2 : Nat} {rv1 rv2 lv1 lv2 : Value}
theorem K2.step (k : K2 w0 w P Q h p f r1 r2 g1 g2 n1 n2 rv1 rv2 lv1 lv2) (hb : Below w.heap.size w w') : K2 w0 w' P Q h p f r1 r2 g1 g2 n1 n2 rv1 rv2 lv1 lv2 := ⟨k.a.step hb, k.b.step hb, k.ne, k.ap⟩
theorem K2.besides (k : K2 w0 w P Q h p f r1 r2 g1 g2 n1 n2 rv1 rv2 lv1 lv2) (ht : Touch (LS P lv1) w w') : KL w0 w' Q h p f r2 g2 n2 rv2 lv2 :=
  k.b.beside k.a (fun e => k.ne e.symm) (by
    cases e : lv2.ownBlock with
    | none => exact .inl rfl
    | some g => exact .inr (fun e2 => k.ap g e2.symm e)) ht
theorem K2.asked (k : K2 w0 w P Q h p f r1 r2 g1 g2 n1 n2 rv1 rv2 lv1 lv2) {s : ByteArray} {e : Ending} (ha : KAsk w0 w P h p f r1 g1 n1 rv1 lv1 s e w') : e = .returned (.string (gotK h p f (r1.headD noF) s)) ∧ ∃ rv' lv', K2 w0 w' P Q h p f r1.tail r2 (g1 ++ [evK h p f (r1.headD noF) s]) g2 (n1 + oneK (hurtK h p f (r1.headD noF) s)) n2 rv' rv2 lv' lv2 := by
  obtain ⟨rfl, rv', lv', hk, ht, hl⟩ := ha
  refine ⟨rfl, rv', lv', hk, k.besides ht, k.ne, ?_⟩
  intro g hg e
  rcases hl g hg with h1 | h1
  · exact k.ap g h1 e
  · have := (k.b.a.own.lt g e).2; omega
theorem K2.make (k : KL w0 w P h p f r1 g1 n1 rv1 lv1) (k2 : KL w0 w' Q h p f r2 g2 n2 rv2 lv2) (hQ : w.heap.size ≤ Q) (hb : Below w.heap.size w w') (hl : ∀ g, lv2.ownBlock = some g → w.heap.size ≤ g) : K2 w0 w' P Q h p f r1 r2 g1 g2 n1 n2 rv1 rv2 lv1 lv2 :=
  ⟨k.step hb, k2, by have := k.a.lt; omega, fun g hg e => by have := hl g e; have := (k.a.own.lt g hg).2; omega⟩
/-- what is written into a block of faults that neither link has -/
theorem K2.beside (k : K2 w0 w P Q h p f r1 r2 g1 g2 n1 n2 rv1 rv2 lv1 lv2) {G : Nat} {C : Array Value} (hG : w.heap[G]? = some (.cells C 65 (0, 0))) (hlo : w0.heap.size ≤ G) (h1 : ablk rv1 ≠ some G) (h2 : ablk rv2 ≠ some G) (ht : Touch (fun g => g = G) w w') : K2 w0 w' P Q h p f r1 r2 g1 g2 n1 n2 rv1 rv2 lv1 lv2 := by
  have hb : Below w0.heap.size w0 w' := k.a.bel.trans (ht.below (fun g hg => by rw [show g = G from hg]; exact hlo) k.a.bel.size)
  have one : ∀ {P : Nat} {r : List Flt} {g : List Evt} {n : Nat} {rv lv : Value}, KL w0 w P h p f r g n rv lv → ablk rv ≠ some G → KL w0 w' P h p f r g n rv lv := fun kk hr => by
    refine ⟨kk.a.touch ht ?_ ?_ ?_, kk.lo, hb⟩
    · intro e
      have e2 := kk.a.blk
      rw [show _ = G from e, hG] at e2
      simp only [Option.some.injEq, Obj.cells.injEq] at e2
      exact absurd e2.2.1 (by decide)
    · intro b hb e
      exact hr (by rw [hb]; exact congrArg some e)
    · intro b hb e
      exact own_not_row kk.a.own hG (by decide) (by rw [hb]; exact congrArg some e)
  exact ⟨one k.a h1, one k.b h2, k.ne, k.ap⟩
end
end Go.Proofs.YtbdmmgmcbecolaaGreatDoor
namespace Go.Proofs.YtbdmmgmcbecolaaGreatDoor
open Go.RowKit
end Go.Proofs.YtbdmmgmcbecolaaGreatDoor
namespace Go.Proofs.YtbdmmgmcbecolaaGreatDoor
open Go.RowKit
theorem grown_touch {w w' : World} {v : Value} (hg : w.grownBy w' v.ownBlock) : Touch (fun g => v.ownBlock = some g) w w' := Touch.of_grown hg (fun g h => .inl h)
/-- an owned row of another type grows beside a link -/
theorem KL.row {w0 w w' : World} {P : Nat} {h p f : ByteArray} {rest : List Flt} {log : List Evt} {n : Nat} {rv lv : Value} (k : KL w0 w P h p f rest log n rv lv) {b sz m : Nat} {e : TypeId} {v : Value} {xs : List Value} (ho : w.ownsRow b e sz v m xs) (h1 : e ≠ 97) (h2 : e ≠ 107) (h3 : e ≠ 65) (hlo : w0.heap.size ≤ b) (hg : w.grownBy w' v.ownBlock) : KL w0 w' P h p f rest log n rv lv := by
  have ht := grown_touch hg
  refine ⟨k.a.touch ht ?_ ?_ ?_, k.lo, k.bel.trans (ht.below (fun g hg => Nat.le_trans hlo (ho.lt g hg).1) k.bel.size)⟩
  · exact fun e1 => own_not_row ho k.a.blk h1 e1
  · intro b hb e1
    obtain ⟨C, hC⟩ := k.a.tag b hb
    exact own_not_row ho hC h3 e1
  · intro g hg e1
    exact (own_apart ho k.a.own h2).elim (fun e3 => by rw [e1] at e3; cases e3) (fun e3 => e3 (by rw [e1, hg]))
theorem K2.row {w0 w w' : World} {P Q : Nat} {h p f : ByteArray} {r1 r2 : List Flt} {g1 g2 : List Evt} {n1 n2 : Nat} {rv1 rv2 lv1 lv2 : Value} (k : K2 w0 w P Q h p f r1 r2 g1 g2 n1 n2 rv1 rv2 lv1 lv2) {b sz m : Nat} {e : TypeId} {v : Value} {xs : List Value} (ho : w.ownsRow b e sz v m xs) (h1 : e ≠ 97) (h2 : e ≠ 107) (h3 : e ≠ 65) (hlo : w0.heap.size ≤ b) (hg : w.grownBy w' v.ownBlock) : K2 w0 w' P Q h p f r1 r2 g1 g2 n1 n2 rv1 rv2 lv1 lv2 :=
  ⟨k.a.row ho h1 h2 h3 hlo hg, k.b.row ho h1 h2 h3 hlo hg, k.ne, k.ap⟩
end Go.Proofs.YtbdmmgmcbecolaaGreatDoor
namespace Go.Proofs.YtbdmmgmcbecolaaGreatDoor
open Go.RowKit
end Go.Proofs.YtbdmmgmcbecolaaGreatDoor
namespace Go.Proofs.YtbdmmgmcbecolaaGreatDoor
open Go.RowKit
end Go.Proofs.YtbdmmgmcbecolaaGreatDoor
namespace Go.Proofs.YtbdmmgmcbecolaaGreatDoor
open Go.RowKit

end Go.Proofs.YtbdmmgmcbecolaaGreatDoor
namespace Go.Proofs.YtbdmmgmcbecolaaGreatDoor
open Go.RowKit
def HoldsR (w : World) (v : Value) (rs : List (Int × Int)) : Prop :=
  ∃ a c, v = .slice a rs.length c ∧ rs.length ≤ c ∧ (rs ≠ [] → ∃ b o, a = some ⟨b, o, none⟩ ∧ b < w.heap.size ∧ ∀ j (hj : j < rs.length), w.cell? ⟨b, o + j * 2, none⟩ = some (.int .i64 rs[j].1) ∧ w.cell? ⟨b, o + j * 2 + 1, none⟩ = some (.int .i64 rs[j].2))
theorem HoldsR.nil (w : World) (a : Option Addr) (c : Nat) : HoldsR w (.slice a 0 c) [] := ⟨a, c, rfl, Nat.zero_le _, fun h => absurd rfl h⟩
end Go.Proofs.YtbdmmgmcbecolaaGreatDoor
namespace Go.Proofs.YtbdmmgmcbecolaaGreatDoor
open Go.RowKit
/-- the blocks of the reference's Ask -/
def rlW (w : World) (h p f : ByteArray) (V lv : Value) (n : Nat) (x : Flt) : World :=
  ((w.alloc (.cells #[.string h, .string p, .string f, V, lv, .int .i64 (n : Int)] 50)).alloc (.cells #[.string ⟨#[]⟩, .string ⟨#[]⟩, .string ⟨#[]⟩, .slice none 0 0, .slice none 0 0, .int .i64 0] 50)).alloc (.cells #[.int .u8 x.1, .int .i64 x.2.1, .string x.2.2] 148)
structure RLS (w W : World) (h p f : ByteArray) (V lv : Value) (n : Nat) (x : Flt) (rest : List Flt) (log : List Evt) (b0 : Nat) : Prop where
  a : W.heap[w.heap.size]? = some (.cells #[.string h, .string p, .string f, V, lv, .int .i64 (n : Int)] 50 (0, 0))
  z : W.heap[w.heap.size + 1]? = some (.cells #[.string ⟨#[]⟩, .string ⟨#[]⟩, .string ⟨#[]⟩, .slice none 0 0, .slice none 0 0, .int .i64 0] 50 (0, 0))
  x : W.heap[w.heap.size + 1 + 1]? = some (.cells #[.int .u8 x.1, .int .i64 x.2.1, .string x.2.2] 148 (0, 0))
  b : Below w.heap.size w W
  s : w.heap.size + 3 ≤ W.heap.size
  r : HoldsC W V rest
  o : W.ownsRow b0 106 3 lv log.length (evs log)
theorem RLS.start {w : World} {h p f : ByteArray} {V lv : Value} {n : Nat} {x : Flt} {rest : List Flt} {log : List Evt} {b0 : Nat} (hr : HoldsC w V rest) (ho : w.ownsRow b0 106 3 lv log.length (evs log)) : RLS w (rlW w h p f V lv n x) h p f V lv n x rest log b0 := by
  obtain ⟨h1, h2, h3, h4⟩ := alloc3_facts w (.cells #[.string h, .string p, .string f, V, lv, .int .i64 (n : Int)] 50) (.cells #[.string ⟨#[]⟩, .string ⟨#[]⟩, .string ⟨#[]⟩, .slice none 0 0, .slice none 0 0, .int .i64 0] 50) (.cells #[.int .u8 x.1, .int .i64 x.2.1, .string x.2.2] 148)
  exact ⟨h1, h2, h3, h4, by unfold rlW; simp, hr.below h4, own_of_block ho (fun g hg => h4.block g (ho.lt g hg).2)⟩
theorem RLS.below {w W W' : World} {h p f : ByteArray} {V lv : Value} {n : Nat} {x : Flt} {rest : List Flt} {log : List Evt} {b0 : Nat} (k : RLS w W h p f V lv n x rest log b0) (hb : Below W.heap.size W W') : RLS w W' h p f V lv n x rest log b0 := by
  have hs := k.s
  exact ⟨(hb.block _ (by omega)).trans k.a, (hb.block _ (by omega)).trans k.z, (hb.block _ (by omega)).trans k.x, bstep k.b hb, Nat.le_trans hs hb.size, k.r.below hb, own_of_block k.o (fun g hg => hb.block g (k.o.lt g hg).2)⟩
end Go.Proofs.YtbdmmgmcbecolaaGreatDoor
namespace Go.Proofs.YtbdmmgmcbecolaaGreatDoor
open Go.RowKit
/-- a store into a block of another type does nothing to a link -/
theorem KL.far {w0 w w' : World} {P : Nat} {h p f : ByteArray} {rest : List Flt} {log : List Evt} {n : Nat} {rv lv : Value} (k : KL w0 w P h p f rest log n rv lv) {X : Nat} {C : Array Value} {t : TypeId} (hX : w.heap[X]? = some (.cells C t (0, 0))) (h1 : t ≠ 97) (h2 : t ≠ 107) (h3 : t ≠ 65) (hlo : w0.heap.size ≤ X) (ht : Touch (fun g => g = X) w w') : KL w0 w' P h p f rest log n rv lv := by
  have hb : Below w0.heap.size w0 w' := k.bel.trans (ht.below (fun g hg => by rw [show g = X from hg]; exact hlo) k.bel.size)
  refine ⟨k.a.touch ht ?_ ?_ ?_, k.lo, hb⟩
  · intro e
    have e2 := k.a.blk
    rw [show _ = X from e, hX] at e2
    simp only [Option.some.injEq, Obj.cells.injEq] at e2
    exact h1 e2.2.1
  · intro b hb e
    obtain ⟨C', hC⟩ := k.a.tag b hb
    rw [show b = X from e, hX] at hC
    simp only [Option.some.injEq, Obj.cells.injEq] at hC
    exact h3 hC.2.1
  · intro b hb e
    exact own_not_row k.a.own hX h2.symm (by rw [hb]; exact congrArg some e)
/-- the state of LinkAsks' loop -/
structure SL (w1 wr : World) (P X : Nat) (h p f : ByteArray) (rest : List Flt) (log : List Evt) (n : Nat) (rv lv xr xl : Value) : Prop where
  k : KL w1 wr P h p f rest log n rv lv
  x : wr.heap[X]? = some (.cells #[.string h, .string p, .string f, xr, xl, .int .i64 (n : Int)] 50 (0, 0))
  hold : HoldsC w1 xr rest
  own : wr.ownsRow w1.heap.size 106 3 xl log.length (evs log)
  lo : w1.heap.size ≤ X
theorem SL.start {w1 wb : World} {P : Nat} {h p f : ByteArray} {rest : List Flt} {rv lv v : Value} (k : KL w1 wb P h p f rest [] 0 rv lv) (hv : HoldsC w1 v rest) : SL w1 (wb.alloc (.cells #[.string h, .string p, .string f, v, .slice none 0 0, .int .i64 0] 50)) P wb.heap.size h p f rest [] 0 rv lv v (.slice none 0 0) :=
  ⟨k.step ((Below.refl _ _).alloc (Nat.le_refl _) _), heap_alloc_new wb _, hv, World.ownsRow_nil _ _ _ _, k.bel.size⟩
/-- a block of another type stands beside a link's request -/
theorem blk_beside {w0 w w' : World} {P : Nat} {h p f : ByteArray} {rest : List Flt} {log : List Evt} {n : Nat} {rv lv : Value} (k : KL w0 w P h p f rest log n rv lv) {X : Nat} {C : Array Value} {t : TypeId} (hX : w.heap[X]? = some (.cells C t (0, 0))) (h1 : t ≠ 97) (h2 : t ≠ 107) (ht : Touch (LS P lv) w w') : w'.heap[X]? = some (.cells C t (0, 0)) := by
  refine (ht.block X (Array.getElem?_eq_some_iff.1 hX).1 ?_).trans hX
  rintro (e | e)
  · have e2 := k.a.blk
    rw [← e, hX] at e2
    simp only [Option.some.injEq, Obj.cells.injEq] at e2
    exact h1 e2.2.1
  · exact own_not_row k.a.own hX h2.symm e
end Go.Proofs.YtbdmmgmcbecolaaGreatDoor
namespace Go.Proofs.YtbdmmgmcbecolaaGreatDoor
open Go.RowKit
/-- why the bytes s tell nothing of the range a, b of t bytes; 0: they tell it -/
def judE (s : ByteArray) (a b t : Int) : Nat :=
  if s.size = 0 then 16
  else if takE s (rLen a b) ≠ 0 then takE s (rLen a b)
  else if takN s (rLen a b) < (s.size : Int) then 4
  else if takC s (rLen a b) ≠ 206 then 17
  else if getE (takF s (rLen a b)) crangeK ≠ 0 then getE (takF s (rLen a b)) crangeK
  else if tellE (getS (takF s (rLen a b)) crangeK) ≠ 0 then tellE (getS (takF s (rLen a b)) crangeK)
  else if tellA (getS (takF s (rLen a b)) crangeK) ≠ a ∨ tellB (getS (takF s (rLen a b)) crangeK) ≠ b ∨ tellC (getS (takF s (rLen a b)) crangeK) ≠ t then 19
  else if ((takB s (rLen a b)).length : Int) ≠ rLen a b then 18
  else 0
def judS (s : ByteArray) (a b t : Int) : List UInt8 := if judE s a b t = 0 then takB s (rLen a b) else []
theorem jud_zero (s : ByteArray) (a b t : Int) (h : judE s a b t = 0) : s.size ≠ 0 ∧ takE s (rLen a b) = 0 ∧ (s.size : Int) ≤ takN s (rLen a b) ∧ takC s (rLen a b) = 206 ∧ getE (takF s (rLen a b)) crangeK = 0 ∧ tellE (getS (takF s (rLen a b)) crangeK) = 0 ∧ (tellA (getS (takF s (rLen a b)) crangeK) = a ∧ tellB (getS (takF s (rLen a b)) crangeK) = b ∧ tellC (getS (takF s (rLen a b)) crangeK) = t) ∧ ((takB s (rLen a b)).length : Int) = rLen a b := by
  unfold judE at h
  by_cases h1 : s.size = 0
  · rw [if_pos h1] at h; exact absurd h (by decide)
  rw [if_neg h1] at h
  by_cases h2 : takE s (rLen a b) = 0
  · rw [if_neg (fun e => e h2)] at h
    by_cases h3 : takN s (rLen a b) < (s.size : Int)
    · rw [if_pos h3] at h; exact absurd h (by decide)
    rw [if_neg h3] at h
    by_cases h4 : takC s (rLen a b) = 206
    · rw [if_neg (fun e => e h4)] at h
      by_cases h5 : getE (takF s (rLen a b)) crangeK = 0
      · rw [if_neg (fun e => e h5)] at h
        by_cases h6 : tellE (getS (takF s (rLen a b)) crangeK) = 0
        · rw [if_neg (fun e => e h6)] at h
          by_cases h7 : tellA (getS (takF s (rLen a b)) crangeK) ≠ a ∨ tellB (getS (takF s (rLen a b)) crangeK) ≠ b ∨ tellC (getS (takF s (rLen a b)) crangeK) ≠ t
          · rw [if_pos h7] at h; exact absurd h (by decide)
          rw [if_neg h7] at h
          by_cases h8 : ((takB s (rLen a b)).length : Int) = rLen a b
          · exact ⟨h1, h2, by omega, h4, h5, h6, ⟨Classical.byContradiction fun e => h7 (.inl e), Classical.byContradiction fun e => h7 (.inr (.inl e)), Classical.byContradiction fun e => h7 (.inr (.inr e))⟩, h8⟩
          · rw [if_pos h8] at h; exact absurd h (by decide)
        · rw [if_pos h6] at h; exact absurd h h6
      · rw [if_pos h5] at h; exact absurd h h5
    · rw [if_pos h4] at h; exact absurd h (by decide)
  · rw [if_pos h2] at h; exact absurd h h2
theorem jud_made (s : ByteArray) (a b t : Int) (h1 : s.size ≠ 0) (h2 : takE s (rLen a b) = 0) (h3 : (s.size : Int) ≤ takN s (rLen a b)) (h4 : takC s (rLen a b) = 206) (h5 : getE (takF s (rLen a b)) crangeK = 0) (h6 : tellE (getS (takF s (rLen a b)) crangeK) = 0) (h7 : tellA (getS (takF s (rLen a b)) crangeK) = a ∧ tellB (getS (takF s (rLen a b)) crangeK) = b ∧ tellC (getS (takF s (rLen a b)) crangeK) = t) (h8 : ((takB s (rLen a b)).length : Int) = rLen a b) : judE s a b t = 0 := by
  unfold judE
  rw [if_neg h1, if_neg (fun e => e h2), if_neg (by omega), if_neg (fun e => e h4), if_neg (fun e => e h5), if_neg (fun e => e h6), if_neg (by rw [h7.1, h7.2.1, h7.2.2]; simp), if_neg (fun e => e h8)]
theorem tell_in (l : List UInt8) (h : tellE l = 0) : rErr (tellA l) (tellB l) = 0 ∧ tellB l < tellC l := by
  have hA : tellA l = (tellF l : Int) := by unfold tellA; rw [if_pos h]
  have hB : tellB l = (tellT l : Int) := by unfold tellB; rw [if_pos h]
  have hC : tellC l = (tellN l : Int) := by unfold tellC; rw [if_pos h]
  rw [hA, hB, hC]
  unfold tellE at h
  split at h
  · exact absurd h (by decide)
  · split at h
    · rename_i hh; exact absurd h hh
    · obtain ⟨h1, h2, -⟩ := toldE_ok _ _ _ h
      exact ⟨h1, h2⟩
/-- what is told is as long as the range -/
theorem jud_len (s : ByteArray) (a b t : Int) (h : judE s a b t = 0) : ((judS s a b t).length : Int) = rLen a b ∧ rErr a b = 0 ∧ b < t := by
  obtain ⟨-, -, -, -, -, h6, ⟨e1, e2, e3⟩, h8⟩ := jud_zero s a b t h
  refine ⟨by unfold judS; rw [if_pos h]; exact h8, ?_⟩
  obtain ⟨g1, g2⟩ := tell_in _ h6
  rw [e1, e2] at g1
  rw [e2, e3] at g2
  exact ⟨g1, g2⟩
end Go.Proofs.YtbdmmgmcbecolaaGreatDoor
namespace Go.Proofs.YtbdmmgmcbecolaaGreatDoor
open Go.RowKit
/-- what comes back in round j, behind n requests -/
def gotN (h p f : ByteArray) (l : List Flt) (S : ByteArray) (n j : Nat) : ByteArray := gotK h p f ((l.drop (n + j)).headD noF) S
/-- the log behind the requests qs and m rounds -/
def lgN (h p f : ByteArray) (l : List Flt) (qs : List ByteArray) (S : ByteArray) (m : Nat) : List Evt := logK h p f l (qs ++ List.replicate m S)
theorem lgN_zero (h p f : ByteArray) (l : List Flt) (qs : List ByteArray) (S : ByteArray) : lgN h p f l qs S 0 = logK h p f l qs := by unfold lgN; simp
theorem lgN_step (h p f : ByteArray) (l : List Flt) (qs : List ByteArray) (S : ByteArray) (m : Nat) : lgN h p f l qs S (m + 1) = lgN h p f l qs S m ++ [evK h p f ((l.drop (qs.length + m)).headD noF) S] := by
  unfold lgN
  rw [List.replicate_succ', ← List.append_assoc, logK_snoc]
  have e : restK l (qs ++ List.replicate m S) = l.drop (qs.length + m) := by unfold restK; simp
  rw [e]
theorem logK_len (h p f : ByteArray) : ∀ (qs : List ByteArray) (l : List Flt), (logK h p f l qs).length = qs.length := by
  intro qs
  induction qs with
  | nil => intro l; rfl
  | cons a t ih => intro l; show (logK h p f l.tail t).length + 1 = _; rw [ih]; rfl
theorem lgN_len (h p f : ByteArray) (l : List Flt) (qs : List ByteArray) (S : ByteArray) (m : Nat) : (lgN h p f l qs S m).length = qs.length + m := by
  unfold lgN; rw [logK_len]; simp
theorem hmN_step (h p f : ByteArray) (l : List Flt) (qs : List ByteArray) (S : ByteArray) (m : Nat) : harmsK (lgN h p f l qs S (m + 1)) = harmsK (lgN h p f l qs S m) + oneK (hurtK h p f ((l.drop (qs.length + m)).headD noF) S) := by
  rw [lgN_step, harmsK_snoc]; rfl
theorem hmN_le (h p f : ByteArray) (l : List Flt) (qs : List ByteArray) (S : ByteArray) (m : Nat) : harmsK (lgN h p f l qs S m) ≤ qs.length + m := by
  have := harms_le (lgN h p f l qs S m)
  rwa [lgN_len] at this
/-- the first round in which the range was told -/
def runJ (e : Nat → Nat) (r : Nat) : Option Nat := (List.range (r + 1)).find? (fun j => e j == 0)
theorem runJ_some (e : Nat → Nat) (r i : Nat) (hi : i ≤ r) (h : ∀ j, j < i → e j ≠ 0) (h0 : e i = 0) : runJ e r = some i := by
  unfold runJ
  rw [List.find?_range_eq_some]
  refine ⟨by simp [h0], List.mem_range.2 (by omega), fun j hj => by simpa using h j hj⟩
theorem runJ_none (e : Nat → Nat) (r : Nat) (h : ∀ j, j ≤ r → e j ≠ 0) : runJ e r = none := by
  unfold runJ
  rw [List.find?_eq_none]
  intro j hj
  have := h j (by have := List.mem_range.1 hj; omega)
  simpa using this
/-- how many requests were asked; the last answer's error; the call's error; what it tells -/
def runA (e : Nat → Nat) (r : Nat) : Nat := match runJ e r with | some j => j + 1 | none => r + 1
def runL (e : Nat → Nat) (r : Nat) : Nat := match runJ e r with | some _ => 0 | none => e r
def runE (e : Nat → Nat) (r : Nat) : Nat := match runJ e r with | some _ => 0 | none => 23
def runB (e : Nat → Nat) (r : Nat) (B : Nat → List UInt8) : List UInt8 := match runJ e r with | some j => B j | none => []
theorem run_some (e : Nat → Nat) (r i : Nat) (B : Nat → List UInt8) (hi : i ≤ r) (h : ∀ j, j < i → e j ≠ 0) (h0 : e i = 0) : runA e r = i + 1 ∧ runL e r = 0 ∧ runE e r = 0 ∧ runB e r B = B i := by
  unfold runA runL runE runB
  rw [runJ_some e r i hi h h0]
  exact ⟨rfl, rfl, rfl, rfl⟩
theorem run_none (e : Nat → Nat) (r : Nat) (B : Nat → List UInt8) (h : ∀ j, j ≤ r → e j ≠ 0) : runA e r = r + 1 ∧ runL e r = e r ∧ runE e r = 23 ∧ runB e r B = [] := by
  unfold runA runL runE runB
  rw [runJ_none e r h]
  exact ⟨rfl, rfl, rfl, rfl⟩
/-- the errors of a client's rounds -/
def errN (h p f : ByteArray) (l : List Flt) (S : ByteArray) (n : Nat) (a b t : Int) (j : Nat) : Nat := judE (gotN h p f l S n j) a b t
def bodN (h p f : ByteArray) (l : List Flt) (S : ByteArray) (n : Nat) (a b t : Int) (j : Nat) : List UInt8 := judS (gotN h p f l S n j) a b t
end Go.Proofs.YtbdmmgmcbecolaaGreatDoor
namespace Go.Proofs.YtbdmmgmcbecolaaGreatDoor
open Go.RowKit
theorem tellSplit (l : List UInt8) (R : List UInt8) (hR : R = if tellsL.isPrefixOf l = true then l.drop 6 else l) (R2 : List UInt8) (h2 : R2 = if hasB 45 R = true then behind 45 R else []) : tellOk l = (tellsL.isPrefixOf l && hasB 45 R && hasB 47 R2) := by
  unfold tellOk
  cases h : tellsL.isPrefixOf l
  · simp
  · rw [h, if_pos rfl] at hR
    subst hR
    cases hb : hasB 45 (l.drop 6)
    · simp
    · rw [hb, if_pos rfl] at h2
      rw [h2]
theorem threeE_nums (a b c : List UInt8) : numsE [a, b, c] = threeE a b c := by
  show (if numE a ≠ 0 then numE a else if numE b ≠ 0 then numE b else if numE c ≠ 0 then numE c else 0) = _
  unfold threeE
  split
  · rfl
  · split
    · rfl
    · split <;> omega
theorem tell_bad (l : List UInt8) (h : tellOk l = false) : tellE l = 4 ∧ tellA l = 0 ∧ tellB l = 0 ∧ tellC l = 0 := by
  have : tellE l = 4 := by unfold tellE; rw [if_pos h]
  unfold tellA tellB tellC; rw [this]; exact ⟨rfl, rfl, rfl, rfl⟩
theorem tell_no (l : List UInt8) (h : tellE l ≠ 0) : tellA l = 0 ∧ tellB l = 0 ∧ tellC l = 0 := by
  unfold tellA tellB tellC; rw [if_neg h, if_neg h, if_neg h]; exact ⟨rfl, rfl, rfl⟩
set_option maxRecDepth 100000 in
set_option maxHeartbeats 4000000 in
theorem ranges_tell (s : ByteArray) (w : World) (hs : s.size ≤ 1000000) (hE : EnvF w) :
    Calls Tryz.prog 48 #[.string s] w fun e w' => e = .returned (.tuple #[.agg #[.int .i64 (tellA s.data.toList), .int .i64 (tellB s.data.toList)], .int .i64 (tellC s.data.toList), .int .i64 (tellE s.data.toList : Nat)]) ∧ Below w.heap.size w w' := by
  obtain ⟨L, hL⟩ : ∃ L, s.data.toList = L := ⟨_, rfl⟩
  have hLl : L.length ≤ 1000000 := by rw [← hL, size_len]; exact hs
  have HP := Lib.hid (fun w => c_cutPre s ⟨#[98, 121, 116, 101, 115, 32]⟩ w)
  rw [hL, show (ByteArray.mk #[98, 121, 116, 101, 115, 32]).data.toList = tellsL from rfl] at HP
  rw [hL]
  obtain ⟨R, hR⟩ : ∃ R, bs (Lib.trimPrefix L tellsL) = R := ⟨_, rfl⟩
  have hRd : R.data.toList = if tellsL.isPrefixOf L = true then L.drop 6 else L := by rw [← hR, bs_data]; rfl
  have hRs : R.size ≤ 1000000 := by rw [← size_len, hRd]; split <;> (try rw [List.length_drop]) <;> omega
  rw [hR] at HP
  have HC := Lib.hid (fun w hE => c_cutAt R 45 w hRs hE)
  obtain ⟨R2, hR2⟩ : ∃ R2, bs (if hasB 45 R.data.toList = true then behind 45 R.data.toList else []) = R2 := ⟨_, rfl⟩
  have hR2d : R2.data.toList = if hasB 45 R.data.toList = true then behind 45 R.data.toList else [] := by rw [← hR2, bs_data]
  have hR2s : R2.size ≤ 1000000 := by
    rw [← size_len, hR2d]
    split
    · unfold behind; rw [List.length_drop, size_len]; omega
    · exact Nat.zero_le _
  rw [hR2] at HC
  have HC2 := Lib.hid (fun w hE => c_cutAt R2 47 w hR2s hE)
  have HE := Lib.hid (hE.below ((Below.refl _ _).alloc (Nat.le_refl _) (.cells #[.int .i64 0, .int .i64 0] 28)))
  have hok := tellSplit L R.data.toList hRd R2.data.toList hR2d
  by_cases hk : tellOk L = true
  case neg =>
    rw [Bool.not_eq_true] at hk
    have HA := Lib.hid (tell_bad L hk)
    rw [hk] at hok
    obtain ⟨p1, hp1⟩ : ∃ p1, tellsL.isPrefixOf L = p1 := ⟨_, rfl⟩
    obtain ⟨p2, hp2⟩ : ∃ p2, hasB 45 R.data.toList = p2 := ⟨_, rfl⟩
    obtain ⟨p3, hp3⟩ : ∃ p3, hasB 47 R2.data.toList = p3 := ⟨_, rfl⟩
    rw [hp1, hp2, hp3] at hok
    rw [hp1] at HP
    rw [hp2] at HC
    rw [hp3] at HC2
    generalize bs (if p2 = true then upTo 45 R.data.toList else R.data.toList) = X1 at HC
    generalize bs (if p3 = true then upTo 47 R2.data.toList else R2.data.toList) = X2 at HC2
    generalize bs (if p3 = true then behind 47 R2.data.toList else []) = X3 at HC2
    clear hp1 hp2 hp3 hRd hR2d hR hR2 hE hk hL
    cases p1 <;> cases p2 <;> cases p3
    case' true.true.true => exact absurd hok (by decide)
    all_goals
      clear hok
      go_enter Tryz.func48, Tryz.ntmps48
      go_wp2_with fail
      refine (HP.out _).mono ?_
      rintro e w' ⟨rfl, rfl⟩
      go_wp2_with fail
      refine (HC.out _ HE.out).mono ?_
      rintro e w1 ⟨rfl, hb1⟩
      have HE1 := Lib.hid (HE.out.below hb1)
      have HB1 := Lib.hid hb1
      clear hb1
      go_wp2_with fail
      refine (HC2.out _ HE1.out).mono ?_
      rintro e w2 ⟨rfl, hb2⟩
      have hb2' := bstep HB1.out hb2
      obtain ⟨k0, k1, f0, f1⟩ := two_of (two_box hb2')
      have HB2 := Lib.hid hb2'
      clear hb2 hb2'
      go_wp2_with fail
      refine ret_cell3 (A := ⟨w.heap.size, 0, none⟩) rfl (load_range _ _ _ _ _ (two_set (two_box HB2.out) _ _)) rfl rfl rfl rfl ?_
      refine ⟨?_, two_below (((Below.refl _ _).alloc (Nat.le_refl _) _).trans (HB2.out.mono (by simp))) _ (Nat.le_refl _) _ _⟩
      rw [HA.out.1, HA.out.2.1, HA.out.2.2.1, HA.out.2.2.2]; rfl
  rw [hk] at hok
  replace hok := hok.symm
  rw [Bool.and_eq_true, Bool.and_eq_true] at hok
  obtain ⟨⟨hp1, hp2⟩, hp3⟩ := hok
  rw [hp1, if_pos rfl] at hRd
  rw [hp1] at HP
  rw [hp2, if_pos rfl] at hR2d
  rw [hp2, if_pos rfl] at HC
  rw [hp3, if_pos rfl, if_pos rfl] at HC2
  rw [hRd] at hR2d HC
  rw [hR2d] at HC2
  obtain ⟨F, hF⟩ : ∃ F, upTo 45 (L.drop 6) = F := ⟨_, rfl⟩
  obtain ⟨T, hT⟩ : ∃ T, upTo 47 (behind 45 (L.drop 6)) = T := ⟨_, rfl⟩
  obtain ⟨N, hN⟩ : ∃ N, behind 47 (behind 45 (L.drop 6)) = N := ⟨_, rfl⟩
  have hFl : F.length ≤ 1000000 := by rw [← hF]; have := upTo_le 45 (L.drop 6); rw [List.length_drop] at this; omega
  have hBl : (behind 45 (L.drop 6)).length ≤ 1000000 := by unfold behind; rw [List.length_drop, List.length_drop]; omega
  have hTl : T.length ≤ 1000000 := by rw [← hT]; have := upTo_le 47 (behind 45 (L.drop 6)); omega
  have hNl : N.length ≤ 1000000 := by rw [← hN]; unfold behind at hBl ⊢; rw [List.length_drop]; omega
  have HA : Hid (tellE L = if threeE F T N ≠ 0 then threeE F T N else toldE (numV F : Nat) (numV T : Nat) (numV N : Nat)) := Lib.hid (by
    unfold tellE; rw [if_neg (by rw [hk]; decide)]
    unfold tellF tellT tellN
    rw [hF, hT, hN])
  have HAV : Hid (tellF L = numV F ∧ tellT L = numV T ∧ tellN L = numV N) := Lib.hid (by unfold tellF tellT tellN; rw [hF, hT, hN]; exact ⟨rfl, rfl, rfl⟩)
  rw [hF] at HC
  rw [hT, hN] at HC2
  have hnum := ranges_numbers (xs := [F, T, N]) (hne := by simp) (hlen := by simp) (hx := by intro x hx; simp at hx; rcases hx with rfl | rfl | rfl <;> assumption)
  have HN := Lib.hid hnum
  clear hp1 hp2 hp3 hRd hR2d hR hR2 hE hk hL hF hT hN hnum hBl
  by_cases hz : threeE F T N = 0
  case neg =>
    have HZ : Hid (numsE [F, T, N] = threeE F T N ∧ tellE L = threeE F T N ∧ tellA L = 0 ∧ tellB L = 0 ∧ tellC L = 0) := Lib.hid (by
      have e1 : tellE L = threeE F T N := by rw [HA.out, if_pos hz]
      exact ⟨threeE_nums F T N, e1, tell_no L (by rw [e1]; exact hz)⟩)
    have tz : ((threeE F T N : Int) != 0) = true := by rw [bne_iff_ne]; omega
    generalize threeE F T N = Z at HZ tz
    clear hz HA HAV
    go_enter Tryz.func48, Tryz.ntmps48
    go_wp2_with fail
    refine (HP.out _).mono ?_
    rintro e w' ⟨rfl, rfl⟩
    go_wp2_with fail
    refine (HC.out _ HE.out).mono ?_
    rintro e w1 ⟨rfl, hb1⟩
    have HE1 := Lib.hid (HE.out.below hb1)
    have HB1 := Lib.hid hb1
    clear hb1
    go_wp2_with fail
    refine (HC2.out _ HE1.out).mono ?_
    rintro e w2 ⟨rfl, hb2⟩
    have hbl : w.heap.size < w2.heap.size := by have := (bstep HB1.out hb2).size; simp at this; omega
    have HB2 := Lib.hid (bstep HB1.out hb2)
    have HE2 := Lib.hid (HE1.out.below hb2)
    clear hb2
    go_wp2_with fail
    have hS : HoldsS (w2.alloc (.cells #[.string (bs F), .string (bs T), .string (bs N)] 9)) (.slice (some ⟨w2.heap.size, 0, none⟩) 3 3) [F, T, N] := HoldsS.of_block (heap_alloc_new _ _) rfl rfl
    have hbA : Below w2.heap.size w2 (w2.alloc (.cells #[.string (bs F), .string (bs T), .string (bs N)] 9)) := (Below.refl _ _).alloc (Nat.le_refl _) _
    refine (HN.out _ _ hS (HE2.out.below hbA)).mono ?_
    rintro e w3 ⟨v, rfl, -, hb3⟩
    rw [HZ.out.1]
    have hb3' : Below (w.alloc (.cells #[.int .i64 0, .int .i64 0] 28)).heap.size (w.alloc (.cells #[.int .i64 0, .int .i64 0] 28)) w3 := bstep HB2.out (bstep hbA hb3)
    obtain ⟨k0, k1, f0, f1⟩ := two_of (two_box hb3')
    have HB3 := Lib.hid hb3'
    clear hb3 hbA hS hb3'
    go_wp2_with fail
    refine ret_cell3 (A := ⟨w.heap.size, 0, none⟩) rfl (load_range _ _ _ _ _ (two_set (two_box HB3.out) _ _)) rfl rfl rfl rfl ?_
    refine ⟨?_, two_below (((Below.refl _ _).alloc (Nat.le_refl _) _).trans (HB3.out.mono (by simp))) _ (Nat.le_refl _) _ _⟩
    rw [HZ.out.2.1, HZ.out.2.2.1, HZ.out.2.2.2.1, HZ.out.2.2.2.2]; rfl
  have HZ : Hid (numsE [F, T, N] = 0 ∧ tellE L = toldE (numV F : Nat) (numV T : Nat) (numV N : Nat)) := Lib.hid ⟨(threeE_nums F T N).trans hz, by rw [HA.out, if_neg (fun h => h hz)]⟩
  have HF : Hid (∀ b, numV b ≤ 9007199254740991) := Lib.hid numV_le'
  obtain ⟨P, hP⟩ : ∃ P, numV F = P := ⟨_, rfl⟩
  obtain ⟨Q, hQ⟩ : ∃ Q, numV T = Q := ⟨_, rfl⟩
  obtain ⟨M, hM⟩ : ∃ M, numV N = M := ⟨_, rfl⟩
  have hPl := HF.out F
  have hQl := HF.out T
  have hMl := HF.out N
  rw [hP] at HZ HAV hPl
  rw [hQ] at HZ HAV hQl
  rw [hM] at HZ HAV hMl
  have HI : Hid ([F, T, N].map numV = [P, Q, M]) := Lib.hid (by rw [← hP, ← hQ, ← hM]; rfl)
  have HCk := Lib.hid (fun w => told_wrong (P : Int) (Q : Int) (M : Int) w)
  clear hz HA HF hP hQ hM
  go_enter Tryz.func48, Tryz.ntmps48
  go_wp2_with fail
  refine (HP.out _).mono ?_
  rintro e w' ⟨rfl, rfl⟩
  go_wp2_with fail
  refine (HC.out _ HE.out).mono ?_
  rintro e w1 ⟨rfl, hb1⟩
  have HE1 := Lib.hid (HE.out.below hb1)
  have HB1 := Lib.hid hb1
  clear hb1
  go_wp2_with fail
  refine (HC2.out _ HE1.out).mono ?_
  rintro e w2 ⟨rfl, hb2⟩
  have hbl : w.heap.size < w2.heap.size := by have := (bstep HB1.out hb2).size; simp at this; omega
  have HB2 := Lib.hid (bstep HB1.out hb2)
  have HE2 := Lib.hid (HE1.out.below hb2)
  clear hb2
  go_wp2_with fail
  have hS : HoldsS (w2.alloc (.cells #[.string (bs F), .string (bs T), .string (bs N)] 9)) (.slice (some ⟨w2.heap.size, 0, none⟩) 3 3) [F, T, N] := HoldsS.of_block (heap_alloc_new _ _) rfl rfl
  have hbA : Below w2.heap.size w2 (w2.alloc (.cells #[.string (bs F), .string (bs T), .string (bs N)] 9)) := (Below.refl _ _).alloc (Nat.le_refl _) _
  refine (HN.out _ _ hS (HE2.out.below hbA)).mono ?_
  rintro e w3 ⟨v, rfl, hI, hb3⟩
  rw [HZ.out.1]
  have hI2 := hI HZ.out.1
  rw [HI.out] at hI2
  obtain ⟨g, c, hv, -, hg, -, hcell⟩ := hI2
  have c0 := hcell 0 (by simp)
  have c1 := hcell 1 (by simp)
  have c2 := hcell 2 (by simp)
  have hv2 : v = .slice (some ⟨g, 0, none⟩) 3 c := hv
  clear hcell hv hI
  subst hv2
  have hb3' : Below (w.alloc (.cells #[.int .i64 0, .int .i64 0] 28)).heap.size (w.alloc (.cells #[.int .i64 0, .int .i64 0] 28)) w3 := bstep HB2.out (bstep hbA hb3)
  clear hb3 hbA hS
  have HB3 := Lib.hid hb3'
  have hw3 : w.heap.size < w3.heap.size := by have := hb3'.size; simp at this; omega
  clear hb3'
  change w3.cell? ⟨g, 0, none⟩ = some (.int .i64 (P : Int)) at c0
  change w3.cell? ⟨g, 1, none⟩ = some (.int .i64 (Q : Int)) at c1
  change w3.cell? ⟨g, 2, none⟩ = some (.int .i64 (M : Int)) at c2
  go_wp2_with fail
  go_region
  all_goals go_wp2_with fail
  have hbR : Below w3.heap.size w3 (w3.alloc (.cells #[.int .i64 (P : Int), .int .i64 (Q : Int), .int .i64 (M : Int)] 169)).drew := ((Below.refl _ _).alloc (Nat.le_refl _) _).drew
  have hnR : (w3.alloc (.cells #[.int .i64 (P : Int), .int .i64 (Q : Int), .int .i64 (M : Int)] 169)).drew.heap[w3.heap.size]? = some (.cells #[.int .i64 (P : Int), .int .i64 (Q : Int), .int .i64 (M : Int)] 169 (0, 0)) := heap_alloc_new w3 _
  have hlR : w3.heap.size < (w3.alloc (.cells #[.int .i64 (P : Int), .int .i64 (Q : Int), .int .i64 (M : Int)] 169)).drew.heap.size := by simp
  refine (HCk.out _).mono ?_
  rintro e w4 ⟨rfl, hb4⟩
  have hj4 := (hb4.block _ hlR).trans hnR
  obtain ⟨j0, j1, j2, -, -, -⟩ := three_facts hj4
  have hb4' : Below (w.alloc (.cells #[.int .i64 0, .int .i64 0] 28)).heap.size (w.alloc (.cells #[.int .i64 0, .int .i64 0] 28)) w4 := bstep HB3.out (bstep hbR hb4)
  obtain ⟨k0, k1, f0, f1⟩ := two_of (two_box hb4')
  have hne : w.heap.size ≠ w3.heap.size := by omega
  have hl4 : w.heap.size < w4.heap.size := (Array.getElem?_eq_some_iff.1 (two_box hb4')).1
  clear hb4 hbR hnR hlR c0 c1 c2 hj4
  have HB4 := Lib.hid hb4'
  clear hb4'
  by_cases hr : toldE (P : Int) (Q : Int) (M : Int) = 0
  · have HR : Hid (tellE L = 0 ∧ tellA L = (P : Int) ∧ tellB L = (Q : Int) ∧ tellC L = (M : Int)) := Lib.hid (by
      have e1 : tellE L = 0 := by rw [HZ.out.2, hr]
      refine ⟨e1, ?_, ?_, ?_⟩
      · unfold tellA; rw [if_pos e1, HAV.out.1]
      · unfold tellB; rw [if_pos e1, HAV.out.2.1]
      · unfold tellC; rw [if_pos e1, HAV.out.2.2])
    rw [hr]
    clear hr
    go_wp2_with fail
    go_region
    all_goals
      go_wp2_with fail
      refine ret_cell3 (A := ⟨w.heap.size, 0, none⟩) rfl (load_range _ _ _ _ _ (two_set (two_box HB4.out) _ _)) rfl rfl rfl rfl ?_
      refine ⟨?_, (two_below (((Below.refl _ _).alloc (Nat.le_refl _) _).trans (HB4.out.mono (by simp))) _ (Nat.le_refl _) _ _).drew⟩
      rw [HR.out.1, HR.out.2.1, HR.out.2.2.1, HR.out.2.2.2]; rfl
  · have HR : Hid (tellE L = toldE (P : Int) (Q : Int) (M : Int) ∧ tellA L = 0 ∧ tellB L = 0 ∧ tellC L = 0) := Lib.hid ⟨HZ.out.2, tell_no L (by rw [HZ.out.2]; exact hr)⟩
    have tz : ((toldE (P : Int) (Q : Int) (M : Int) : Int) != 0) = true := by rw [bne_iff_ne]; omega
    generalize toldE (P : Int) (Q : Int) (M : Int) = Z at HR tz ⊢
    clear hr
    go_wp2_with fail
    refine ret_cell3 (A := ⟨w.heap.size, 0, none⟩) rfl (load_range _ _ _ _ _ (two_set (two_box HB4.out) _ _)) rfl rfl rfl rfl ?_
    refine ⟨?_, two_below (((Below.refl _ _).alloc (Nat.le_refl _) _).trans (HB4.out.mono (by simp))) _ (Nat.le_refl _) _ _⟩
    rw [HR.out.1, HR.out.2.1, HR.out.2.2.1, HR.out.2.2.2]; rfl
end Go.Proofs.YtbdmmgmcbecolaaGreatDoor
namespace Go.Proofs.YtbdmmgmcbecolaaGreatDoor
open Go.RowKit
theorem rLen_ok (a b : Int) (h : rErr a b = 0) : rLen a b = b - a + 1 := by unfold rLen; rw [if_pos h]
theorem rLen_no (a b : Int) (h : rErr a b ≠ 0) : rLen a b = 0 := by unfold rLen; rw [if_neg h]
theorem ranges_length (a b : Int) (w : World) :
    Calls Tryz.prog 11 #[.agg #[.int .i64 a, .int .i64 b]] w fun e w' => e = .returned (.int .i64 (rLen a b)) ∧ Below w.heap.size w w' := by
  have HC := Lib.hid (fun w => ranges_check a b w)
  obtain ⟨r0, r1⟩ := box2 w (.int .i64 a) (.int .i64 b) 28
  have HB0 := Lib.hid (below_agg2 w (.int .i64 a) (.int .i64 b) 28)
  have hl : w.heap.size < (w.alloc (.cells #[.int .i64 a, .int .i64 b] 28)).heap.size := by simp
  have HL := Lib.hid hl
  clear hl
  by_cases hr : rErr a b = 0
  · have HA := Lib.hid (rLen_ok a b hr)
    obtain ⟨b1, b2, b3⟩ := rErr_ok a b hr
    have wr1 : IntKind.i64.wrap (b - a) = b - a := by rw [IntKind.wrap_i64]; omega
    have wr2 : IntKind.i64.wrap (b - a + 1) = b - a + 1 := by rw [IntKind.wrap_i64]; omega
    rw [hr] at HC
    clear hr b1 b2 b3
    go_enter Tryz.func11, Tryz.ntmps11
    go_wp2_with fail
    refine (HC.out _).mono ?_
    rintro e w1 ⟨rfl, hb1⟩
    have y0 := (hb1.cell (p := ⟨w.heap.size, 0, none⟩) HL.out).trans r0
    have y1 := (hb1.cell (p := ⟨w.heap.size, 1, none⟩) HL.out).trans r1
    have HB1 := Lib.hid (bstep HB0.out hb1)
    clear hb1 r0 r1
    go_wp2_with fail
    go_ret
    exact ⟨by rw [HA.out] <;> rfl, HB1.out⟩
  · have HA := Lib.hid (rLen_no a b hr)
    have h8 := (rErr_no a b hr).1
    rw [h8] at HC
    clear hr h8
    go_enter Tryz.func11, Tryz.ntmps11
    go_wp2_with fail
    refine (HC.out _).mono ?_
    rintro e w1 ⟨rfl, hb1⟩
    have HB1 := Lib.hid (bstep HB0.out hb1)
    clear hb1 r0 r1
    go_wp2_with fail
    go_ret
    exact ⟨by rw [HA.out] <;> rfl, HB1.out⟩
theorem ref_rlength (a b : Int) (w : World) :
    Calls Tryz.prog 29 #[.agg #[.int .i64 a, .int .i64 b]] w fun e w' => e = .returned (.int .i64 (rLen a b)) ∧ Below w.heap.size w w' := by
  have HC := Lib.hid (fun w => ref_rcheck a b w)
  obtain ⟨r0, r1⟩ := box2 w (.int .i64 a) (.int .i64 b) 23
  have HB0 := Lib.hid (below_agg2 w (.int .i64 a) (.int .i64 b) 23)
  have hl : w.heap.size < (w.alloc (.cells #[.int .i64 a, .int .i64 b] 23)).heap.size := by simp
  have HL := Lib.hid hl
  clear hl
  by_cases hr : rErr a b = 0
  · have HA := Lib.hid (rLen_ok a b hr)
    obtain ⟨b1, b2, b3⟩ := rErr_ok a b hr
    have wr1 : IntKind.i64.wrap (b - a) = b - a := by rw [IntKind.wrap_i64]; omega
    have wr2 : IntKind.i64.wrap (b - a + 1) = b - a + 1 := by rw [IntKind.wrap_i64]; omega
    rw [hr] at HC
    clear hr b1 b2 b3
    go_enter Tryz.func29, Tryz.ntmps29
    go_wp2_with fail
    refine (HC.out _).mono ?_
    rintro e w1 ⟨rfl, hb1⟩
    have y0 := (hb1.cell (p := ⟨w.heap.size, 0, none⟩) HL.out).trans r0
    have y1 := (hb1.cell (p := ⟨w.heap.size, 1, none⟩) HL.out).trans r1
    have HB1 := Lib.hid (bstep HB0.out hb1)
    clear hb1 r0 r1
    go_wp2_with fail
    go_ret
    exact ⟨by rw [HA.out] <;> rfl, HB1.out⟩
  · have HA := Lib.hid (rLen_no a b hr)
    have h8 := (rErr_no a b hr).1
    rw [h8] at HC
    clear hr h8
    go_enter Tryz.func29, Tryz.ntmps29
    go_wp2_with fail
    refine (HC.out _).mono ?_
    rintro e w1 ⟨rfl, hb1⟩
    have HB1 := Lib.hid (bstep HB0.out hb1)
    clear hb1 r0 r1
    go_wp2_with fail
    go_ret
    exact ⟨by rw [HA.out] <;> rfl, HB1.out⟩
theorem neq_orng (x y x' y' : Int) (w : World) : (binOp .neq 28 (.agg #[.int .i64 x, .int .i64 y]) (.agg #[.int .i64 x', .int .i64 y'])).run Tryz.prog w = .ok (.bool (!decide (x = x' ∧ y = y'))) w := by
  have u4 := Tryz.underlying3
  have hS : Tryz.prog.underlying 28 = some (.struct (Tryz.prog.fieldsOf 28)) := by kernel_rfl
  have hp : Tryz.prog.stoodInHeld 28 = false := by kernel_rfl
  rw [run_neq_struct, show (10000 : Nat) = 9998 + 2 from rfl, run_equalIn_agg w (9998 + 1) 28 _ _ hS hp]
  simp only [Program.fieldsOf, Tryz.underlying28]
  by_cases h1 : x = x'
  · subst h1
    by_cases h2 : y = y'
    · subst h2
      go_simp
    · have h3 : (y == y') = false := by rw [beq_eq_false_iff_ne]; exact h2
      go_simp <;> simp [h2]
  · have h3 : (x == x') = false := by rw [beq_eq_false_iff_ne]; exact h1
    go_simp <;> simp [h1]
theorem neq_drng (x y x' y' : Int) (w : World) : (binOp .neq 23 (.agg #[.int .i64 x, .int .i64 y]) (.agg #[.int .i64 x', .int .i64 y'])).run Tryz.prog w = .ok (.bool (!decide (x = x' ∧ y = y'))) w := by
  have u4 := Tryz.underlying3
  have hS : Tryz.prog.underlying 23 = some (.struct (Tryz.prog.fieldsOf 23)) := by kernel_rfl
  have hp : Tryz.prog.stoodInHeld 23 = false := by kernel_rfl
  rw [run_neq_struct, show (10000 : Nat) = 9998 + 2 from rfl, run_equalIn_agg w (9998 + 1) 23 _ _ hS hp]
  simp only [Program.fieldsOf, Tryz.underlying23]
  by_cases h1 : x = x'
  · subst h1
    by_cases h2 : y = y'
    · subst h2
      go_simp
    · have h3 : (y == y') = false := by rw [beq_eq_false_iff_ne]; exact h2
      go_simp <;> simp [h2]
  · have h3 : (x == x') = false := by rw [beq_eq_false_iff_ne]; exact h1
    go_simp <;> simp [h1]
theorem guard_orng (op : BinOp) (x y : Operand) (xs ys : Array Value) (w : World) : (eqGuard op 28 x y (.agg xs) (.agg ys)).run Tryz.prog w = .ok () w :=
  run_eqGuard_agg w op 28 x y xs ys (by kernel_rfl)
theorem guard_drng (op : BinOp) (x y : Operand) (xs ys : Array Value) (w : World) : (eqGuard op 23 x y (.agg xs) (.agg ys)).run Tryz.prog w = .ok () w :=
  run_eqGuard_agg w op 23 x y xs ys (by kernel_rfl)
theorem prefix_tells (l : List UInt8) (h : 6 ≤ l.length) : tellsL.isPrefixOf l = (l.take 6 == tellsL) := by
  rw [Bool.eq_iff_iff, beq_iff_eq, List.isPrefixOf_iff_prefix, List.prefix_iff_eq_take]
  exact ⟨fun e => e.symm, fun e => e.symm⟩
theorem prefix_tshort (l : List UInt8) (h : l.length < 6) : tellsL.isPrefixOf l = false := by
  rw [Bool.eq_false_iff]
  intro hp
  have := (List.isPrefixOf_iff_prefix.1 hp).length_le
  have e : tellsL.length = 6 := rfl
  omega
def TellV (L : List UInt8) : Value := .tuple #[.agg #[.int .i64 (tellA L), .int .i64 (tellB L)], .int .i64 (tellC L), .int .i64 (tellE L : Nat)]
theorem tellV_bad (L : List UInt8) (e : Nat) (h : tellE L = e) (h0 : e ≠ 0) : TellV L = .tuple #[.agg #[.int .i64 0, .int .i64 0], .int .i64 0, .int .i64 (e : Nat)] := by
  obtain ⟨h1, h2, h3⟩ := tell_no L (by rw [h]; exact h0)
  unfold TellV
  rw [h1, h2, h3, h]
theorem tellV_form (L : List UInt8) (h : tellOk L = false) : TellV L = .tuple #[.agg #[.int .i64 0, .int .i64 0], .int .i64 0, .int .i64 4] := tellV_bad L 4 (tell_bad L h).1 (by decide)
set_option maxRecDepth 100000 in
set_option maxHeartbeats 4000000 in
theorem ref_tell (s : ByteArray) (w : World) (hs : s.size ≤ 1000000) :
    Calls Tryz.prog 31 #[.string s] w fun e w' => e = .returned (TellV s.data.toList) ∧ Below w.heap.size w w' := by
  obtain ⟨L, hL⟩ : ∃ L, s.data.toList = L := ⟨_, rfl⟩
  have hLs : L.length = s.size := by rw [← hL, size_len]
  rw [hL]
  by_cases h6 : s.size < 6
  · have HA := Lib.hid (tellV_form L (by unfold tellOk; rw [prefix_tshort L (by omega)]; rfl))
    have t1 : decide ((s.size : Int) < 6) = true := decide_eq_true (by omega)
    clear h6 hL hLs
    go_enter Tryz.func31, Tryz.ntmps31
    go_wp2_with fail
    refine ret_cell3 (A := ⟨w.heap.size, 0, none⟩) rfl (load_rrange _ _ _ _ _ (heap_alloc_new w _)) rfl rfl rfl rfl ?_
    exact ⟨by rw [HA.out] <;> rfl, below_agg2 w _ _ _⟩
  have t1 : decide ((s.size : Int) < 6) = false := decide_eq_false (by omega)
  have h6' : 6 ≤ s.size := by omega
  have hpe : ((s.extract 0 6).toList == [98, 121, 116, 101, 115, 32]) = tellsL.isPrefixOf L := by
    rw [extract_bs, List.drop_zero, ByteArray.toList_eq, bs_data, hL, prefix_tells L (by omega)]; rfl
  cases hp : tellsL.isPrefixOf L with
  | false =>
    have HA := Lib.hid (tellV_form L (by unfold tellOk; rw [hp]; rfl))
    rw [hp] at hpe
    clear h6 hL hLs hp
    go_enter Tryz.func31, Tryz.ntmps31
    go_wp2_with fail
    refine ret_cell3 (A := ⟨w.heap.size, 0, none⟩) rfl (load_rrange _ _ _ _ _ (heap_alloc_new w _)) rfl rfl rfl rfl ?_
    exact ⟨by rw [HA.out] <;> rfl, below_agg2 w _ _ _⟩
  | true =>
    rw [hp] at hpe
    have HC := Lib.hid (fun w => ref_cutAt (s.extract 6 s.size) 45 45 rfl w (by rw [ByteArray.size_extract]; omega))
    have hd : (s.extract 6 s.size).data.toList = L.drop 6 := by rw [extract_bs, bs_data, ← size_len s, List.take_length, hL]
    rw [hd] at HC
    obtain ⟨R, hR⟩ : ∃ R, bs (if hasB 45 (L.drop 6) = true then behind 45 (L.drop 6) else []) = R := ⟨_, rfl⟩
    have hRd : R.data.toList = if hasB 45 (L.drop 6) = true then behind 45 (L.drop 6) else [] := by rw [← hR, bs_data]
    have hRs : R.size ≤ 1000000 := by
      rw [← size_len, hRd]
      split
      · unfold behind; rw [List.length_drop, List.length_drop]; omega
      · exact Nat.zero_le _
    rw [hR] at HC
    have HC2 := Lib.hid (fun w => ref_cutAt R 47 47 rfl w hRs)
    cases hB : hasB 45 (L.drop 6) with
    | false =>
      rw [hB] at HC
      have HA := Lib.hid (tellV_form L (by unfold tellOk; rw [hB, Bool.and_false]; rfl))
      generalize bs (if hasB 47 R.data.toList = true then upTo 47 R.data.toList else []) = X1 at HC2
      generalize bs (if hasB 47 R.data.toList = true then behind 47 R.data.toList else []) = X2 at HC2
      generalize hasB 47 R.data.toList = X3 at HC2
      clear h6 hL hLs hp hB hd hR hRd hRs
      go_enter Tryz.func31, Tryz.ntmps31
      go_wp2_with fail
      refine (HC.out _).mono ?_
      rintro e w1 ⟨rfl, hb1⟩
      have HB0 := Lib.hid hb1
      clear hb1
      go_wp2_with fail
      refine (HC2.out _).mono ?_
      rintro e w2 ⟨rfl, hb2⟩
      have HB1 := Lib.hid (bstep HB0.out hb2)
      obtain ⟨k0, k1, f0, f1⟩ := two_of (two_box HB1.out)
      clear hb2
      go_wp2_with fail
      refine ret_cell3 (A := ⟨w.heap.size, 0, none⟩) rfl (load_rrange _ _ _ _ _ (two_set (two_box HB1.out) (.int .i64 0) (.int .i64 0))) rfl rfl rfl rfl ?_
      exact ⟨by rw [HA.out] <;> rfl, two_below (bstep (below_agg2 w _ _ _) HB1.out) _ (Nat.le_refl _) _ _⟩
    | true =>
      rw [hB, if_pos rfl] at hRd
      rw [hB, if_pos rfl] at HC
      rw [hRd] at HC2
      cases hB2 : hasB 47 (behind 45 (L.drop 6)) with
      | false =>
        rw [hB2] at HC2
        have HA := Lib.hid (tellV_form L (by unfold tellOk; rw [hB2, Bool.and_false]))
        generalize bs (upTo 45 (L.drop 6)) = X1 at HC
        clear h6 hL hLs hp hB hd hR hRd hRs hB2
        go_enter Tryz.func31, Tryz.ntmps31
        go_wp2_with fail
        refine (HC.out _).mono ?_
        rintro e w1 ⟨rfl, hb1⟩
        have HB0 := Lib.hid hb1
        clear hb1
        go_wp2_with fail
        refine (HC2.out _).mono ?_
        rintro e w2 ⟨rfl, hb2⟩
        have HB1 := Lib.hid (bstep HB0.out hb2)
        obtain ⟨k0, k1, f0, f1⟩ := two_of (two_box HB1.out)
        clear hb2
        go_wp2_with fail
        refine ret_cell3 (A := ⟨w.heap.size, 0, none⟩) rfl (load_rrange _ _ _ _ _ (two_set (two_box HB1.out) (.int .i64 0) (.int .i64 0))) rfl rfl rfl rfl ?_
        exact ⟨by rw [HA.out] <;> rfl, two_below (bstep (below_agg2 w _ _ _) HB1.out) _ (Nat.le_refl _) _ _⟩
      | true =>
        rw [hB2, if_pos rfl, if_pos rfl] at HC2
        obtain ⟨F, hF⟩ : ∃ F, upTo 45 (L.drop 6) = F := ⟨_, rfl⟩
        obtain ⟨T, hT⟩ : ∃ T, upTo 47 (behind 45 (L.drop 6)) = T := ⟨_, rfl⟩
        obtain ⟨Z, hZ⟩ : ∃ Z, behind 47 (behind 45 (L.drop 6)) = Z := ⟨_, rfl⟩
        have hDl : (L.drop 6).length ≤ 1000000 := by rw [List.length_drop]; omega
        have hBl : (behind 45 (L.drop 6)).length ≤ 1000000 := by unfold behind; rw [List.length_drop]; omega
        have hFl : F.length ≤ 1000000 := by rw [← hF]; have := upTo_le 45 (L.drop 6); omega
        have hTl : T.length ≤ 1000000 := by rw [← hT]; have := upTo_le 47 (behind 45 (L.drop 6)); omega
        have hZl : Z.length ≤ 1000000 := by rw [← hZ]; unfold behind at hBl ⊢; rw [List.length_drop]; omega
        have hE : tellE L = if threeE F T Z ≠ 0 then threeE F T Z else toldE (numV F : Nat) (numV T : Nat) (numV Z : Nat) := by
          unfold tellE tellOk tellF tellT tellN
          rw [hp, hB, hB2, if_neg (by decide), hF, hT, hZ]
        have hV : tellF L = numV F ∧ tellT L = numV T ∧ tellN L = numV Z := by unfold tellF tellT tellN; rw [hF, hT, hZ]; exact ⟨rfl, rfl, rfl⟩
        rw [hF] at HC
        rw [hT, hZ] at HC2
        have HTw := Lib.hid (fun w => ref_two (bs F) (bs T) w (by rw [bs_size]; exact hFl) (by rw [bs_size]; exact hTl))
        rw [bs_data, bs_data] at HTw
        have HN := Lib.hid (fun w => ref_number (bs Z) w (by rw [bs_size]; omega))
        rw [bs_data] at HN
        by_cases hz : twoE F T = 0
        · have h3 : threeE F T Z = numE Z := by
            unfold twoE at hz
            unfold threeE
            split at hz
            · rename_i h; exact absurd hz h
            · rename_i h; rw [if_neg h, if_neg (fun e => e hz)]
          have ea : twoA F T = numV F ∧ twoB F T = numV T := by unfold twoA twoB; rw [hz]; exact ⟨rfl, rfl⟩
          rw [hz, ea.1, ea.2] at HTw
          rw [h3] at hE
          by_cases hn : numE Z = 0
          · rw [if_neg (fun e => e hn)] at hE
            rw [hn] at HN
            have hFm := numV_le' F
            have hTm := numV_le' T
            have hZm := numV_le' Z
            obtain ⟨P, hP⟩ : ∃ P, numV F = P := ⟨_, rfl⟩
            obtain ⟨Q, hQ⟩ : ∃ Q, numV T = Q := ⟨_, rfl⟩
            obtain ⟨M, hM⟩ : ∃ M, numV Z = M := ⟨_, rfl⟩
            rw [hP] at HTw hE hV hFm
            rw [hQ] at HTw hE hV hTm
            rw [hM] at HN hE hV hZm
            have HK := Lib.hid (fun w => ref_rcheck (P : Int) (Q : Int) w)
            by_cases hr : rErr (P : Int) (Q : Int) = 0
            · rw [hr] at HK
              by_cases hq : (M : Int) ≤ (Q : Int)
              · have HA := Lib.hid (tellV_bad L 8 (by rw [hE]; unfold toldE; rw [if_neg (fun e => e hr), if_pos (.inl hq)]) (by decide))
                have t2 : decide ((M : Int) ≤ (Q : Int)) = true := decide_eq_true hq
                clear h6 hL hLs hp hB hd hE hV hF hT hZ hr hz ea hP hQ hM hR hRd hRs hB2 hDl hBl hFl hTl hZl h3 hn
                go_enter Tryz.func31, Tryz.ntmps31
                go_wp2_with fail
                refine (HC.out _).mono ?_
                rintro e w1 ⟨rfl, hb1⟩
                go_wp2_with fail
                refine (HC2.out _).mono ?_
                rintro e w2 ⟨rfl, hb2⟩
                go_wp2_with fail
                refine (HTw.out _).mono ?_
                rintro e w3 ⟨rfl, hb3⟩
                have HB3 := Lib.hid (bstep (bstep hb1 hb2) hb3)
                have hbR : Below w3.heap.size w3 (w3.alloc (.cells #[.int .i64 (P : Int), .int .i64 (Q : Int)] 23)) := below_agg2 _ _ _ _
                have HBR := Lib.hid hbR
                clear hb1 hb2 hb3 hbR
                go_wp2_with fail
                refine (HN.out _).mono ?_
                rintro e w' ⟨rfl, hww⟩
                obtain rfl := hww.symm
                clear hww
                go_wp2_with fail
                refine (HK.out _).mono ?_
                rintro e w4 ⟨rfl, hb4⟩
                obtain ⟨j0, j1⟩ := box_two hb4
                have HB4 := Lib.hid (bstep HB3.out (bstep HBR.out hb4))
                obtain ⟨k0, k1, f0, f1⟩ := two_of (two_box HB4.out)
                clear hb4
                go_wp2_with fail
                refine ret_cell3 (A := ⟨w.heap.size, 0, none⟩) rfl (load_rrange _ _ _ _ _ (two_set (two_box HB4.out) (.int .i64 0) (.int .i64 0))) rfl rfl rfl rfl ?_
                exact ⟨by rw [HA.out]; rfl, two_below (bstep (below_agg2 w _ _ _) HB4.out) _ (Nat.le_refl _) _ _⟩
              · have hE0 : tellE L = 0 := by rw [hE]; unfold toldE; rw [if_neg (fun e => e hr), if_neg (by omega)]
                have HA : Hid (TellV L = .tuple #[.agg #[.int .i64 (P : Int), .int .i64 (Q : Int)], .int .i64 (M : Int), .int .i64 0]) := Lib.hid (by
                  unfold TellV tellA tellB tellC
                  rw [hE0, if_pos rfl, if_pos rfl, if_pos rfl, hV.1, hV.2.1, hV.2.2]; rfl)
                have t2 : decide ((M : Int) ≤ (Q : Int)) = false := decide_eq_false hq
                clear h6 hL hLs hp hB hd hE hV hF hT hZ hr hz ea hP hQ hM hR hRd hRs hB2 hDl hBl hFl hTl hZl h3 hn hE0
                go_enter Tryz.func31, Tryz.ntmps31
                go_wp2_with fail
                refine (HC.out _).mono ?_
                rintro e w1 ⟨rfl, hb1⟩
                go_wp2_with fail
                refine (HC2.out _).mono ?_
                rintro e w2 ⟨rfl, hb2⟩
                go_wp2_with fail
                refine (HTw.out _).mono ?_
                rintro e w3 ⟨rfl, hb3⟩
                have HB3 := Lib.hid (bstep (bstep hb1 hb2) hb3)
                have hbR : Below w3.heap.size w3 (w3.alloc (.cells #[.int .i64 (P : Int), .int .i64 (Q : Int)] 23)) := below_agg2 _ _ _ _
                have HBR := Lib.hid hbR
                clear hb1 hb2 hb3 hbR
                go_wp2_with fail
                refine (HN.out _).mono ?_
                rintro e w' ⟨rfl, hww⟩
                obtain rfl := hww.symm
                clear hww
                go_wp2_with fail
                refine (HK.out _).mono ?_
                rintro e w4 ⟨rfl, hb4⟩
                obtain ⟨j0, j1⟩ := box_two hb4
                have HB4 := Lib.hid (bstep HB3.out (bstep HBR.out hb4))
                obtain ⟨k0, k1, f0, f1⟩ := two_of (two_box HB4.out)
                clear hb4
                go_wp2_with fail
                refine ret_cell3 (A := ⟨w.heap.size, 0, none⟩) rfl (load_rrange _ _ _ _ _ (two_set (two_box HB4.out) (.int .i64 (P : Int)) (.int .i64 (Q : Int)))) rfl rfl rfl rfl ?_
                exact ⟨by rw [HA.out] <;> rfl, two_below (bstep (below_agg2 w _ _ _) HB4.out) _ (Nat.le_refl _) _ _⟩
            · have h8 := (rErr_no _ _ hr).1
              have HA := Lib.hid (tellV_bad L 8 (by rw [hE]; unfold toldE; rw [if_pos hr, h8]) (by decide))
              rw [h8] at HK
              clear h6 hL hLs hp hB hd hE hV hF hT hZ hr hz ea hP hQ hM hR hRd hRs hB2 hDl hBl hFl hTl hZl h3 hn h8
              go_enter Tryz.func31, Tryz.ntmps31
              go_wp2_with fail
              refine (HC.out _).mono ?_
              rintro e w1 ⟨rfl, hb1⟩
              go_wp2_with fail
              refine (HC2.out _).mono ?_
              rintro e w2 ⟨rfl, hb2⟩
              go_wp2_with fail
              refine (HTw.out _).mono ?_
              rintro e w3 ⟨rfl, hb3⟩
              have HB3 := Lib.hid (bstep (bstep hb1 hb2) hb3)
              have hbR : Below w3.heap.size w3 (w3.alloc (.cells #[.int .i64 (P : Int), .int .i64 (Q : Int)] 23)) := below_agg2 _ _ _ _
              have HBR := Lib.hid hbR
              clear hb1 hb2 hb3 hbR
              go_wp2_with fail
              refine (HN.out _).mono ?_
              rintro e w' ⟨rfl, hww⟩
              obtain rfl := hww.symm
              clear hww
              go_wp2_with fail
              refine (HK.out _).mono ?_
              rintro e w4 ⟨rfl, hb4⟩
              have HB4 := Lib.hid (bstep HB3.out (bstep HBR.out hb4))
              obtain ⟨k0, k1, f0, f1⟩ := two_of (two_box HB4.out)
              clear hb4
              go_wp2_with fail
              refine ret_cell3 (A := ⟨w.heap.size, 0, none⟩) rfl (load_rrange _ _ _ _ _ (two_set (two_box HB4.out) (.int .i64 0) (.int .i64 0))) rfl rfl rfl rfl ?_
              exact ⟨by rw [HA.out]; rfl, two_below (bstep (below_agg2 w _ _ _) HB4.out) _ (Nat.le_refl _) _ _⟩
          · rw [if_pos hn] at hE
            have HA := Lib.hid (tellV_bad L (numE Z) hE hn)
            have tz : ((numE Z : Int) != 0) = true := by rw [bne_iff_ne]; omega
            have tz2 : ((numE Z : Int) == 0) = false := by rw [beq_eq_false_iff_ne]; omega
            generalize numE Z = E at HN HA tz tz2
            generalize numV Z = M at HN
            generalize numV F = P at HTw
            generalize numV T = Q at HTw
            clear h6 hL hLs hp hB hd hE hV hF hT hZ hz ea hR hRd hRs hB2 hDl hBl hFl hTl hZl h3 hn
            go_enter Tryz.func31, Tryz.ntmps31
            go_wp2_with fail
            refine (HC.out _).mono ?_
            rintro e w1 ⟨rfl, hb1⟩
            go_wp2_with fail
            refine (HC2.out _).mono ?_
            rintro e w2 ⟨rfl, hb2⟩
            go_wp2_with fail
            refine (HTw.out _).mono ?_
            rintro e w3 ⟨rfl, hb3⟩
            have HB3 := Lib.hid (bstep (bstep hb1 hb2) hb3)
            have hbR : Below w3.heap.size w3 (w3.alloc (.cells #[.int .i64 (P : Int), .int .i64 (Q : Int)] 23)) := below_agg2 _ _ _ _
            have HB4 := Lib.hid (bstep HB3.out hbR)
            clear hb1 hb2 hb3 hbR
            go_wp2_with fail
            refine (HN.out _).mono ?_
            rintro e w' ⟨rfl, hww⟩
            obtain rfl := hww.symm
            clear hww
            obtain ⟨k0, k1, f0, f1⟩ := two_of (two_box HB4.out)
            go_wp2_with fail
            refine ret_cell3 (A := ⟨w.heap.size, 0, none⟩) rfl (load_rrange _ _ _ _ _ (two_set (two_box HB4.out) (.int .i64 0) (.int .i64 0))) rfl rfl rfl rfl ?_
            exact ⟨by rw [HA.out] <;> rfl, two_below (bstep (below_agg2 w _ _ _) HB4.out) _ (Nat.le_refl _) _ _⟩
        · have h3 : threeE F T Z = twoE F T := by
            unfold twoE at hz ⊢
            unfold threeE
            split at hz
            · rename_i h; rw [if_pos h, if_pos h]
            · rename_i h; rw [if_neg h, if_neg h, if_pos hz]
          rw [h3, if_pos hz] at hE
          have HA := Lib.hid (tellV_bad L (twoE F T) hE hz)
          have tz : ((twoE F T : Int) != 0) = true := by rw [bne_iff_ne]; omega
          generalize twoE F T = E at HTw HA tz
          generalize twoA F T = P at HTw
          generalize twoB F T = Q at HTw
          clear h6 hL hLs hp hB hd hE hV hF hT hZ hz hR hRd hRs hB2 hDl hBl hFl hTl hZl h3 HN
          go_enter Tryz.func31, Tryz.ntmps31
          go_wp2_with fail
          refine (HC.out _).mono ?_
          rintro e w1 ⟨rfl, hb1⟩
          go_wp2_with fail
          refine (HC2.out _).mono ?_
          rintro e w2 ⟨rfl, hb2⟩
          go_wp2_with fail
          refine (HTw.out _).mono ?_
          rintro e w3 ⟨rfl, hb3⟩
          have HB3 := Lib.hid (bstep (bstep hb1 hb2) hb3)
          have hbR : Below w3.heap.size w3 (w3.alloc (.cells #[.int .i64 (P : Int), .int .i64 (Q : Int)] 23)) := below_agg2 _ _ _ _
          have HB4 := Lib.hid (bstep HB3.out hbR)
          obtain ⟨k0, k1, f0, f1⟩ := two_of (two_box HB4.out)
          clear hb1 hb2 hb3 hbR
          go_wp2_with fail
          refine ret_cell3 (A := ⟨w.heap.size, 0, none⟩) rfl (load_rrange _ _ _ _ _ (two_set (two_box HB4.out) (.int .i64 0) (.int .i64 0))) rfl rfl rfl rfl ?_
          exact ⟨by rw [HA.out] <;> rfl, two_below (bstep (below_agg2 w _ _ _) HB4.out) _ (Nat.le_refl _) _ _⟩
end Go.Proofs.YtbdmmgmcbecolaaGreatDoor
namespace Go.Proofs.YtbdmmgmcbecolaaGreatDoor
open Go.RowKit
theorem parseN_len (l : List UInt8) : (parseN l).length ≤ l.length := by
  unfold parseN
  split
  · unfold parseName; rw [List.length_map]; exact ahead_le l
  · exact Nat.zero_le _
theorem takF_small (s : ByteArray) (most : Int) : ∀ f ∈ takF s most, f.1.length ≤ 256 ∧ f.2.length ≤ 256 := by
  intro f hf
  unfold takF at hf
  split at hf
  · unfold restF at hf
    have hm := (List.mem_filter.1 hf).1
    unfold fldL at hm
    obtain ⟨x, hx, rfl⟩ := List.mem_map.1 hm
    have := (headOf_bound s).1 x (List.mem_of_mem_tail hx)
    exact ⟨Nat.le_trans (parseN_len x) this, Nat.le_trans (parseV_len x) this⟩
  · simp at hf
end Go.Proofs.YtbdmmgmcbecolaaGreatDoor
namespace Go.Proofs.YtbdmmgmcbecolaaGreatDoor
open Go.RowKit
def ErrV (e : Nat) : Value := if e = 0 then .nilIface else .iface 74 (.agg #[.int .i64 (e : Int)])
def JudV (s : ByteArray) (a b t : Int) : Value := .tuple #[.string (bs (judS s a b t)), ErrV (judE s a b t)]
theorem judV_bad (s : ByteArray) (a b t : Int) (e : Nat) (h : judE s a b t = e) (h0 : e ≠ 0) : JudV s a b t = .tuple #[.string ⟨#[]⟩, .iface 74 (.agg #[.int .i64 (e : Int)])] := by
  unfold JudV ErrV judS
  rw [h, if_neg h0, if_neg h0]; rfl
theorem judV_ok (s : ByteArray) (a b t : Int) (h : judE s a b t = 0) : JudV s a b t = .tuple #[.string (bs (takB s (rLen a b))), .nilIface] := by
  unfold JudV ErrV judS
  rw [h, if_pos rfl, if_pos rfl]
theorem jud_1 (s : ByteArray) (a b t : Int) (h : s.size = 0) : judE s a b t = 16 := by unfold judE; rw [if_pos h]
theorem jud_2 (s : ByteArray) (a b t : Int) (h : s.size ≠ 0) (h2 : takE s (rLen a b) ≠ 0) : judE s a b t = takE s (rLen a b) := by unfold judE; rw [if_neg h, if_pos h2]
theorem jud_3 (s : ByteArray) (a b t : Int) (h : s.size ≠ 0) (h2 : takE s (rLen a b) = 0) (h3 : takN s (rLen a b) < (s.size : Int)) : judE s a b t = 4 := by unfold judE; rw [if_neg h, if_neg (fun e => e h2), if_pos h3]
theorem jud_4 (s : ByteArray) (a b t : Int) (h : s.size ≠ 0) (h2 : takE s (rLen a b) = 0) (h3 : ¬ takN s (rLen a b) < (s.size : Int)) (h4 : takC s (rLen a b) ≠ 206) : judE s a b t = 17 := by unfold judE; rw [if_neg h, if_neg (fun e => e h2), if_neg h3, if_pos h4]
theorem jud_5 (s : ByteArray) (a b t : Int) (h : s.size ≠ 0) (h2 : takE s (rLen a b) = 0) (h3 : ¬ takN s (rLen a b) < (s.size : Int)) (h4 : takC s (rLen a b) = 206) (h5 : getE (takF s (rLen a b)) crangeK ≠ 0) : judE s a b t = getE (takF s (rLen a b)) crangeK := by unfold judE; rw [if_neg h, if_neg (fun e => e h2), if_neg h3, if_neg (fun e => e h4), if_pos h5]
theorem jud_6 (s : ByteArray) (a b t : Int) (h : s.size ≠ 0) (h2 : takE s (rLen a b) = 0) (h3 : ¬ takN s (rLen a b) < (s.size : Int)) (h4 : takC s (rLen a b) = 206) (h5 : getE (takF s (rLen a b)) crangeK = 0) (h6 : tellE (getS (takF s (rLen a b)) crangeK) ≠ 0) : judE s a b t = tellE (getS (takF s (rLen a b)) crangeK) := by unfold judE; rw [if_neg h, if_neg (fun e => e h2), if_neg h3, if_neg (fun e => e h4), if_neg (fun e => e h5), if_pos h6]
theorem jud_7 (s : ByteArray) (a b t : Int) (h : s.size ≠ 0) (h2 : takE s (rLen a b) = 0) (h3 : ¬ takN s (rLen a b) < (s.size : Int)) (h4 : takC s (rLen a b) = 206) (h5 : getE (takF s (rLen a b)) crangeK = 0) (h6 : tellE (getS (takF s (rLen a b)) crangeK) = 0) (h7 : ¬ ((tellA (getS (takF s (rLen a b)) crangeK) = a ∧ tellB (getS (takF s (rLen a b)) crangeK) = b) ∧ tellC (getS (takF s (rLen a b)) crangeK) = t)) : judE s a b t = 19 := by
  unfold judE
  rw [if_neg h, if_neg (fun e => e h2), if_neg h3, if_neg (fun e => e h4), if_neg (fun e => e h5), if_neg (fun e => e h6), if_pos]
  by_cases g1 : tellA (getS (takF s (rLen a b)) crangeK) = a
  · by_cases g2 : tellB (getS (takF s (rLen a b)) crangeK) = b
    · exact .inr (.inr (fun g3 => h7 ⟨⟨g1, g2⟩, g3⟩))
    · exact .inr (.inl g2)
  · exact .inl g1
theorem jud_8 (s : ByteArray) (a b t : Int) (h : s.size ≠ 0) (h2 : takE s (rLen a b) = 0) (h3 : ¬ takN s (rLen a b) < (s.size : Int)) (h4 : takC s (rLen a b) = 206) (h5 : getE (takF s (rLen a b)) crangeK = 0) (h6 : tellE (getS (takF s (rLen a b)) crangeK) = 0) (h7 : (tellA (getS (takF s (rLen a b)) crangeK) = a ∧ tellB (getS (takF s (rLen a b)) crangeK) = b) ∧ tellC (getS (takF s (rLen a b)) crangeK) = t) (h8 : ((takB s (rLen a b)).length : Int) ≠ rLen a b) : judE s a b t = 18 := by
  unfold judE
  rw [if_neg h, if_neg (fun e => e h2), if_neg h3, if_neg (fun e => e h4), if_neg (fun e => e h5), if_neg (fun e => e h6), if_neg (by rw [h7.1.1, h7.1.2, h7.2]; simp), if_pos h8]
theorem getS_small (s : ByteArray) (m : Int) : (bs (getS (takF s m) crangeK)).size ≤ 1000000 := by
  rw [bs_size]
  have h := takF_small s m
  unfold getS
  cases hh : hits (takF s m) crangeK with
  | nil => exact Nat.zero_le _
  | cons v r =>
    cases r with
    | cons _ _ => exact Nat.zero_le _
    | nil =>
      have : v ∈ hits (takF s m) crangeK := by rw [hh]; exact List.mem_cons_self ..
      unfold hits at this
      obtain ⟨f, hf, rfl⟩ := List.mem_map.1 this
      have := (h f (List.mem_filter.1 hf).1).2
      show f.2.length ≤ _
      omega
set_option maxRecDepth 100000 in
set_option maxHeartbeats 4000000 in
theorem fetch_judge (s : ByteArray) (a b t : Int) (w : World) (hs : s.size ≤ 1000000) (hE : EnvF w) :
    Calls Tryz.prog 26 #[.string s, .agg #[.int .i64 a, .int .i64 b], .int .i64 t] w fun e w' => e = .returned (JudV s a b t) ∧ Below w.heap.size w w' := by
  have HL := Lib.hid (fun w => ranges_length a b w)
  have HP := Lib.hid (fun w hE => reply_parse s (rLen a b) w hs hE)
  unfold ParsePost RepV at HP
  have HB0 := Lib.hid (below_agg2 w (.int .i64 a) (.int .i64 b) 28)
  have HE0 := Lib.hid (hE.below HB0.out)
  have HR0 := Lib.hid (heap_alloc_new w (.cells #[.int .i64 a, .int .i64 b] 28))
  have HSz : Hid ((takF s (rLen a b)).length ≤ 1000000) := Lib.hid (Nat.le_trans (takF_len _ _) (by decide))
  have HGs := Lib.hid (getS_small s (rLen a b))
  obtain ⟨r0, r1⟩ := box2 w (.int .i64 a) (.int .i64 b) 28
  clear hE
  by_cases hz : s.size = 0
  · have HA := Lib.hid (judV_bad s a b t 16 (jud_1 s a b t hz) (by decide))
    have z1 : (s.toList == []) = true := by rw [ByteArray.toList_eq, beq_iff_eq]; exact List.eq_nil_of_length_eq_zero (by rw [size_len]; exact hz)
    have z2 : s.toList = [] := by simpa using z1
    clear hz
    go_enter Tryz.func26, Tryz.ntmps26
    go_wp2_with fail
    go_ret2
    exact ⟨by rw [HA.out]; rfl, HB0.out⟩
  have z1 : (s.toList == []) = false := by rw [ByteArray.toList_eq, beq_eq_false_iff_ne]; intro e; exact hz (by rw [← size_len, e]; rfl)
  have z2 : ¬ s.toList = [] := by simpa using z1
  go_enter Tryz.func26, Tryz.ntmps26
  go_wp2_with fail
  generalize (w.alloc (.cells #[.int .i64 a, .int .i64 b] 28)) = W0 at HB0 HE0 HR0 r0 r1 ⊢
  generalize w.heap.size = X at HR0 r0 r1 ⊢
  refine (HL.out _).mono ?_
  rintro e w1 ⟨rfl, hb1⟩
  go_wp2_with fail
  refine (HP.out _ (HE0.out.below hb1)).mono ?_
  rintro e w2 ⟨fv, rfl, hown, hb2⟩
  obtain ⟨fa, fc, rfl⟩ := slice_of_own hown
  have HB2 := Lib.hid (bstep hb1 hb2)
  have HOw := Lib.hid (HoldsF.of_own hown)
  clear hb1 hb2 hown HP
  by_cases h2 : takE s (rLen a b) = 0
  case neg =>
    have HA := Lib.hid (judV_bad s a b t _ (jud_2 s a b t hz h2) h2)
    have tz : (((takE s (rLen a b) : Nat) : Int) != 0) = true := by rw [bne_iff_ne]; omega
    clear hz h2
    generalize takE s (rLen a b) = E at HA tz ⊢
    go_wp2_with fail
    go_ret2
    exact ⟨by rw [HA.out] <;> rfl, bstep HB0.out (HB2.out.alloc HB2.out.size _)⟩
  rw [h2]
  by_cases h3 : takN s (rLen a b) < (s.size : Int)
  · have HA := Lib.hid (judV_bad s a b t 4 (jud_3 s a b t hz h2 h3) (by decide))
    have t3 : decide (takN s (rLen a b) < (s.size : Int)) = true := decide_eq_true h3
    clear hz h2
    generalize takN s (rLen a b) = N at h3 t3 ⊢
    go_wp2_with fail
    go_ret2
    exact ⟨by rw [HA.out]; rfl, bstep HB0.out (HB2.out.alloc HB2.out.size _)⟩
  have t3 : decide (takN s (rLen a b) < (s.size : Int)) = false := decide_eq_false h3
  by_cases h4 : takC s (rLen a b) = 206
  case neg =>
    have HA := Lib.hid (judV_bad s a b t 17 (jud_4 s a b t hz h2 h3 h4) (by decide))
    have t4 : (takC s (rLen a b) != 206) = true := by rw [bne_iff_ne]; exact h4
    clear hz h2
    generalize takN s (rLen a b) = N at h3 t3 ⊢
    generalize takC s (rLen a b) = C at h4 t4 ⊢
    go_wp2_with fail
    go_ret2
    exact ⟨by rw [HA.out]; rfl, bstep HB0.out (HB2.out.alloc HB2.out.size _)⟩
  rw [h4]
  have HAs := Lib.hid (And.intro hz (And.intro h2 (And.intro h3 h4)))
  clear hz h2 h4
  generalize takN s (rLen a b) = N at h3 t3 ⊢
  have HBB : Hid ((bs (takB s (rLen a b))).size = (takB s (rLen a b)).length) := Lib.hid (bs_size _)
  have hB3 := HB2.out.alloc HB2.out.size (.cells #[.int .i64 206, .slice fa (takF s (rLen a b)).length fc, .string (bs (takB s (rLen a b)))] 113)
  have HO3 := Lib.hid (HOw.out.below ((Below.refl _ _).alloc (Nat.le_refl _) (.cells #[.int .i64 206, .slice fa (takF s (rLen a b)).length fc, .string (bs (takB s (rLen a b)))] 113)))
  have HR3 := Lib.hid (heap_alloc_new w2 (.cells #[.int .i64 206, .slice fa (takF s (rLen a b)).length fc, .string (bs (takB s (rLen a b)))] 113))
  have HB3 := Lib.hid hB3
  clear hB3 h3 HOw
  go_wp2_with fail
  refine (get_k _ _ _ crangeK rfl _ HO3.out HSz.out).mono ?_
  rintro e w3 ⟨rfl, hb3⟩
  have HB4 := Lib.hid (bstep HB3.out hb3)
  have HR4 := Lib.hid ((hb3.block w2.heap.size (by simp)).trans HR3.out)
  have hwl : w2.heap.size < w3.heap.size := (Array.getElem?_eq_some_iff.1 HR4.out).1
  have HWl := Lib.hid hwl
  clear hb3 HB3 HR3 HO3 hwl
  generalize w2.heap.size = Y at HR4 HWl ⊢
  obtain ⟨V, hV⟩ : ∃ V, getS (takF s (rLen a b)) crangeK = V := ⟨_, rfl⟩
  have HV := Lib.hid hV
  rw [hV] at HGs ⊢
  clear hV
  by_cases h5 : getE (takF s (rLen a b)) crangeK = 0
  case neg =>
    have HA := Lib.hid (judV_bad s a b t _ (jud_5 s a b t HAs.out.1 HAs.out.2.1 (Int.not_lt.2 HAs.out.2.2.1) HAs.out.2.2.2 h5) h5)
    have tz : (((getE (takF s (rLen a b)) crangeK : Nat) : Int) != 0) = true := by rw [bne_iff_ne]; omega
    clear h5
    generalize getE (takF s (rLen a b)) crangeK = E at HA tz ⊢
    go_wp2_with fail
    go_ret2
    exact ⟨by rw [HA.out] <;> rfl, bstep HB0.out HB4.out⟩
  rw [h5]
  have HT := Lib.hid (fun w hE => ranges_tell (bs V) w HGs.out hE)
  rw [bs_data] at HT
  go_wp2_with fail
  refine (HT.out _ (HE0.out.below HB4.out)).mono ?_
  rintro e w4 ⟨rfl, hb4⟩
  have HB5 := Lib.hid (bstep HB4.out hb4)
  have HR5 := Lib.hid ((hb4.block Y HWl.out).trans HR4.out)
  clear hb4 HB4 HR4 HT
  by_cases h6 : tellE V = 0
  case neg =>
    have HA := Lib.hid (judV_bad s a b t _ (by have := jud_6 s a b t HAs.out.1 HAs.out.2.1 (Int.not_lt.2 HAs.out.2.2.1) HAs.out.2.2.2 h5; rw [HV.out] at this; exact this h6) h6)
    have tz : (((tellE V : Nat) : Int) != 0) = true := by rw [bne_iff_ne]; omega
    clear h5 h6
    generalize tellE V = E at HA tz ⊢
    go_wp2_with fail
    go_ret2
    exact ⟨by rw [HA.out] <;> rfl, bstep HB0.out (HB5.out.alloc HB5.out.size _)⟩
  rw [h6]
  have hB6 := HB5.out.alloc HB5.out.size (.cells #[.int .i64 (tellA V), .int .i64 (tellB V)] 28)
  have hwx : X < W0.heap.size := (Array.getElem?_eq_some_iff.1 HR0.out).1
  have x0 := (hB6.cell (p := ⟨X, 0, none⟩) hwx).trans r0
  have x1 := (hB6.cell (p := ⟨X, 1, none⟩) hwx).trans r1
  have HB6 := Lib.hid hB6
  have HWx := Lib.hid hwx
  have hne := neq_orng (tellA V) (tellB V) a b
  have hgd := guard_orng
  clear hB6 hwx r0 r1
  by_cases h7 : (tellA V = a ∧ tellB V = b) ∧ tellC V = t
  case neg =>
    have HA := Lib.hid (judV_bad s a b t 19 (by have := jud_7 s a b t HAs.out.1 HAs.out.2.1 (Int.not_lt.2 HAs.out.2.2.1) HAs.out.2.2.2 h5; rw [HV.out] at this; exact this h6 h7) (by decide))
    clear h5 h6
    by_cases h8 : tellA V = a ∧ tellB V = b
    · have t9 : (tellC V != t) = true := by rw [bne_iff_ne]; exact fun e => h7 ⟨h8, e⟩
      rw [decide_eq_true h8] at hne
      clear h7 h8
      generalize tellA V = A at hne x0 x1 HB6 ⊢
      generalize tellB V = B at hne x0 x1 HB6 ⊢
      generalize tellC V = C at t9 ⊢
      go_wp2_with fail
      go_ret2
      exact ⟨by rw [HA.out]; rfl, bstep HB0.out HB6.out⟩
    · rw [decide_eq_false h8] at hne
      clear h7 h8
      generalize tellA V = A at hne x0 x1 HB6 ⊢
      generalize tellB V = B at hne x0 x1 HB6 ⊢
      generalize tellC V = C
      go_wp2_with fail
      go_ret2
      exact ⟨by rw [HA.out]; rfl, bstep HB0.out HB6.out⟩
  have h7' : (tellA (getS (takF s (rLen a b)) crangeK) = a ∧ tellB (getS (takF s (rLen a b)) crangeK) = b) ∧ tellC (getS (takF s (rLen a b)) crangeK) = t := by rw [HV.out]; exact h7
  have h6' : tellE (getS (takF s (rLen a b)) crangeK) = 0 := by rw [HV.out]; exact h6
  obtain ⟨⟨g1, g2⟩, g3⟩ := h7
  rw [g1, g2] at hne x0 x1 HB6 ⊢
  rw [g3]
  rw [decide_eq_true (And.intro rfl rfl)] at hne
  have H7 := Lib.hid (And.intro h5 (And.intro h6' h7'))
  have hR6 := (((Below.refl w4.heap.size w4).alloc (Nat.le_refl _) (.cells #[.int .i64 a, .int .i64 b] 28)).block Y (Array.getElem?_eq_some_iff.1 HR5.out).1).trans HR5.out
  have HR6 := Lib.hid hR6
  clear h5 h6 h6' h7' g1 g2 g3 hR6 HR5 HB5
  go_wp2_with fail
  generalize w4.alloc (.cells #[.int .i64 a, .int .i64 b] 28) = W6 at HB6 HR6 x0 x1 ⊢
  have HS : Hid (∀ W, Below W6.heap.size W6 W → W.cell? ⟨Y, 2, none⟩ = some (.string (bs (takB s (rLen a b)))) ∧ W.cell? ⟨X, 0, none⟩ = some (.int .i64 a) ∧ W.cell? ⟨X, 1, none⟩ = some (.int .i64 b)) := Lib.hid (fun W hW => by
    have hy := (hW.block Y (Array.getElem?_eq_some_iff.1 HR6.out).1).trans HR6.out
    have hx := ((bstep HB6.out hW).block X HWx.out).trans HR0.out
    exact ⟨by unfold World.cell?; rw [hy]; rfl, by unfold World.cell?; rw [hx]; rfl, by unfold World.cell?; rw [hx]; rfl⟩)
  have HDr : Hid (Below W6.heap.size W6 W6.drew) := Lib.hid (Below.refl _ _).drew
  obtain ⟨Bd, hBd⟩ : ∃ Bd, bs (takB s (rLen a b)) = Bd := ⟨_, rfl⟩
  rw [hBd] at HS HBB
  by_cases h8 : ((Bd.size : Nat) : Int) = rLen a b
  · have HA : Hid (JudV s a b t = .tuple #[.string Bd, .nilIface]) := Lib.hid (by
      rw [judV_ok s a b t (jud_made s a b t HAs.out.1 HAs.out.2.1 (by have := HAs.out.2.2.1; omega) HAs.out.2.2.2 H7.out.1 H7.out.2.1 ⟨H7.out.2.2.1.1, H7.out.2.2.1.2, H7.out.2.2.2⟩ (by rw [← HBB.out]; exact h8)), hBd])
    have t8 : (((Bd.size : Nat) : Int) != rLen a b) = false := by rw [bne_eq_false_iff_eq]; exact h8
    clear h8 hBd x0 x1
    generalize rLen a b = M at HL t8
    go_region_held3 (fun w' => w'.cell? ⟨Y, 2, none⟩ = some (.string Bd) ∧ w'.cell? ⟨X, 0, none⟩ = some (.int .i64 a) ∧ w'.cell? ⟨X, 1, none⟩ = some (.int .i64 b)) (first | with_reducible exact HS.out _ HDr.out | with_reducible exact HS.out _ HX1.out)
      (first
        | (go_at_call 11; refine (HL.out _).mono ?_; rintro e wa ⟨rfl, hba⟩; have HX1 : Hid (Below W6.heap.size W6 wa) := Lib.hid (bstep HDr.out hba); clear hba))
    obtain ⟨y2, -, -⟩ := HS.out _ HX1.out
    go_wp2_with fail
    go_ret2
    exact ⟨by rw [HA.out] <;> rfl, bstep HB0.out (bstep HB6.out HX1.out)⟩
  · have HA := Lib.hid (judV_bad s a b t 18 (jud_8 s a b t HAs.out.1 HAs.out.2.1 (Int.not_lt.2 HAs.out.2.2.1) HAs.out.2.2.2 H7.out.1 H7.out.2.1 H7.out.2.2 (by rw [← HBB.out]; exact h8)) (by decide))
    have t8 : (((Bd.size : Nat) : Int) != rLen a b) = true := by rw [bne_iff_ne]; exact h8
    clear h8 hBd x0 x1
    generalize rLen a b = M at HL t8
    go_region_held3 (fun w' => w'.cell? ⟨Y, 2, none⟩ = some (.string Bd) ∧ w'.cell? ⟨X, 0, none⟩ = some (.int .i64 a) ∧ w'.cell? ⟨X, 1, none⟩ = some (.int .i64 b)) (first | with_reducible exact HS.out _ HDr.out | with_reducible exact HS.out _ HX1.out)
      (first
        | (go_at_call 11; refine (HL.out _).mono ?_; rintro e wa ⟨rfl, hba⟩; have HX1 : Hid (Below W6.heap.size W6 wa) := Lib.hid (bstep HDr.out hba); clear hba))
    go_wp2_with fail
    go_ret2
    exact ⟨by rw [HA.out]; rfl, bstep HB0.out (bstep HB6.out HX1.out)⟩
end Go.Proofs.YtbdmmgmcbecolaaGreatDoor
