/- What Fork of a pool does. -/
import Derived.Test.YtjeeedbbdgjgeaaPoolForkMem
import Derived.Deep.RegionHeld3
namespace Go.Proofs.Ytjeeedbbdgjgeaa
open Go.RowKit Go.Maps PoolPlain
theorem row_nil {w : World} {base : Nat} {e : TypeId} {v : Value} {zs : List Int} (ho : w.ownsInts base e .i64 v zs) (h : rowDatum (H := Unit) .i64 v zs = grpD zs) (hz : zs = []) : v = .slice none 0 0 := by
  subst hz
  unfold grpD at h
  rw [if_pos rfl] at h
  rcases ho.1.2 with ⟨rfl, -⟩ | ⟨g, cap, cur, rfl, -⟩
  · rfl
  · unfold rowDatum at h
    simp at h
theorem clone_ints (v : Value) (zs : List Int) (base : Nat) (w : World) (ho : w.ownsInts base 3 .i64 v zs) (hn : zs = [] → v = .slice none 0 0) (hl : zs.length ≤ 134217728) :
    Calls Try.prog 41 #[v] w fun e w' => ∃ v', e = .returned v' ∧ w'.ownsInts w.heap.size 3 .i64 v' zs ∧ rowDatum (H := Unit) .i64 v' zs = rowDatum .i64 v zs ∧ Below w.heap.size w w' := by
  by_cases hz : zs = []
  · have hv := hn hz
    subst hv hz
    refine (clone_nil3 w).mono ?_
    rintro e w' ⟨rfl, rfl⟩
    exact ⟨_, rfl, World.ownsInts_nil _ _ _ _, rfl, Below.refl _ _⟩
  · refine (clone_row v zs.length (zs.map (Value.int .i64)) base w ho.1 (List.length_pos_iff.2 hz) hl (fun u hu => ?_)).mono ?_
    · obtain ⟨z, -, rfl⟩ := List.mem_map.1 hu
      rfl
    · rintro e w' ⟨v', rfl, h1, h2⟩
      have h3 : w'.ownsInts w.heap.size 3 .i64 v' zs := ⟨h1, ho.2⟩
      exact ⟨v', rfl, h3, by rw [h3.datum_pos hz, ho.datum_pos hz], h2⟩
/-- a fork with its two rows -/
def ForkSt (w W : World) (f : Nat) (vt vp mv : Value) (l : List (List UInt8)) : Prop :=
  Below w.heap.size w W ∧ w.heap.size ≤ f ∧ f < W.heap.size ∧ W.heap[f]? = some (.cells #[vt, vp, mv] 61 (0, 0)) ∧ W.ownsRow w.heap.size 5 1 vt l.flatten.length (bytesV l.flatten) ∧ W.ownsRow w.heap.size 39 2 vp l.length (pcells l)
theorem ForkSt.keep {w W W' : World} {f : Nat} {vt vp mv : Value} {l : List (List UInt8)} (h : ForkSt w W f vt vp mv l) (hb : Below w.heap.size W W') (hk : ∀ (g : Nat) (cs : Array Value) (t : TypeId), W.heap[g]? = some (.cells cs t (0, 0)) → W'.heap[g]? = W.heap[g]?) : ForkSt w W' f vt vp mv l := by
  obtain ⟨h1, h2, h3, h4, h5, h6⟩ := h
  refine ⟨h1.trans hb, h2, Nat.lt_of_lt_of_le h3 hb.size, (hk f _ _ h4).trans h4, own_of_block h5 (fun g hg => ?_), own_of_block h6 (fun g hg => ?_)⟩
  · obtain ⟨cur, hc⟩ := own_tag h5 g hg; exact hk g _ _ hc
  · obtain ⟨cur, hc⟩ := own_tag h6 g hg; exact hk g _ _ hc
theorem ForkSt.below {w W W' : World} {f : Nat} {vt vp mv : Value} {l : List (List UInt8)} (h : ForkSt w W f vt vp mv l) (hb : Below W.heap.size W W') : ForkSt w W' f vt vp mv l :=
  h.keep (hb.mono h.1.size) (fun g cs t hg => hb.block g (Array.getElem?_eq_some_iff.1 hg).1)
theorem fork_mk {w W : World} {vt vp : Value} {l : List (List UInt8)} (hB : Below w.heap.size w W) (h1 : W.ownsRow w.heap.size 5 1 vt l.flatten.length (bytesV l.flatten)) (h2 : W.ownsRow w.heap.size 39 2 vp l.length (pcells l)) :
    ForkSt w (W.alloc (.cells #[vt, vp, .map none] 61)) W.heap.size vt vp (.map none) l :=
  ⟨hB.alloc hB.size _, hB.size, by rw [World.size_alloc]; omega, block_alloc W _, h1.alloc _, h2.alloc _⟩
/-- behind a store of a map into a fork -/
theorem ForkSt.set {w W : World} {f : Nat} {vt vp mv : Value} {l : List (List UInt8)} (h : ForkSt w W f vt vp mv l) (m' : Value) : ForkSt w (W.setCell ⟨f, 2, none⟩ m') f vt vp m' l := by
  obtain ⟨h1, h2, h3, h4, h5, h6⟩ := h
  refine ⟨h1.setCell (p := ⟨f, 2, none⟩) h2 _, h2, by rw [set_size]; exact h3, by rw [set_block h4]; rfl, own_of_block h5 (fun g hg => set_other _ (fun e => own_not_row h5 h4 (by decide) (by rw [hg, e]))), own_of_block h6 (fun g hg => set_other _ (fun e => own_not_row h6 h4 (by decide) (by rw [hg, e])))⟩
theorem bytes_one (l : List UInt8) : ∀ u ∈ bytesV l, u.oneCell' = true := fun u hu => by
  unfold bytesV at hu
  obtain ⟨z, -, rfl⟩ := List.mem_map.1 hu
  rfl
theorem pcells_one (l : List (List UInt8)) : ∀ u ∈ pcells l, u.oneCell' = true := fun u hu => by
  unfold pcells at hu
  obtain ⟨k, -, hk⟩ := List.mem_flatMap.1 hu
  unfold pcell at hk
  rcases List.mem_cons.1 hk with rfl | hk
  · rfl
  · rcases List.mem_cons.1 hk with rfl | hk
    · rfl
    · cases hk
theorem grown_of_below {w w' : World} (h : Below w.heap.size w w') : w.grownBy w' none := ⟨h.os, h.tape, h.output, h.size, fun k hk _ => h.block k hk⟩
theorem ranges_iter {P : Program} {k : TypeId} {R : Value → Option (DataW Unit × List MemPlace)} {w : World} {b r n : Nat} {D : DataW Unit} {left : Lit → Bool} {cnt : Nat} (h : w.ranges P k R b r n D left cnt) : ∃ a s t c, w.heap[r]? = some (.mapIter a s t c) := by
  obtain ⟨es, clock, since, seen, c0, -, -, -, -, hr, -⟩ := h
  exact ⟨_, _, _, _, hr⟩
theorem fork_start {w W : World} {b b' : Nat} {D : DataW Unit} {es : Array MapEntry} {clock : Nat} (hB : Below w.heap.size w W) (hb : W.heap[b']? = some (.map es clock)) (F : Go.WideElems.Fit Try.prog 22 (rowElem (H := Unit) w (b + 1) 3 .i64) es clock) (hD : D = .map ((es.toList.map (Go.WideElems.rg Try.prog 22 (rowElem w (b + 1) 3 .i64))).foldr DataW.insert [])) :
    ForkMap W b' (b' + 1) D (Maps.has D) := by
  have hst : ∀ x ∈ es.toList, ∀ z, rowElem (H := Unit) w (b + 1) 3 .i64 x.val = some z → rowElem W 0 3 .i64 x.val = some z := fun x hx z hz => by
    obtain ⟨zs, ho, rfl⟩ := rowElem_inv hz
    exact rowElem_mk (ints_base ⟨own_of_block ho.1 (fun g hg => hB.block g (ho.1.lt g hg).2), ho.2⟩ (fun g _ => Nat.zero_le _))
  obtain ⟨F1, hmap, -⟩ := F.stay hst
  exact ForkMap.start hb F1 (by rw [hmap]; exact hD)
/-- what the fork's map has room for -/
theorem ForkMap.room {w : World} {b base n : Nat} {D : DataW Unit} {left : Lit → Bool} (h : ForkMap w b base D left) (hs : ∀ L, D = .map L → L.length ≤ n) : ∀ es clock, w.heap[b]? = some (.map es clock) → es.size ≤ n := by
  obtain ⟨es0, clock0, hbk, F, hD, -, -⟩ := h
  intro es clock he
  rw [hbk] at he
  obtain ⟨rfl, rfl⟩ : es0 = es ∧ clock0 = clock := by simpa using he
  have := hs _ hD
  rw [length_sorted] at this
  simpa using this
/-- what a round of the fork's loop holds when it goes on -/
def ForkNext (w W w3 : World) (b B f cnt1 : Nat) (vt vp : Value) (l : List (List UInt8)) (D : DataW Unit) (left : Lit → Bool) : Prop :=
  Hid (w3.ranges Try.prog 22 (rowElem (H := Unit) w (b + 1) 3 .i64) b (B + 1) l.length D left cnt1) ∧ Hid (ForkMap w3 B (B + 1) D left) ∧ Hid (ForkSt w w3 f vt vp (.map (some B)) l) ∧ B + 1 < w3.heap.size
/-- one round -/
theorem fork_step {w wr w1 : World} {b B f n cnt cnt1 : Nat} {vt vp : Value} {l : List (List UInt8)} {D : DataW Unit} {left : Lit → Bool} {X : Nat} {c : Value} {zs : List Int}
    (hbw : b < w.heap.size) (hr : wr.ranges Try.prog 22 (rowElem (H := Unit) w (b + 1) 3 .i64) b (B + 1) n D left cnt) (hm : ForkMap wr B (B + 1) D left) (hs : ForkSt w wr f vt vp (.map (some B)) l) (hfB : f < B) (hz : B + 1 < wr.heap.size) (hX : X < 18446744073709551616)
    (hG : Groups D l) (hsz : ∀ L, D = .map L → L.length ≤ l.length) (hl : l.length ≤ 2048) (ho : w.ownsInts (b + 1) 3 .i64 c zs) (hat : ∀ zd, D.atKey (.int .u64 (X : Int)) zd = rowDatum .i64 c zs)
    (h1 : w1.ranges Try.prog 22 (rowElem (H := Unit) w (b + 1) 3 .i64) b (B + 1) l.length D (fun z => left z && !z.sameKey (.int .u64 (X : Int))) cnt1) (hg : wr.grownBy w1 (some (B + 1))) :
    ForkSt w w1 f vt vp (.map (some B)) l ∧ ∀ W, Below w1.heap.size w1 W → Calls Try.prog 41 #[c] W fun e w' => ∃ v' w3, e = .returned v' ∧ w'.cell? ⟨f, 2, none⟩ = some (.map (some B)) ∧ (Instr.mapUpdate 59 (.map (some B)) (.int .u64 (X : Int)) v').run Try.prog w' = .ok () w3 ∧ ForkNext w W w3 b B f cnt1 vt vp l D (fun z => left z && !z.sameKey (.int .u64 (X : Int))) := by
  obtain ⟨a0, s0, t0, c0, hit⟩ := ranges_iter hr
  have hB1 : Below w.heap.size wr w1 := ⟨hg.os, hg.tape, hg.output, hg.size, fun k hk => hg.block k (by have := hs.1.size; omega) (fun e => by injection e with e; have := hs.2.1; omega)⟩
  have FS1 := hs.keep hB1 (fun g cs t hc => hg.block g (Array.getElem?_eq_some_iff.1 hc).1 (fun e => by injection e with e; rw [e, hit] at hc; cases hc))
  have FM1 := hm.keep (hg.block B (by omega) (fun e => by injection e with e; omega)) (fun g hlt hc => hg.block g hlt (fun e => by obtain ⟨cur, hc⟩ := hc; injection e with e; rw [e, hit] at hc; cases hc))
  have hgr : rowDatum (H := Unit) .i64 c zs = grpD (grpZ l X) := (hat .nil).symm.trans (hG X hX)
  obtain rfl := row_grp ho hgr
  refine ⟨FS1, fun W hW => ?_⟩
  have hwW : Below w.heap.size w W := FS1.1.trans (hW.mono FS1.1.size)
  refine (clone_ints c (grpZ l X) (b + 1) W ⟨own_of_block ho.1 (fun g hg => hwW.block g (ho.1.lt g hg).2), ho.2⟩ (row_nil ho hgr) ?_).mono ?_
  · unfold grpZ
    rw [List.length_map]
    have := grp_length l X
    omega
  · rintro e w' ⟨v', rfl, k1, k2, k3⟩
    have FM2 := FM1.below hW
    obtain ⟨w3, r1, r2, r3⟩ := FM2.store k3 (by have := hg.size; have := hW.size; omega) hX k1 ⟨l.length, by unfold maxLen; omega, FM2.room hsz⟩ (fun zd => by rw [k2]; exact hat zd)
    have FS2 := (FS1.below hW).below k3
    have hBs : B < w'.heap.size := by have := hg.size; have := hW.size; have := k3.size; omega
    have hmb : ∃ es clock, w'.heap[B]? = some (.map es clock) := by obtain ⟨es, clock, hh, -⟩ := FM2.below k3; exact ⟨es, clock, hh⟩
    obtain ⟨es, clock, hmb⟩ := hmb
    have hB3 : Below w.heap.size w' w3 := ⟨r2.os, r2.tape, r2.output, r2.size, fun k hk => r2.block k (by have := FS2.1.size; omega) (fun e => by injection e with e; have := FS2.2.1; omega)⟩
    have FS3 := FS2.keep hB3 (fun g cs t hc => r2.block g (Array.getElem?_eq_some_iff.1 hc).1 (fun e => by injection e with e; rw [e, hmb] at hc; cases hc))
    obtain ⟨-, -, c2, -⟩ := cells3 FS2.2.2.2.1
    have hbB : b ≠ B := fun e => by have := hs.2.1; omega
    exact ⟨v', w3, rfl, c2, r1, Lib.hid ((((h1.kept (grown_of_below hW) (by simp) (by simp)).kept (grown_of_below k3) (by simp) (by simp))).kept r2 (fun e => by injection e with e; exact hbB e) (fun e => by injection e with e; omega)), Lib.hid r3, Lib.hid FS3, by have := hg.size; have := hW.size; have := k3.size; have := r2.size; omega⟩
/-- what Fork leaves -/
def ForkR (l : List (List UInt8)) (w : World) (e : Ending) (w' : World) : Prop := ∃ f S, e = .returned (.pointer (some ⟨f, 0, none⟩)) ∧ PoolAt w' f l S ∧ (∀ g, S g → w.heap.size ≤ g) ∧ Below w.heap.size w w'
set_option maxRecDepth 100000 in
set_option maxHeartbeats 8000000 in
theorem fork_full (p : Nat) (l : List (List UInt8)) (S : Nat → Prop) (w : World) (hP : PoolAt w p l S) (hne : l ≠ []) :
    Calls Try.prog 31 #[.pointer (some ⟨p, 0, none⟩)] w (ForkR l w) := by
  have hpl := hP.lt
  obtain ⟨hok, hSl, hSp, tv, pv, mv, hb, ht, hts, hpr, hps, hm⟩ := hP
  obtain ⟨c0, c1, c2, -, -, -⟩ := cells3 hb
  have hfl := okL_flat l hok
  have hl2 : l.length ≤ 2048 := hok.1
  have hlp : 0 < l.length := List.length_pos_iff.2 hne
  have hfp : 0 < l.flatten.length := by
    have h1 := off_end l 0 hlp
    have h2 := List.length_pos_iff.2 (hok.2.1 l[0] (List.getElem_mem _)).1
    omega
  rcases hm with ⟨-, h0⟩ | ⟨b, D, rfl, hSb, hg, hsh, hG⟩
  · exact absurd h0 hne
  obtain ⟨es, clock, hbm, F, hsz, hD, hbb, -, -⟩ := id hg
  have hblt := hSl b hSb
  have HOwn : Hid (∀ W, Below w.heap.size w W → W.ownsMap Try.prog 22 (rowElem (H := Unit) w (b + 1) 3 .i64) b l.length D) := Lib.hid (fun W hW => ⟨es, clock, (hW.block b hblt).trans hbm, F, hsz, hD⟩)
  have HT : Hid (∀ W, Below w.heap.size w W → Calls Try.prog 38 #[tv] W fun e w' => ∃ g cap, e = .returned (.slice (some ⟨g, 0, none⟩) l.flatten.length cap) ∧ w'.ownsRow w.heap.size 5 1 (.slice (some ⟨g, 0, none⟩) l.flatten.length cap) l.flatten.length (bytesV l.flatten) ∧ Below W.heap.size W w') := Lib.hid (fun W hW => by
    refine (clone_text tv _ _ 0 W (own_of_block ht (fun g hg => hW.block g (ht.lt g hg).2)) hfp hfl (bytes_one _)).mono ?_
    rintro e w' ⟨v', rfl, h1, h2⟩
    obtain ⟨g, cap, rfl, -, -⟩ := h1.form hfp
    exact ⟨g, cap, rfl, own_lower h1 hW.size, h2⟩)
  have HPl : Hid (∀ W, Below w.heap.size w W → Calls Try.prog 39 #[pv] W fun e w' => ∃ g cap, e = .returned (.slice (some ⟨g, 0, none⟩) l.length cap) ∧ w'.ownsRow w.heap.size 39 2 (.slice (some ⟨g, 0, none⟩) l.length cap) l.length (pcells l) ∧ Below W.heap.size W w') := Lib.hid (fun W hW => by
    refine (clone_places pv _ _ 0 W (own_of_block hpr (fun g hg => hW.block g (hpr.lt g hg).2)) hlp (by omega) (pcells_one _)).mono ?_
    rintro e w' ⟨v', rfl, h1, h2⟩
    obtain ⟨g, cap, rfl, -, -⟩ := h1.form hlp
    exact ⟨g, cap, rfl, own_lower h1 hW.size, h2⟩)
  have HS : Hid (∀ W, Below w.heap.size w W → W.cell? ⟨p, 0, none⟩ = some tv ∧ W.cell? ⟨p, 1, none⟩ = some pv) := Lib.hid (fun W hW => ⟨(hW.cell (p := ⟨p, 0, none⟩) hpl).trans c0, (hW.cell (p := ⟨p, 1, none⟩) hpl).trans c1⟩)
  have HC2 : Hid (∀ W, Below w.heap.size w W → W.cell? ⟨p, 2, none⟩ = some (.map (some b)) ∧ W.heap[b]? = some (.map es clock)) := Lib.hid (fun W hW => ⟨(hW.cell (p := ⟨p, 2, none⟩) hpl).trans c2, (hW.block b hblt).trans hbm⟩)
  have HBase := Lib.hid (And.intro F (And.intro hD (And.intro hG (And.intro hsz hok))))
  obtain ⟨M, hM⟩ : ∃ M, l.flatten.length = M := ⟨_, rfl⟩
  have HM := Lib.hid hM
  rw [hM] at HT
  have hq : ∀ (w : World) (r : Option Nat), (binOp .neq 59 (.map r) (.map none)).run Try.prog w = .ok (.bool (!r.isNone)) w := fun w r => run_neq_map_nil w _ _ _ r Try.underlying59
  clear hb ht hts hpr hps hg hsh hG hbm F hD hsz hok hM hfl hfp c0 c1 c2 hSl
  go_enter Try.func31, Try.ntmps31
  go_wp2_with fail
  go_region_held3 (fun w' => w'.cell? ⟨p, 0, none⟩ = some tv ∧ w'.cell? ⟨p, 1, none⟩ = some pv) (first | exact HS.out _ (Below.refl _ _).drew | exact HS.out _ HA1.out | exact HS.out _ HA2.out | exact HS.out _ (HA2.out.alloc HA2.out.size _))
    (first
      | (go_at_call 38; refine (HT.out _ (by first | exact (Below.refl _ _).drew | exact HA1.out)).mono ?_; rintro e wt ⟨gt, ct, rfl, hot, hbt⟩; (first | (have HA2 : Hid (Below w.heap.size w wt) := Lib.hid (bstep HA1.out hbt)) | (have HA1 : Hid (Below w.heap.size w wt) := Lib.hid (bstep (Below.refl _ _).drew hbt))); have HOT := Lib.hid hot; have HBT := Lib.hid hbt; clear hot hbt)
      | (go_at_call 39; refine (HPl.out _ (by first | exact (Below.refl _ _).drew | exact HA1.out)).mono ?_; rintro e wp ⟨gp, cp, rfl, hop, hbp⟩; (first | (have HA2 : Hid (Below w.heap.size w wp) := Lib.hid (bstep HA1.out hbp)) | (have HA1 : Hid (Below w.heap.size w wp) := Lib.hid (bstep (Below.refl _ _).drew hbp))); have HOP := Lib.hid hop; have HBP := Lib.hid hbp; clear hop hbp))
  all_goals
    first
    | (have FS := fork_mk HA2.out (show wp.ownsRow w.heap.size 5 1 (.slice (some ⟨gt, 0, none⟩) M ct) l.flatten.length (bytesV l.flatten) by rw [HM.out]; exact own_of_block HOT.out (fun g hg => HBP.out.block g (HOT.out.lt g hg).2)) HOP.out)
    | (have FS := fork_mk HA2.out (show wt.ownsRow w.heap.size 5 1 (.slice (some ⟨gt, 0, none⟩) M ct) l.flatten.length (bytesV l.flatten) by rw [HM.out]; exact HOT.out) (own_of_block HOP.out (fun g hg => HBT.out.block g (HOP.out.lt g hg).2)))
    clear HOT HOP HBT HBP HA1 HA2 HT HPl HS
  all_goals
    first
    | (generalize wp.alloc (.cells #[.slice (some ⟨gt, 0, none⟩) M ct, .slice (some ⟨gp, 0, none⟩) l.length cp, .map none] 61) = W3 at FS ⊢; generalize wp.heap.size = f at FS ⊢)
    | (generalize wt.alloc (.cells #[.slice (some ⟨gt, 0, none⟩) M ct, .slice (some ⟨gp, 0, none⟩) l.length cp, .map none] 61) = W3 at FS ⊢; generalize wt.heap.size = f at FS ⊢)
  all_goals
    obtain ⟨m2, mb⟩ := HC2.out _ FS.1
    have hp3 : p < W3.heap.size := Nat.lt_of_lt_of_le hpl FS.1.size
    have HMC := Lib.hid (maps_clone b es clock W3 mb)
    have HFS := Lib.hid FS
    clear FS mb
    go_wp2_with fail
    refine HMC.out.mono ?_
    rintro e W4 ⟨rfl, hW4⟩
    have FS4 := Lib.hid (HFS.out.below (w := w) (W' := W4) (by rw [hW4]; exact own_new W3 _ _ (Nat.le_refl _)))
    have hm4 : W4.heap[W3.heap.size]? = some (.map es clock) := by rw [hW4]; exact block_alloc W3 _
    have hz4 : W4.heap.size = W3.heap.size + 1 := by rw [hW4]; exact World.size_alloc _ _
    have HM4 := Lib.hid hm4
    obtain ⟨-, -, f2, -, -, ff2⟩ := cells3 FS4.out.2.2.2.1
    have m4 := (HC2.out _ FS4.out.1).1
    have hpf : p ≠ f := fun e => by have := FS4.out.2.1; omega
    have hfl4 := FS4.out.2.2.1
    clear hW4 hm4 HMC m2
    have HO5 : Hid (Below w.heap.size w (W4.setCell ⟨f, 2, none⟩ (.map (some W3.heap.size)))) := Lib.hid (FS4.out.1.setCell (p := ⟨f, 2, none⟩) FS4.out.2.1 _)
    go_wp2_with (at_range; (refine wpList_range_own _ rfl _ 59 rfl 22 70 kU64 Try.underlying59 _ b l.length D rfl (HOwn.out _ HO5.out) ?_); intro w0 hrg0 hg0 hs0)
    go_frame
    have hz5 : (W4.setCell ⟨f, 2, none⟩ (.map (some W3.heap.size))).heap.size = W3.heap.size + 1 := by rw [set_size, hz4]
    have FS5 := FS4.out.set (.map (some W3.heap.size))
    have hfB : f < W3.heap.size := HFS.out.2.2.1
    have FM5 := fork_start (b' := W3.heap.size) HO5.out ((set_other _ (by omega)).trans HM4.out) HBase.out.1 HBase.out.2.1
    have hg0B : Below (W4.setCell ⟨f, 2, none⟩ (.map (some W3.heap.size))).heap.size (W4.setCell ⟨f, 2, none⟩ (.map (some W3.heap.size))) w0 := ⟨hg0.os, hg0.tape, hg0.output, hg0.size, fun k hk => hg0.block k hk (by simp)⟩
    have HFS0 := Lib.hid (FS5.below hg0B)
    have HFM0 := Lib.hid (FM5.below hg0B)
    rw [hz5] at hrg0 hs0 ⊢
    have HR0 := Lib.hid hrg0
    clear hg0B FS5 FM5 hg0 HM4 FS4 HO5 HFS f2 ff2 m4 hz4 hz5 hrg0 hfl4
    generalize W3.heap.size = B at *
    go_loopw [4, 5] (fun _ _ wr => ∃ (left : Lit → Bool) (cnt : Nat), Hid (wr.ranges Try.prog 22 (rowElem (H := Unit) w (b + 1) 3 .i64) b (B + 1) l.length D left cnt) ∧ Hid (ForkMap wr B (B + 1) D left) ∧ Hid (ForkSt w wr f (.slice (some ⟨gt, 0, none⟩) M ct) (.slice (some ⟨gp, 0, none⟩) l.length cp) (.map (some B)) l) ∧ B + 1 < wr.heap.size) (fun _ _ wr => wr.rangeLeft b (B + 1))
    case atStart => exact ⟨_, _, HR0, HFM0, HFS0, by omega⟩
    case round =>
      obtain ⟨left, cnt, HR, HFM, HFS, hzr⟩ := hrel
      clear HR0 HFM0 HFS0
      have hle := HR.out.left_eq
      have HLe := Lib.hid hle
      clear hle
      go_wp2_with (at_next; (refine wpList_next_ranges _ rfl _ rfl 22 kU64 _ (Value.int .u64) (fun v => v) (fun key kl h => by obtain ⟨x, rfl, _⟩ := Maps.keyOf_int_inv Try.underlying22 h; exact ⟨x, rfl⟩) (fun v y _ => ⟨v, rfl⟩) b (B + 1) l.length D left cnt rfl HR.out ?_ ?_))
      · intro hc0 hl0
        have HL0 := Lib.hid hl0
        clear hl0
        go_wp2_with fail
        go_ret
        obtain ⟨g1, g2⟩ := HFM.out.finish HL0.out HBase.out.2.2.1 (fun L hL => by
          have h := HBase.out.2.1
          rw [hL] at h
          injection h with h
          rw [h, length_sorted]
          simp only [List.length_map, Array.length_toList]
          exact HBase.out.2.2.2.1)
        obtain ⟨s1, s2, s3, s4, s5, s6⟩ := HFS.out
        refine ⟨f, fun g => w.heap.size ≤ g ∧ g < wr.heap.size, rfl, ⟨HBase.out.2.2.2.2, fun g hg => hg.2, ⟨s2, s3⟩, _, _, _, s4, own_lower s5 (Nat.zero_le _), fun g hg => ⟨(s5.lt g hg).1, (s5.lt g hg).2⟩, own_lower s6 (Nat.zero_le _), fun g hg => ⟨(s6.lt g hg).1, (s6.lt g hg).2⟩, .inr ⟨B, D, rfl, ⟨by omega, by omega⟩, g1, fun es2 c2 he x hx g hg hn => g2 es2 c2 he x hx g hg (fun hh => hn ⟨by omega, hh.2⟩), HBase.out.2.2.1⟩⟩, fun g hg => hg.1, s1⟩
      · intro x c kl y ms w1 cnt1 hkx hlk hv hat hrg1 hlt hg1 hs1 hen
        obtain ⟨x', ex, hkl, hwx⟩ := Maps.keyOf_int_inv Try.underlying22 hkx
        cases ex; subst hkl
        have hbx := bounds_u64 hwx
        obtain ⟨X, rfl⟩ := Int.eq_ofNat_of_zero_le hbx.1
        obtain ⟨zs, hoc, hyz⟩ := rowElem_inv hv
        injection hyz with hy hms
        subst hy hms
        have hX : X < 18446744073709551616 := by omega
        obtain ⟨FS1, HCl⟩ := fork_step hblt HR.out HFM.out HFS.out hfB hzr hX HBase.out.2.2.1 (fun L hL => by
          have h := HBase.out.2.1
          rw [hL] at h
          injection h with h
          rw [h, length_sorted]
          simp only [List.length_map, Array.length_toList]
          exact HBase.out.2.2.2.1) (by have := HBase.out.2.2.2.2.1; omega) hoc hat hrg1 hg1
        have HF1 := Lib.hid FS1
        have HCLN := Lib.hid HCl
        clear FS1 HCl hat hoc hv hkx hlk hwx hbx hrg1 hg1 HR HFM HFS
        go_wp2_with fail
        go_region_held3 (fun w' => w'.cell? ⟨f, 2, none⟩ = some (.map (some B))) (first | exact hc2 | exact (cells3 HN.out.2.2.1.out.2.2.2.1).2.2.1 | exact (cells3 (HF1.out.below (Below.refl _ _).drew).2.2.2.1).2.2.1)
          (first
            | (go_at_call 41; refine (HCLN.out _ (Below.refl _ _).drew).mono ?_; rintro e w2 ⟨v', w3, rfl, hc2, hrun, hn⟩; have HN := Lib.hid hn; clear hn))
        all_goals
          clear hrun hc2
          go_wp2_with fail
          go_roundw
          case rel => exact ⟨_, _, HN.out.1, HN.out.2.1, HN.out.2.2.1, HN.out.2.2.2⟩
          case measure => rw [HN.out.1.out.left_eq, HLe.out]; exact hlt
end Go.Proofs.Ytjeeedbbdgjgeaa
