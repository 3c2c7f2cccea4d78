/- What at and Find of a pool return. -/
import Derived.Test.YtjeeedbbdgjgeaaPoolMem
import Derived.Test.YtjeeedbbdgjgeaaQuietS
import Derived.Test.YtjeeedbbdgjgeaaRetCellS
import Derived.Laws.IdiomStrings
namespace Go.Proofs.Ytjeeedbbdgjgeaa
open Go.RowKit Go.Maps PoolPlain

theorem u64_nat (a : Nat) (h : a < 18446744073709551616) : IntKind.u64.wrap (a : Int) = (a : Int) := IntWalk.u64_in _ (by omega)
theorem box2c (w : World) (a b : Value) (t : TypeId) : (w.alloc (.cells #[a, b] t)).cell? ⟨w.heap.size, 0, none⟩ = some a ∧ (w.alloc (.cells #[a, b] t)).cell? ⟨w.heap.size, 1, none⟩ = some b := by
  have h := block_alloc w (.cells #[a, b] t)
  exact ⟨by unfold World.cell?; rw [h]; rfl, by unfold World.cell?; rw [h]; rfl⟩
set_option maxRecDepth 100000 in
theorem content_end (o n : Nat) (w : World) (h : o + n < 18446744073709551616) :
    Calls Try.prog 48 #[.agg #[.int .u64 o, .int .u32 n]] w fun e w' => e = .returned (.int .u64 ((o : Int) + (n : Int))) ∧ Below w.heap.size w w' := by
  have h1 : IntKind.u64.wrap ((o : Int) + (n : Int)) = (o : Int) + (n : Int) := IntWalk.u64_in _ (by omega)
  have h2 : IntKind.u64.wrap (n : Int) = (n : Int) := u64_nat n (by omega)
  go_enter Try.func48, Try.ntmps48
  go_wp2_with fail
  go_ret
  exact ⟨rfl, (Below.refl _ _).alloc (Nat.le_refl _) _⟩
theorem bytesV_get (l : List UInt8) (j : Nat) (hj : j < l.length) : (bytesV l)[j]? = some (.int .u8 (l[j].toNat : Int)) := by
  unfold bytesV; rw [List.getElem?_map, List.getElem?_eq_getElem hj]; rfl
/-- the text of a pool that has a content: its row -/
theorem text_row {w : World} {base : Nat} {tv : Value} {t : List UInt8} (h : w.ownsRow base 5 1 tv t.length (bytesV t)) (hne : 0 < t.length) :
    ∃ g cap, tv = .slice (some ⟨g, 0, none⟩) t.length cap ∧ tv.ownBlock = some g ∧ g < w.heap.size ∧ t.length ≤ cap ∧ cap ≤ maxLen ∧ ∀ j (hj : j < t.length), w.cell? ⟨g, j, none⟩ = some (.int .u8 (t[j].toNat : Int)) := by
  have hc := fun g hg => h.cells (g := g) hg
  rcases h.2 with ⟨rfl, h0⟩ | ⟨g, cap, cur, rfl, hb, hg, hle, hm, hs, ht⟩
  · omega
  · refine ⟨g, cap, rfl, rfl, (Array.getElem?_eq_some_iff.1 hg).1, hle, hm, fun j hj => ?_⟩
    have := hc g rfl j _ (bytesV_get t j hj)
    have e0 : (⟨g, 0, none⟩ : Addr).add j = ⟨g, j, none⟩ := by unfold Addr.add; split <;> simp_all
    rwa [e0] at this
theorem at_plain (g o j : Nat) : (⟨g, o, none⟩ : Addr).add j = ⟨g, o + j, none⟩ := by unfold Addr.add; split <;> simp_all
theorem sub_get (l : List (List UInt8)) (k : Nat) (hk : k < l.length) (x : List UInt8) (hx : l[k] = x) (j : Nat) (hj : j < x.length) : ∃ h : off l k + j < l.flatten.length, l.flatten[off l k + j] = x[j] := by
  subst hx
  have h1 := sub_at l k hk
  have h2 := off_end l k hk
  refine ⟨by omega, ?_⟩
  have : l[k][j] = ((l.flatten.drop (off l k)).take l[k].length)[j]'(by rw [h1]; exact hj) := by congr 1; exact h1.symm
  rw [this, List.getElem_take, List.getElem_drop]
set_option maxRecDepth 100000 in
set_option maxHeartbeats 1000000 in
theorem pool_at (p : Nat) (l : List (List UInt8)) (S : Nat → Prop) (w : World) (hP : PoolAt w p l S) (k : Nat) (hk : k < l.length) :
    Calls Try.prog 35 #[.pointer (some ⟨p, 0, none⟩), .agg #[.int .u64 (off l k : Nat), .int .u32 (l[k].length : Nat)]] w fun e w' => e = .returned (.string (bs l[k])) ∧ Below w.heap.size w w' := by
  have hpl := hP.lt
  obtain ⟨hok, hSl, hSp, tv, pv, mv, hb, ht, hts, -, -, -⟩ := hP
  have hfl := okL_flat l hok
  have hend := off_end l k hk
  have hpos : 0 < l[k].length := List.length_pos_iff.2 (hok.2.1 l[k] (List.getElem_mem _)).1
  obtain ⟨g, cap, rfl, -, hgl, hle, hcm, hcell⟩ := text_row ht (by omega)
  obtain ⟨c0, -, -, -, -, -⟩ := cells3 hb
  obtain ⟨x, hx⟩ : ∃ x, l[k] = x := ⟨_, rfl⟩
  have hsub := fun j hj => sub_get l k hk x hx j hj
  rw [hx] at hend hpos ⊢
  have hce : ∀ j (hj : j < x.length), w.cell? ⟨g, off l k + j, none⟩ = some (.int .u8 (x[j].toNat : Int)) := fun j hj => by
    obtain ⟨h1, h2⟩ := hsub j hj
    rw [hcell _ h1, h2]
  clear hsub hcell hx
  generalize off l k = o at *
  generalize l.flatten.length = m at *
  obtain ⟨b0, b1⟩ := box2c w (.int .u64 (o : Nat)) (.int .u32 (x.length : Nat)) 39
  have hB : Below w.heap.size w (w.alloc (.cells #[.int .u64 (o : Nat), .int .u32 (x.length : Nat)] 39)) := (Below.refl _ _).alloc (Nat.le_refl _) _
  have hz : w.heap.size < (w.alloc (.cells #[.int .u64 (o : Nat), .int .u32 (x.length : Nat)] 39)).heap.size := by rw [World.size_alloc]; omega
  go_enter Try.func35, Try.ntmps35
  go_wp2_with fail
  generalize w.alloc (.cells #[.int .u64 (o : Nat), .int .u32 (x.length : Nat)] 39) = W0 at hB hz b0 b1 ⊢
  have k0 : ∀ p : BelowOf W0, p.world.cell? ⟨w.heap.size, 0, none⟩ = some (.int .u64 (o : Nat)) := fun p => cell_of p hz b0
  have k1 : ∀ p : BelowOf W0, p.world.cell? ⟨w.heap.size, 1, none⟩ = some (.int .u32 (x.length : Nat)) := fun p => cell_of p hz b1
  have k2 : ∀ q : BelowOf W0, q.world.cell? ⟨p, 0, none⟩ = some (.slice (some ⟨g, 0, none⟩) m cap) := fun q => cell_of q (by show p < _; omega) ((hB.cell (p := ⟨p, 0, none⟩) hpl).trans c0)
  have kc : ∀ q : BelowOf W0, (convert 29 9 (.slice (some ⟨g, o, none⟩) x.length (cap - o))).run Try.prog q.world = .ok (.string (bs x)) q.world := fun q =>
    run_convert_bytes_back q.world 29 9 5 ⟨g, o, none⟩ _ x Try.underlying29 Try.underlying5 Try.underlying9 (fun j hj => by
      rw [at_plain]; exact cell_of q (by show g < _; omega) ((hB.cell (p := ⟨g, o + j, none⟩) hgl).trans (hce j hj)))
  have hB := Lib.hid hB
  have g0 : (0 : Int) ≤ (o : Int) := by omega
  have g1 : (o : Int) ≤ (o : Int) + (x.length : Int) := by omega
  have g2 : (o : Int) + (x.length : Int) ≤ (cap : Int) := by omega
  clear hce b0 b1 c0 hb ht
  refine wp_region_quiet_below (by kernel_rfl) (by kernel_rfl) ?_
  repeat (go_big_quiet_step ((go_at_call 48; exact below_of (content_end o x.length _ (by omega)))))
  refine wpQuiet_nil ?_
  intro W1 hw'
  have hb1 := of_class hw'
  clear hw'
  go_wp2_with fail
  go_ret
  exact ⟨rfl, bstep hB.out hb1⟩
/-- the map's types -/
theorem kU64 : Keyed Try.prog 22 := int_keyed Try.underlying22
theorem zeroInts (w : World) : (zeroValue 70).run Try.prog w = .ok (.slice none 0 0) w := by kernel_rfl
theorem key_u64 (x : Nat) (h : x < 18446744073709551616) : keyOf Try.prog 22 (.int .u64 (x : Int)) = some (.int .u64 (x : Int)) := keyOf_int_mk Try.underlying22 (WalkArith.wf_u64 (by omega))
/-- two entries of one key are one -/
theorem entry_one {H : Type} {P : Program} {k : TypeId} {R : Value → Option (DataW H × List MemPlace)} {es : Array MapEntry} {clock : Nat} (F : Go.WideElems.Fit P k R es clock) {x y : MapEntry} (hx : x ∈ es.toList) (hy : y ∈ es.toList) (he : x.key = y.key) : x = y := by
  have hap : es.toList.Pairwise (fun x y => x.key ≠ y.key) := ((Go.MapKept.stamped_iff es clock).1 F.stamped).2.2
  rw [List.pairwise_iff_getElem] at hap
  obtain ⟨i, hi, rfl⟩ := List.getElem_of_mem hx
  obtain ⟨j, hj, rfl⟩ := List.getElem_of_mem hy
  rcases Nat.lt_trichotomy i j with c | c | c
  · exact absurd he (hap i j hi hj c)
  · subst c; rfl
  · exact absurd he.symm (hap j i hj hi c)
/-- what stands at a key of groups, in every world that has their map's block -/
theorem groups_look {H : Type} {P : Program} {k t E : TypeId} {w : World} {base : Nat} {e : TypeId} {q : IntKind} {b n : Nat} {D : DataW H} {S : Nat → Prop} (K : Keyed P k) (ht : P.underlying t = some (.map k E)) (hz : ∀ w, (zeroValue E).run P w = .ok (.slice none 0 0) w)
    (h : w.ownsGroups P k base e q b n D) (hs : w.Shuns b (fun g => ¬ S g)) (hn : n < maxLen) {key : Value} {kl : Lit} (hkey : keyOf P k key = some kl) :
    ∃ v zs, D.atKey kl .nil = rowDatum q v zs ∧ w.ownsInts base e q v zs ∧ zs.length ≤ n ∧ w.groupBack P t k base e q b n D key kl v ∧ (∀ g, v.ownBlock = some g → S g) ∧ ∀ w', w'.heap[b]? = w.heap[b]? → (Instr.lookup t (.map (some b)) key false).run P w' = .ok v w' := by
  obtain ⟨v, zs, hrun, hat, hoi, hzl, hback⟩ := h.at K ht (hz w) hn hkey
  obtain ⟨es, clock, hb, F, -, -, -, -, -⟩ := h
  refine ⟨v, zs, hat, hoi, hzl, hback, ?_, ?_⟩
  · rcases fit_look false K ht (hz w) hb F hkey with ⟨hr, -, -⟩ | ⟨e0, y, hm, -, hr, -, -, -⟩
    · rw [hrun] at hr
      obtain rfl : v = .slice none 0 0 := by simpa using hr
      intro g hg; cases hg
    · rw [hrun] at hr
      obtain rfl : v = e0.val := by simpa using hr
      exact fun g hg => Classical.not_not.1 (hs es clock hb e0 hm g hg)
  · intro w' hw'
    rcases fit_look false K ht (hz w) hb F hkey with ⟨hr, hno, -⟩ | ⟨e0, y, hm, hk0, hr, -, -, -⟩
    · rcases fit_look false K ht (hz w') (hw'.trans hb) F hkey with ⟨hr', -, -⟩ | ⟨e1, y, hm, hk1, -, -, -, -⟩
      · rw [hr'] ; rw [hrun] at hr
        obtain rfl : v = .slice none 0 0 := by simpa using hr
        rfl
      · exact absurd hk1 (hno e1 hm)
    · rcases fit_look false K ht (hz w') (hw'.trans hb) F hkey with ⟨-, hno, -⟩ | ⟨e1, y, hm1, hk1, hr', -, -, -⟩
      · exact absurd hk0 (hno e0 hm)
      · obtain rfl := entry_one F hm hm1 (hk0.trans hk1.symm)
        rw [hr']; rw [hrun] at hr
        obtain rfl : v = e0.val := by simpa using hr
        rfl
theorem lits_inj {a b : List Int} (h : Go.ChangeShapes.lits (H := Unit) .i64 a = Go.ChangeShapes.lits .i64 b) : a = b := by
  unfold Go.ChangeShapes.lits at h
  exact (List.map_inj_right (fun a b hab => by cases hab; rfl)).1 h
theorem row_grp {w : World} {base : Nat} {e : TypeId} {v : Value} {zs ys : List Int} (ho : w.ownsInts base e .i64 v zs) (h : rowDatum (H := Unit) .i64 v zs = grpD ys) : zs = ys := by
  unfold grpD at h
  rcases ho.datum (H := Unit) with ⟨h1, h2⟩ | h1
  · rw [h1] at h
    split at h
    · rename_i hh; rw [h2, hh]
    · cases h
  · rw [h1] at h
    split at h
    · cases h
    · injection h with h3; exact lits_inj h3
/-- the slice v holds the numbers zs -/
def HoldsZ (w : World) (v : Value) (zs : List Int) : Prop := ∃ a c, v = .slice a zs.length c ∧ zs.length ≤ c ∧ (zs ≠ [] → ∃ b, a = some ⟨b, 0, none⟩ ∧ b < w.heap.size ∧ ∀ j (hj : j < zs.length), w.cell? ⟨b, j, none⟩ = some (.int .i64 zs[j]))
theorem HoldsZ.of_own {w : World} {base : Nat} {e : TypeId} {v : Value} {zs : List Int} (h : w.ownsInts base e .i64 v zs) : HoldsZ w v zs := by
  have hc := fun g hg => h.1.cells (g := g) hg
  rcases h.1.2 with ⟨rfl, h0⟩ | ⟨g, cap, cur, rfl, hb, hg, hle, hm, hs, ht⟩
  · obtain rfl := List.eq_nil_of_length_eq_zero h0
    exact ⟨none, 0, rfl, Nat.le_refl _, fun h => absurd rfl h⟩
  · refine ⟨_, cap, rfl, hle, fun _ => ⟨g, rfl, (Array.getElem?_eq_some_iff.1 hg).1, fun j hj => ?_⟩⟩
    have := hc g rfl j (.int .i64 zs[j]) (by rw [List.getElem?_map, List.getElem?_eq_getElem hj]; rfl)
    rwa [at_plain, Nat.zero_add] at this
theorem map_look {w : World} {mv : Value} {l : List (List UInt8)} {S : Nat → Prop} (h : MapAt w mv l S) (hl : l.length ≤ 2048) (x : Nat) (hx : x < 18446744073709551616) :
    ∃ v, HoldsZ w v (grpZ l x) ∧ ∀ w', (∀ g, S g → w'.heap[g]? = w.heap[g]?) → (Instr.lookup 59 mv (.int .u64 (x : Int)) false).run Try.prog w' = .ok v w' := by
  rcases h with ⟨rfl, rfl⟩ | ⟨b, D, rfl, hSb, hg, hsh, hD⟩
  · exact ⟨.slice none 0 0, ⟨none, 0, rfl, Nat.le_refl _, fun h => absurd rfl h⟩, fun w' _ => look_nil false kU64 Try.underlying59 (zeroInts w') (key_u64 x hx)⟩
  · obtain ⟨v, zs, h1, h2, h3, h4, h5, h6⟩ := groups_look kU64 Try.underlying59 zeroInts hg hsh (by unfold maxLen; omega) (key_u64 x hx)
    rw [hD x hx] at h1
    obtain rfl := row_grp h2 h1.symm
    exact ⟨v, HoldsZ.of_own h2, fun w' hw' => h6 w' (hw' b hSb)⟩
/-- the row of places -/
theorem place_row {w : World} {base : Nat} {pv : Value} {l : List (List UInt8)} (h : w.ownsRow base 39 2 pv l.length (pcells l)) (hne : 0 < l.length) :
    ∃ g cap, pv = .slice (some ⟨g, 0, none⟩) l.length cap ∧ pv.ownBlock = some g ∧ g < w.heap.size ∧ l.length ≤ cap ∧ ∀ k (hk : k < l.length), w.cell? ⟨g, k * 2, none⟩ = some (.int .u64 (off l k : Nat)) ∧ w.cell? ⟨g, k * 2 + 1, none⟩ = some (.int .u32 (l[k].length : Nat)) := by
  have hc := fun g hg => h.cells (g := g) hg
  rcases h.2 with ⟨rfl, h0⟩ | ⟨g, cap, cur, rfl, hb, hg, hle, hm, hs, ht⟩
  · omega
  · refine ⟨g, cap, rfl, rfl, (Array.getElem?_eq_some_iff.1 hg).1, hle, fun k hk => ?_⟩
    obtain ⟨h1, h2, -⟩ := pcells_get l k hk
    have k1 := hc g rfl _ _ h1
    have k2 := hc g rfl _ _ h2
    rw [at_plain, Nat.zero_add] at k1 k2
    exact ⟨k1, k2⟩
theorem load_content (w : World) (b : Nat) (t : TypeId) (x y : Value) (h : w.heap[b]? = some (.cells #[x, y] t (0, 0))) : (loadVar 39 ⟨b, 0, none⟩).run Try.prog w = .ok (.agg #[x, y]) w :=
  run_loadVar_row w b t 39 #[x, y] (0, 0) _ h Try.underlying39 rfl (by kernel_rfl)
theorem two_set {w : World} {b : Nat} {x y : Value} {t : TypeId} (h : w.heap[b]? = some (.cells #[x, y] t (0, 0))) (x' y' : Value) :
    ((w.setCell ⟨b, 0, none⟩ x').setCell ⟨b, 1, none⟩ y').heap[b]? = some (.cells #[x', y'] t (0, 0)) := by
  simp [World.setCell, Array.getElem?_modify, h]
theorem cells2 {w : World} {b : Nat} {x y : Value} {t : TypeId} (h : w.heap[b]? = some (.cells #[x, y] t (0, 0))) :
    w.cell? ⟨b, 0, none⟩ = some x ∧ w.cell? ⟨b, 1, none⟩ = some y ∧ w.frozen? ⟨b, 0, none⟩ = false ∧ w.frozen? ⟨b, 1, none⟩ = false := by
  refine ⟨?_, ?_, ?_, ?_⟩
  · unfold World.cell?; rw [h]; rfl
  · unfold World.cell?; rw [h]; rfl
  · unfold World.frozen?; rw [h]; rfl
  · unfold World.frozen?; rw [h]; rfl
/-- what Find returns -/
def FindR (l : List (List UInt8)) (s : List UInt8) (w : World) (e : Ending) (w' : World) : Prop :=
  e = .returned (.tuple #[.agg #[.int .u64 ((fnd l s).1 : Nat), .int .u32 ((fnd l s).2.1 : Nat)], .bool (fnd l s).2.2]) ∧ Below w.heap.size w w'
end Go.Proofs.Ytjeeedbbdgjgeaa
